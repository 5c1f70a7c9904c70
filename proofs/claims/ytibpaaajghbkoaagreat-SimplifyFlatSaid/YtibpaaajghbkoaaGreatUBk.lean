/-   -/
import Derived.Test.YtibpaaajghbkoaaGreatUAm
import Derived.Test.YtibpaaajghbkoaaGreatUAn
import Derived.Test.YtibpaaajghbkoaaGreatUAu
import Derived.Test.YtibpaaajghbkoaaGreatUAl
namespace Go.Proofs.YtibpaaajghbkoaaGreat
open Go.RowKit Go.Sort
set_option maxRecDepth 100000 in
set_option maxHeartbeats 2000000 in
theorem first_grew (v : Value) (l : List Pt) (w : World) (hl : l.length ≤ 1000) (hv : RowE encPt 2 w v l) :
  Calls Tryz.prog 91 #[v] w fun e w' => e = .returned (.int .i64 (firstC l)) ∧ Grew w w' := by
 obtain ⟨a, cap, rfl, hc⟩ := hv
 obtain ⟨N, hN⟩ : ∃ N, l.length = N := ⟨_, rfl⟩
 rw [hN] at hl hc ⊢
 have HN := Lib.hid hN
 have HC := Lib.hid hc
 obtain ⟨res, hres⟩ : ∃ z, firstC l = z := ⟨_, rfl⟩
 rw [hres]
 have HR := Lib.hid hres
 have CP := Lib.hid (fun x y w => Tryz.cmp_Compare_int x y w)
 clear hN hc hres
 go_enter Tryz.func91, Tryz.ntmps91
 go_wp2
 go_loopw [8] (fun i wr => ∃ k : Nat, k ≤ N ∧ i = .int .i64 k ∧ Hid (firstC (l.drop k) = res) ∧ Grew w wr) (fun i _ => N - (intOf i).toNat)
 case atStart => exact ⟨0, by omega, rfl, HR, Grew.refl _⟩
 case round =>
  obtain ⟨k, hk, rfl, hT, hgr⟩ := hrel
  have hbr := hgr.below
  have hsz := hbr.size
  by_cases hlt : k < N
  ·obtain ⟨p, hp⟩ : ∃ p, l[k]? = some p := ⟨l[k]'(by rw [HN.out]; exact hlt), List.getElem?_eq_getElem _⟩
   obtain ⟨b, off, ha, hcell⟩ := HC.out (by omega)
   subst ha
   have c0 := cell_later hbr (hcell k p hp 0 _ rfl)
   have c1 := cell_later hbr (hcell k p hp 1 _ rfl)
   have c0' : wr.cell? ⟨b, off + k * 2, none⟩ = some (.int .i64 p.1) := c0
   have HD := Lib.hid (firstC_drop l k p hp)
   obtain ⟨x, y⟩ := p
   simp only [] at c0' c1 HD
   clear c0 hcell hp
   go_wp2_with fail
   refine (CP.out x y _).mono ?_
   rintro e w2 ⟨rfl, rfl⟩
   obtain ⟨c, hcv⟩ : ∃ z, z = Lib.compareInt x y := ⟨_, rfl⟩
   rw [← hcv] at HD ⊢
   clear hcv
   by_cases h0 : c = 0
   ·subst h0
    have HG : Hid (firstC (l.drop (k + 1)) = res) := Lib.hid (by rw [← hT.out, HD.out, if_pos rfl])
    go_wp2
    go_roundw
    case rel => exact ⟨k + 1, by omega, by go_num, HG, hgr.alloc _⟩
    case measure => simp [intOf]; omega
   ·have h0d : (c != 0) = true := by rw [bne_iff_ne]; exact h0
    have HE := Lib.hid (show res = c by rw [← hT.out, HD.out, if_neg h0])
    go_wp2
    go_ret
    exact ⟨by rw [HE.out] <;> rfl, hgr.alloc _⟩
  ·obtain rfl : k = N := by omega
   have HE := Lib.hid (show res = 0 by rw [← hT.out, List.drop_of_length_le (by rw [HN.out]; exact Nat.le_refl _)]; rfl)
   go_wp2
   go_ret
   exact ⟨by rw [HE.out] <;> rfl, hgr⟩
set_option maxHeartbeats 1000000 in
theorem gcomp_grew (p q : Pt) (w : World) :
  Calls Tryz.prog 51 #[ptV p, ptV q] w fun e w' => e = .returned (.int .i64 (lexC p q)) ∧ Grew w w' := by
 have FR := Lib.hid (fun (v : Value) w' hv => by
  have := first_grew v [(p.1, q.1), (p.2, q.2)] w' (by simp) hv
  rw [lexC_first] at this
  exact this)
 generalize lexC p q = n at FR ⊢
 obtain ⟨px, py⟩ := p
 obtain ⟨qx, qy⟩ := q
 simp only [] at FR ⊢
 go_enter Tryz.func51, Tryz.ntmps51
 go_wp2_with fail
 refine (FR.out _ _ (RowE.of_block (l := [(px, qx), (py, qy)]) encPt_len rfl (row_new2 w (.cells #[.int .i64 px, .int .i64 py] 33) (.cells #[.int .i64 qx, .int .i64 qy] 33) (.cells #[.int .i64 px, .int .i64 qx, .int .i64 py, .int .i64 qy] 130)) 2 rfl)).mono ?_
 rintro e w2 ⟨rfl, hg⟩
 have B2 := ((((Grew.refl w).alloc _).alloc _).alloc _).trans hg
 go_wp2
 go_ret
 exact ⟨rfl, B2⟩
abbrev triV (a b c : Pt) : Value := .agg #[.int .i64 a.1, .int .i64 a.2, .int .i64 b.1, .int .i64 b.2, .int .i64 c.1, .int .i64 c.2]
set_option maxRecDepth 100000 in
set_option maxHeartbeats 2000000 in
theorem twice_any (a b c : Pt) (ha : nearQ a = true) (hb : nearQ b = true) (hc : nearQ c = true) (w : World) :
  Calls Tryz.prog 110 #[triV a b c] w fun e w' => e = .returned (.int .i64 (crs a b c)) ∧ Below w.heap.size w w' := by
 have s1 := near_diff ha hb
 have s2 := near_diff ha hc
 have h1 := mul_bd (show -4194304 ≤ b.1 - a.1 ∧ b.1 - a.1 ≤ 4194304 from ⟨s1.1, s1.2.1⟩) (show -4194304 ≤ c.2 - a.2 ∧ c.2 - a.2 ≤ 4194304 from ⟨s2.2.2.1, s2.2.2.2⟩)
 have h2 := mul_bd (show -4194304 ≤ b.2 - a.2 ∧ b.2 - a.2 ≤ 4194304 from ⟨s1.2.2.1, s1.2.2.2⟩) (show -4194304 ≤ c.1 - a.1 ∧ c.1 - a.1 ≤ 4194304 from ⟨s2.1, s2.2.1⟩)
 have HC := Lib.hid (show (b.1 - a.1) * (c.2 - a.2) - (b.2 - a.2) * (c.1 - a.1) = crs a b c from rfl)
 generalize crs a b c = n at HC ⊢
 have hq1 := near_bd ha
 have hq2 := near_bd hb
 have hq3 := near_bd hc
 obtain ⟨ax, ay⟩ := a
 obtain ⟨bx, by1⟩ := b
 obtain ⟨cx, cy⟩ := c
 simp only [] at h1 h2 HC hq1 hq2 hq3 ⊢
 have d1 : IntKind.i64.wrap (bx - ax) = bx - ax := IntWalk.i64_in _ (by omega)
 have d2 : IntKind.i64.wrap (cy - ay) = cy - ay := IntWalk.i64_in _ (by omega)
 have d3 : IntKind.i64.wrap (by1 - ay) = by1 - ay := IntWalk.i64_in _ (by omega)
 have d4 : IntKind.i64.wrap (cx - ax) = cx - ax := IntWalk.i64_in _ (by omega)
 have w1 : IntKind.i64.wrap ((bx - ax) * (cy - ay)) = (bx - ax) * (cy - ay) := IntWalk.i64_in _ (by omega)
 have w2 : IntKind.i64.wrap ((by1 - ay) * (cx - ax)) = (by1 - ay) * (cx - ax) := IntWalk.i64_in _ (by omega)
 have w3 : IntKind.i64.wrap ((bx - ax) * (cy - ay) - (by1 - ay) * (cx - ax)) = (bx - ax) * (cy - ay) - (by1 - ay) * (cx - ax) := IntWalk.i64_in _ (by omega)
 clear ha hb hc h1 h2 s1 s2 hq1 hq2 hq3
 go_enter Tryz.func110, Tryz.ntmps110
 go_wp2
 go_ret
 exact ⟨by rw [← HC.out] <;> rfl, (by repeat' (first | exact Below.refl _ _ | refine Below.drew ?_ | refine Below.drewN' ?_ | refine Below.setCell ?_ (by first | omega | (simp; done) | exact Below.size (by assumption) | (simp; omega)) _ | refine Below.alloc ?_ (by first | omega | (simp; done) | exact Below.size (by assumption) | (simp; omega)) _ | refine Below.trans ?_ (Below.mono (by assumption) ?_) | (first | omega | (simp; done) | exact Below.size (by assumption) | (simp; omega))))⟩
end Go.Proofs.YtibpaaajghbkoaaGreat

namespace Go.Proofs.YtibpaaajghbkoaaGreat
open Go.RowKit Go.Sort
set_option maxHeartbeats 1000000 in
theorem ringNear_any (p : Pt) (hp : nearQ p = true) (w : World) :
  Calls Tryz.prog 97 #[ptV p] w fun e w' => e = .returned (.bool true) ∧ Below w.heap.size w w' := by
 have hb := near_bd hp
 obtain ⟨px, py⟩ := p
 simp only [] at hb
 have h1 : decide (min px py ≥ -2097152) = true := decide_eq_true (by omega)
 have h2 : decide (max px py ≤ 2097152) = true := decide_eq_true (by omega)
 clear hb hp
 go_enter Tryz.func97, Tryz.ntmps97
 go_wp2
 go_ret
 exact ⟨rfl, (by repeat' (first | exact Below.refl _ _ | refine Below.drew ?_ | refine Below.drewN' ?_ | refine Below.setCell ?_ (by first | omega | (simp; done) | exact Below.size (by assumption) | (simp; omega)) _ | refine Below.alloc ?_ (by first | omega | (simp; done) | exact Below.size (by assumption) | (simp; omega)) _ | refine Below.trans ?_ (Below.mono (by assumption) ?_) | (first | omega | (simp; done) | exact Below.size (by assumption) | (simp; omega))))⟩
set_option maxHeartbeats 1000000 in
theorem ringReg1_any (p : Pt) (hp : nearQ p = true) (w : World) :
  Calls Tryz.prog 96 #[ptV p] w fun e w' => e = .returned (.bool false) ∧ Below w.heap.size w w' := by
 have NR := Lib.hid (fun W => ringNear_any p hp W)
 obtain ⟨px, py⟩ := p
 clear hp
 go_enter Tryz.func96, Tryz.ntmps96
 go_wp2_with fail
 refine (NR.out _).mono ?_
 rintro e w2 ⟨rfl, hb⟩
 have B2 : Below w.heap.size w w2 := ((Below.refl _ _).alloc (Nat.le_refl _) _).trans (hb.mono (by simp))
 go_wp2
 go_ret
 exact ⟨rfl, B2⟩
set_option maxRecDepth 100000 in
set_option maxHeartbeats 2000000 in
theorem idxNear_any (v : Value) (L : List Pt) (w : World) (hv : RowE encPt 2 w v L) (hok : ∀ x ∈ L, nearQ x = true) (hl : L.length ≤ 2000) :
  Calls Tryz.prog 142 #[v, .func (.func 96) #[] #[]] w fun e w' => e = .returned (.int .i64 (-1)) ∧ Below w.heap.size w w' := by
 have FR := Lib.hid (fun x W (h : x ∈ L) => ringReg1_any x (hok x h) W)
 obtain ⟨a, cap, rfl, hc⟩ := hv
 obtain ⟨N, hN⟩ : ∃ N, L.length = N := ⟨_, rfl⟩
 rw [hN] at hc hl ⊢
 have HN := Lib.hid hN
 have HC := Lib.hid hc
 clear hN hc hok
 go_enter Tryz.func142, Tryz.ntmps142
 go_wp2
 go_loopw [8] (fun i wr => ∃ k : Nat, k ≤ N ∧ i = .int .i64 k ∧ Below w.heap.size w wr) (fun i _ => N - (intOf i).toNat)
 case atStart => exact ⟨0, by omega, rfl, Below.refl _ _⟩
 case round =>
  obtain ⟨k, hk, rfl, hbr⟩ := hrel
  by_cases hlt : k < N
  ·obtain ⟨x, hx⟩ : ∃ x, L[k]? = some x := ⟨L[k]'(by rw [HN.out]; exact hlt), List.getElem?_eq_getElem _⟩
   obtain ⟨b, off, ha, hcell⟩ := HC.out (by omega)
   subst ha
   have d0' := cell_later hbr (hcell k x hx 0 _ rfl)
   have d0 : wr.cell? ⟨b, off + k * 2, none⟩ = some (.int .i64 x.1) := d0'
   have d1 := cell_later hbr (hcell k x hx 1 _ rfl)
   have F1 := Lib.hid (FR.out x wr (List.mem_of_getElem? hx))
   have bz := lt_of_cell d0
   obtain ⟨x1, x2⟩ := x
   simp only [] at d0 d1 F1
   clear hcell d0' hx
   go_wp2_with fail
   refine F1.out.mono ?_
   rintro e w2 ⟨rfl, hb2⟩
   have B2 := below_step hbr (Nat.le_refl _) hb2
   clear d0 d1 hb2 F1 bz
   go_wp2
   go_roundw
   case rel => exact ⟨k + 1, by omega, by go_num, B2⟩
   case measure => simp [intOf]; omega
  ·obtain rfl : k = N := by omega
   go_wp2
   go_ret
   exact ⟨rfl, hbr⟩
theorem conNear_any (v : Value) (L : List Pt) (w : World) (hv : RowE encPt 2 w v L) (hok : ∀ x ∈ L, nearQ x = true) (hl : L.length ≤ 2000) :
  Calls Tryz.prog 95 #[v, .func (.func 96) #[] #[]] w fun e w' => e = .returned (.bool false) ∧ Below w.heap.size w w' := by
 have IX := Lib.hid (idxNear_any v L w hv hok hl)
 obtain ⟨a, cap, rfl, _⟩ := hv
 go_enter Tryz.func95, Tryz.ntmps95
 go_wp2_with fail
 refine IX.out.mono ?_
 rintro e w2 ⟨rfl, hb⟩
 go_wp2
 go_ret
 exact ⟨rfl, hb⟩
theorem regular_any (v : Value) (L : List Pt) (w : World) (hv : RowE encPt 2 w v L) (hok : ∀ x ∈ L, nearQ x = true) (h3 : 3 ≤ L.length) (hl : L.length ≤ 2000) :
  Calls Tryz.prog 53 #[v] w fun e w' => e = .returned (.bool true) ∧ Below w.heap.size w w' := by
 have IX := Lib.hid (conNear_any v L w hv hok hl)
 obtain ⟨a, cap, rfl, _⟩ := hv
 have g1 : decide ((L.length : Int) ≥ 3) = true := decide_eq_true (by omega)
 have g2 : decide ((L.length : Int) ≤ 2000) = true := decide_eq_true (by omega)
 go_enter Tryz.func53, Tryz.ntmps53
 go_wp2_with fail
 refine IX.out.mono ?_
 rintro e w2 ⟨rfl, hb⟩
 go_wp2
 go_ret
 exact ⟨rfl, hb⟩
end Go.Proofs.YtibpaaajghbkoaaGreat
