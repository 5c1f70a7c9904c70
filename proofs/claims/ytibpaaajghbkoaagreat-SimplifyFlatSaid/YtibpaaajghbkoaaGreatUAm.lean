/-     -/
import Derived.Test.YtibpaaajghbkoaaGreatUAl
import Derived.Test.YtibpaaajghbkoaaGreatUAh
namespace Go.Proofs.YtibpaaajghbkoaaGreat
open Go.RowKit
theorem comp_sgn (n : Int) : Lib.compareInt n 0 = sgn n := by
 unfold Lib.compareInt sgn
 split <;> (try split) <;> (try split) <;> (try split) <;> omega
theorem near_diff {a b : Pt} (ha : nearQ a = true) (hb : nearQ b = true) : smallV (b.1 - a.1, b.2 - a.2) := by
 have h1 := near_bd ha
 have h2 := near_bd hb
 unfold smallV; simp only; omega
set_option maxRecDepth 100000 in
set_option maxHeartbeats 2000000 in
theorem orient_any (a b c : Pt) (ha : nearQ a = true) (hb : nearQ b = true) (hc : nearQ c = true) (w : World) :
  Calls Tryz.prog 50 #[ptV a, ptV b, ptV c] w fun e w' => e = .returned (.int .i64 (sgn (crs a b c))) ∧ Below w.heap.size w w' := by
 have NR := Lib.hid (fun (v : Value) w' hv => by
  have := near_any v [a, b, c] w' (by simp) hv
  rw [show [a, b, c].all nearQ = true by simp [ha, hb, hc]] at this
  exact this)
 have T1 := Lib.hid (fun w => to_any a b ha hb w)
 have T2 := Lib.hid (fun w => to_any a c ha hc w)
 have CR := Lib.hid (fun w => cross_any (b.1 - a.1, b.2 - a.2) (c.1 - a.1, c.2 - a.2) (near_diff ha hb) (near_diff ha hc) w)
 have CP := Lib.hid (fun w => Tryz.cmp_Compare_int (crs a b c) 0 w)
 have HE := Lib.hid (comp_sgn (crs a b c))
 have HC := Lib.hid (show (b.1 - a.1) * (c.2 - a.2) - (b.2 - a.2) * (c.1 - a.1) = crs a b c from rfl)
 generalize crs a b c = n at CP HE HC ⊢
 simp only [HC.out] at CR
 clear ha hb hc HC
 obtain ⟨ax, ay⟩ := a
 obtain ⟨bx, by1⟩ := b
 obtain ⟨cx, cy⟩ := c
 simp only [] at T1 T2 CR NR ⊢
 go_enter Tryz.func50, Tryz.ntmps50
 go_wp2_with fail
 have B1 : Below w.heap.size w ((((w.alloc (.cells #[.int .i64 ax, .int .i64 ay] 33)).alloc (.cells #[.int .i64 bx, .int .i64 by1] 33)).alloc (.cells #[.int .i64 cx, .int .i64 cy] 33)).alloc (.cells #[.int .i64 ax, .int .i64 ay, .int .i64 bx, .int .i64 by1, .int .i64 cx, .int .i64 cy] 33)) := (by repeat' (first | exact Below.refl _ _ | refine Below.drew ?_ | refine Below.drewN' ?_ | refine Below.setCell ?_ (by first | omega | (simp; done) | exact Below.size (by assumption) | (simp; omega)) _ | refine Below.alloc ?_ (by first | omega | (simp; done) | exact Below.size (by assumption) | (simp; omega)) _ | refine Below.trans ?_ (Below.mono (by assumption) ?_) | (first | omega | (simp; done) | exact Below.size (by assumption) | (simp; omega))))
 have H4 := row_new ((((w.alloc (.cells #[.int .i64 ax, .int .i64 ay] 33)).alloc (.cells #[.int .i64 bx, .int .i64 by1] 33)).alloc (.cells #[.int .i64 cx, .int .i64 cy] 33))) (.cells #[.int .i64 ax, .int .i64 ay, .int .i64 bx, .int .i64 by1, .int .i64 cx, .int .i64 cy] 33)
 have H1 := row_past (o' := .cells #[.int .i64 ax, .int .i64 ay, .int .i64 bx, .int .i64 by1, .int .i64 cx, .int .i64 cy] 33) (row_past (o' := .cells #[.int .i64 cx, .int .i64 cy] 33) (row_past (o' := .cells #[.int .i64 bx, .int .i64 by1] 33) (row_new w (.cells #[.int .i64 ax, .int .i64 ay] 33))))
 have H2 := row_past (o' := .cells #[.int .i64 ax, .int .i64 ay, .int .i64 bx, .int .i64 by1, .int .i64 cx, .int .i64 cy] 33) (row_past (o' := .cells #[.int .i64 cx, .int .i64 cy] 33) (row_new1 w (.cells #[.int .i64 ax, .int .i64 ay] 33) (.cells #[.int .i64 bx, .int .i64 by1] 33)))
 have H3 := row_past (o' := .cells #[.int .i64 ax, .int .i64 ay, .int .i64 bx, .int .i64 by1, .int .i64 cx, .int .i64 cy] 33) (row_new2 w (.cells #[.int .i64 ax, .int .i64 ay] 33) (.cells #[.int .i64 bx, .int .i64 by1] 33) (.cells #[.int .i64 cx, .int .i64 cy] 33))
 generalize hw1 : (((w.alloc (.cells #[.int .i64 ax, .int .i64 ay] 33)).alloc (.cells #[.int .i64 bx, .int .i64 by1] 33)).alloc (.cells #[.int .i64 cx, .int .i64 cy] 33)).alloc (.cells #[.int .i64 ax, .int .i64 ay, .int .i64 bx, .int .i64 by1, .int .i64 cx, .int .i64 cy] 33) = w1
 rw [hw1] at B1 H1 H2 H3
 have H4' : w1.heap[w.heap.size + 3]? = some (.cells #[.int .i64 ax, .int .i64 ay, .int .i64 bx, .int .i64 by1, .int .i64 cx, .int .i64 cy] 33) := by
  rw [← hw1]; simpa using H4
 clear hw1 H4
 have H1 := Lib.hid H1
 have H2 := Lib.hid H2
 have H3 := Lib.hid H3
 refine (NR.out _ w1 (RowE.of_block (l := [(ax, ay), (bx, by1), (cx, cy)]) encPt_len rfl H4' 3 rfl)).mono ?_
 rintro e w2 ⟨rfl, hb⟩
 have B2 := below_step B1 (Nat.le_refl _) hb
 replace H1 := Lib.hid (row_later hb H1.out)
 replace H2 := Lib.hid (row_later hb H2.out)
 replace H3 := Lib.hid (row_later hb H3.out)
 clear hb H4' B1 NR
 obtain ⟨az, a0, a1⟩ := rk2 H1.out
 obtain ⟨bz, b0, b1⟩ := rk2 H2.out
 obtain ⟨cz, c0, c1⟩ := rk2 H3.out
 go_wp2_with fail
 refine (T1.out _).mono ?_
 rintro e w3 ⟨rfl, hb⟩
 have B3 := below_step B2 (Nat.le_refl _) hb
 clear a0 a1 az
 clear b0 b1 bz
 clear c0 c1 cz
 replace H1 := Lib.hid (row_later hb H1.out)
 replace H2 := Lib.hid (row_later hb H2.out)
 replace H3 := Lib.hid (row_later hb H3.out)
 clear hb B2
 obtain ⟨az, a0, a1⟩ := rk2 H1.out
 obtain ⟨cz, c0, c1⟩ := rk2 H3.out
 go_wp2_with fail
 refine (T2.out _).mono ?_
 rintro e w4 ⟨rfl, hb⟩
 have B4 := below_step B3 (Nat.le_refl _) hb
 clear a0 a1 az
 clear c0 c1 cz
 clear hb B3
 go_wp2_with fail
 refine (CR.out _).mono ?_
 rintro e w5 ⟨rfl, hb⟩
 have B5 := below_step B4 (Nat.le_refl _) hb
 clear hb B4
 go_wp2_with fail
 refine (CP.out _).mono ?_
 rintro e w6 ⟨rfl, rfl⟩
 go_wp2
 go_ret
 exact ⟨by rw [HE.out] <;> rfl, B5⟩
def firstC : List Pt → Int
 |[] => 0
 |p :: l => if Lib.compareInt p.1 p.2 = 0 then firstC l else Lib.compareInt p.1 p.2
theorem firstC_drop (l : List Pt) (k : Nat) (p : Pt) (hp : l[k]? = some p) : firstC (l.drop k) = if Lib.compareInt p.1 p.2 = 0 then firstC (l.drop (k + 1)) else Lib.compareInt p.1 p.2 := by
 obtain ⟨hk, rfl⟩ := List.getElem?_eq_some_iff.1 hp
 rw [List.drop_eq_getElem_cons hk]; rfl
theorem lexC_first (p q : Pt) : firstC [(p.1, q.1), (p.2, q.2)] = lexC p q := by
 unfold firstC firstC firstC lexC Lib.compareInt
 simp only
 split <;> (try split) <;> (try split) <;> (try split) <;> (try split) <;> (try split) <;> omega
set_option maxRecDepth 100000 in
set_option maxHeartbeats 2000000 in
theorem first_any (v : Value) (l : List Pt) (w : World) (hl : l.length ≤ 1000) (hv : RowE encPt 2 w v l) :
  Calls Tryz.prog 91 #[v] w fun e w' => e = .returned (.int .i64 (firstC l)) ∧ Below w.heap.size w w' := by
 obtain ⟨a, cap, rfl, hc⟩ := hv
 obtain ⟨N, hN⟩ : ∃ N, l.length = N := ⟨_, rfl⟩
 rw [hN] at hl hc ⊢
 have HN := Lib.hid hN
 have HC := Lib.hid hc
 obtain ⟨res, hres⟩ : ∃ z, firstC l = z := ⟨_, rfl⟩
 rw [hres]
 have HR := Lib.hid hres
 have CP := Lib.hid (fun x y w => Tryz.cmp_Compare_int x y w)
 clear hN hc hres
 go_enter Tryz.func91, Tryz.ntmps91
 go_wp2
 go_loopw [8] (fun i wr => ∃ k : Nat, k ≤ N ∧ i = .int .i64 k ∧ Hid (firstC (l.drop k) = res) ∧ Below w.heap.size w wr) (fun i _ => N - (intOf i).toNat)
 case atStart => exact ⟨0, by omega, rfl, HR, Below.refl _ _⟩
 case round =>
  obtain ⟨k, hk, rfl, hT, hbr⟩ := hrel
  have hsz := hbr.size
  by_cases hlt : k < N
  ·obtain ⟨p, hp⟩ : ∃ p, l[k]? = some p := ⟨l[k]'(by rw [HN.out]; exact hlt), List.getElem?_eq_getElem _⟩
   obtain ⟨b, off, ha, hcell⟩ := HC.out (by omega)
   subst ha
   have c0 := cell_later hbr (hcell k p hp 0 _ rfl)
   have c1 := cell_later hbr (hcell k p hp 1 _ rfl)
   have c0' : wr.cell? ⟨b, off + k * 2, none⟩ = some (.int .i64 p.1) := c0
   have HD := Lib.hid (firstC_drop l k p hp)
   obtain ⟨x, y⟩ := p
   simp only [] at c0' c1 HD
   clear c0 hcell hp
   go_wp2_with fail
   refine (CP.out x y _).mono ?_
   rintro e w2 ⟨rfl, rfl⟩
   obtain ⟨c, hcv⟩ : ∃ z, z = Lib.compareInt x y := ⟨_, rfl⟩
   rw [← hcv] at HD ⊢
   clear hcv
   by_cases h0 : c = 0
   ·subst h0
    have HG : Hid (firstC (l.drop (k + 1)) = res) := Lib.hid (by rw [← hT.out, HD.out, if_pos rfl])
    go_wp2
    go_roundw
    case rel => exact ⟨k + 1, by omega, by go_num, HG, hbr.alloc hbr.size _⟩
    case measure => simp [intOf]; omega
   ·have h0d : (c != 0) = true := by rw [bne_iff_ne]; exact h0
    have HE := Lib.hid (show res = c by rw [← hT.out, HD.out, if_neg h0])
    go_wp2
    go_ret
    exact ⟨by rw [HE.out] <;> rfl, hbr.alloc hbr.size _⟩
  ·obtain rfl : k = N := by omega
   have HE := Lib.hid (show res = 0 by rw [← hT.out, List.drop_of_length_le (by rw [HN.out]; exact Nat.le_refl _)]; rfl)
   go_wp2
   go_ret
   exact ⟨by rw [HE.out] <;> rfl, hbr⟩
set_option maxHeartbeats 1000000 in
theorem gcomp_any (p q : Pt) (w : World) :
  Calls Tryz.prog 51 #[ptV p, ptV q] w fun e w' => e = .returned (.int .i64 (lexC p q)) ∧ Below w.heap.size w w' := by
 have FR := Lib.hid (fun (v : Value) w' hv => by
  have := first_any v [(p.1, q.1), (p.2, q.2)] w' (by simp) hv
  rw [lexC_first] at this
  exact this)
 generalize lexC p q = n at FR ⊢
 obtain ⟨px, py⟩ := p
 obtain ⟨qx, qy⟩ := q
 simp only [] at FR ⊢
 go_enter Tryz.func51, Tryz.ntmps51
 go_wp2_with fail
 refine (FR.out _ _ (RowE.of_block (l := [(px, qx), (py, qy)]) encPt_len rfl (row_new2 w (.cells #[.int .i64 px, .int .i64 py] 33) (.cells #[.int .i64 qx, .int .i64 qy] 33) (.cells #[.int .i64 px, .int .i64 qx, .int .i64 py, .int .i64 qy] 130)) 2 rfl)).mono ?_
 rintro e w2 ⟨rfl, hb⟩
 have B2 := below_step (B := w.heap.size) (a := w) (by repeat' (first | exact Below.refl _ _ | refine Below.drew ?_ | refine Below.drewN' ?_ | refine Below.setCell ?_ (by first | omega | (simp; done) | exact Below.size (by assumption) | (simp; omega)) _ | refine Below.alloc ?_ (by first | omega | (simp; done) | exact Below.size (by assumption) | (simp; omega)) _ | refine Below.trans ?_ (Below.mono (by assumption) ?_) | (first | omega | (simp; done) | exact Below.size (by assumption) | (simp; omega)))) (Nat.le_refl _) hb
 go_wp2
 go_ret
 exact ⟨rfl, B2⟩
end Go.Proofs.YtibpaaajghbkoaaGreat

namespace Go.Proofs.YtibpaaajghbkoaaGreat
open Go.RowKit
theorem sf37 : Tryz.prog.stoodInHeld 33 = false := by kernel_rfl
theorem eg37 : Tryz.prog.eqGuardType Tryz.prog.depth 33 = false := by kernel_rfl
theorem fo37 : Tryz.prog.underlying 33 = some (.struct (Tryz.prog.fieldsOf 33)) := by kernel_rfl
theorem sf39 : Tryz.prog.stoodInHeld 48 = false := by kernel_rfl
theorem eg39 : Tryz.prog.eqGuardType Tryz.prog.depth 48 = false := by kernel_rfl
theorem fo39 : Tryz.prog.underlying 48 = some (.struct (Tryz.prog.fieldsOf 48)) := by kernel_rfl
theorem eql_point (p q : Pt) (w : World) : (binOp .eql 33 (.agg #[.int .i64 p.1, .int .i64 p.2]) (.agg #[.int .i64 q.1, .int .i64 q.2])).run Tryz.prog w = .ok (.bool (decide (p = q))) w := by
 simp only [run_eql_struct]
 rw [show (10000 : Nat) = 9999 + 1 from rfl, run_equalIn_struct _ _ _ _ _ fo37 sf37]
 simp [Program.fieldsOf, Tryz.underlying33, Op.eqFields, go_sem]
 obtain ⟨a, b⟩ := p
 obtain ⟨c, d⟩ := q
 simp only [Prod.mk.injEq]
 (repeat' split) <;> simp_all
theorem neq_point (p q : Pt) (w : World) : (binOp .neq 33 (.agg #[.int .i64 p.1, .int .i64 p.2]) (.agg #[.int .i64 q.1, .int .i64 q.2])).run Tryz.prog w = .ok (.bool (!decide (p = q))) w := by
 simp only [run_neq_struct]
 rw [show (10000 : Nat) = 9999 + 1 from rfl, run_equalIn_struct _ _ _ _ _ fo37 sf37]
 simp [Program.fieldsOf, Tryz.underlying33, Op.eqFields, go_sem]
 obtain ⟨a, b⟩ := p
 obtain ⟨c, d⟩ := q
 simp only [Prod.mk.injEq]
 (repeat' split) <;> simp_all
theorem eql_seg (s t : Sg) (w : World) : (binOp .eql 48 (.agg #[.int .i64 s.1.1, .int .i64 s.1.2, .int .i64 s.2.1, .int .i64 s.2.2]) (.agg #[.int .i64 t.1.1, .int .i64 t.1.2, .int .i64 t.2.1, .int .i64 t.2.2])).run Tryz.prog w = .ok (.bool (decide (s = t))) w := by
 simp only [run_eql_struct]
 rw [show (10000 : Nat) = 9999 + 1 from rfl, run_equalIn_struct _ _ _ _ _ fo39 sf39]
 simp [Program.fieldsOf, Tryz.underlying48, Op.eqFields, go_sem]
 obtain ⟨⟨a, b⟩, ⟨c, d⟩⟩ := s
 obtain ⟨⟨a', b'⟩, ⟨c', d'⟩⟩ := t
 simp only [Prod.mk.injEq]
 (repeat' split) <;> simp_all
set_option maxRecDepth 100000 in
set_option maxHeartbeats 2000000 in
theorem sorted_any (s : Sg) (w : World) :
  Calls Tryz.prog 49 #[sgV s] w fun e w' => e = .returned (sgV (srtS s)) ∧ Below w.heap.size w w' := by
 have CP := Lib.hid (fun w => gcomp_any s.1 s.2 w)
 have HS := Lib.hid (show srtS s = if 0 < lexC s.1 s.2 then (s.2, s.1) else s from rfl)
 generalize lexC s.1 s.2 = c at CP HS
 generalize srtS s = r at HS ⊢
 obtain ⟨⟨ax, ay⟩, ⟨bx, by1⟩⟩ := s
 simp only [] at CP HS ⊢
 go_enter Tryz.func49, Tryz.ntmps49
 go_wp2_with fail
 have H1 := row_past (o' := .cells #[.int .i64 0, .int .i64 0, .int .i64 0, .int .i64 0] 48) (row_new w (.cells #[.int .i64 ax, .int .i64 ay, .int .i64 bx, .int .i64 by1] 48))
 have H2 := row_new1 w (.cells #[.int .i64 ax, .int .i64 ay, .int .i64 bx, .int .i64 by1] 48) (.cells #[.int .i64 0, .int .i64 0, .int .i64 0, .int .i64 0] 48)
 refine (CP.out _).mono ?_
 rintro e w2 ⟨rfl, hb⟩
 have B2 : Below w.heap.size w w2 := below_step (by repeat' (first | exact Below.refl _ _ | refine Below.drew ?_ | refine Below.drewN' ?_ | refine Below.setCell ?_ (by first | omega | (simp; done) | exact Below.size (by assumption) | (simp; omega)) _ | refine Below.alloc ?_ (by first | omega | (simp; done) | exact Below.size (by assumption) | (simp; omega)) _ | refine Below.trans ?_ (Below.mono (by assumption) ?_) | (first | omega | (simp; done) | exact Below.size (by assumption) | (simp; omega)))) (Nat.le_refl _) hb
 have H1 := Lib.hid (row_later hb H1)
 have H2 := Lib.hid (row_later hb H2)
 clear hb CP
 obtain ⟨az, a0, a1, a2, a3⟩ := rk4 H1.out
 have af0 := frozen_of_row w2 _ 0 _ _ H1.out
 have af1 := frozen_of_row w2 _ 1 _ _ H1.out
 have af2 := frozen_of_row w2 _ 2 _ _ H1.out
 have af3 := frozen_of_row w2 _ 3 _ _ H1.out
 obtain ⟨bz, b0, b1, b2, b3⟩ := rk4 H2.out
 have bf0 := frozen_of_row w2 _ 0 _ _ H2.out
 have bf1 := frozen_of_row w2 _ 1 _ _ H2.out
 have bf2 := frozen_of_row w2 _ 2 _ _ H2.out
 have bf3 := frozen_of_row w2 _ 3 _ _ H2.out
 by_cases h : 0 < c
 ·have hd : decide (0 < c) = true := decide_eq_true h
  have HE := Lib.hid (show r = ((bx, by1), (ax, ay)) by rw [HS.out, if_pos h])
  clear h
  go_wp2
  refine bodyPost_ret (v := sgV ((bx, by1), (ax, ay))) ?_ rfl ⟨by rw [HE.out], ?_⟩
  ·simp [results, Tryz.results49, go_sem, sgV, b0, b1, b2, b3]
  ·exact (((((((B2.setCell (p := ⟨w.heap.size, 0, none⟩) (Nat.le_refl _) _).setCell (p := ⟨w.heap.size, 1, none⟩) (Nat.le_refl _) _).setCell (p := ⟨w.heap.size, 2, none⟩) (Nat.le_refl _) _).setCell (p := ⟨w.heap.size, 3, none⟩) (Nat.le_refl _) _).setCell (p := ⟨w.heap.size + 1, 0, none⟩) (by simp) _).setCell (p := ⟨w.heap.size + 1, 1, none⟩) (by simp) _).setCell (p := ⟨w.heap.size + 1, 2, none⟩) (by simp) _).setCell (p := ⟨w.heap.size + 1, 3, none⟩) (by simp) _
 ·have hd : decide (0 < c) = false := decide_eq_false h
  have HE := Lib.hid (show r = ((ax, ay), (bx, by1)) by rw [HS.out, if_neg h])
  clear h
  go_wp2
  refine bodyPost_ret (v := sgV ((ax, ay), (bx, by1))) ?_ rfl ⟨by rw [HE.out], ?_⟩
  ·simp [results, Tryz.results49, go_sem, sgV, b0, b1, b2, b3]
  ·exact (((B2.setCell (p := ⟨w.heap.size + 1, 0, none⟩) (by simp) _).setCell (p := ⟨w.heap.size + 1, 1, none⟩) (by simp) _).setCell (p := ⟨w.heap.size + 1, 2, none⟩) (by simp) _).setCell (p := ⟨w.heap.size + 1, 3, none⟩) (by simp) _
end Go.Proofs.YtibpaaajghbkoaaGreat

namespace Go.Proofs.YtibpaaajghbkoaaGreat
open Go.RowKit Go.Maps Go.ChangeMaps
theorem zeroI (w : World) : (zeroValue 3).run Tryz.prog w = .ok (.int .i64 0) w := by kernel_rfl
abbrev intV (i : Nat) : Value := .int .i64 i
theorem str_inj : ∀ x y : ByteArray, Value.string x = Value.string y → x = y := fun x y h => by injection h
theorem str_keyOf {s : ByteArray} (h : s.size ≤ 140737488355328) : ∃ kl, keyOf Tryz.prog 9 (.string s) = some kl := ⟨_, WideMaps.keyOf_string_mk Tryz.underlying9 (by unfold maxLen; omega)⟩
def AtIs (w : World) (B : Nat) (l : List ObjD) : Prop := ∃ acc : List (ByteArray × Nat), MapAt Tryz.prog 9 Value.string intV w B acc ∧ acc.length ≤ l.length ∧ ∀ id, aget id acc = posO id l
theorem AtIs.on {w w' : World} {B : Nat} {l : List ObjD} (h : AtIs w B l) (hb : Below w.heap.size w w') : AtIs w' B l := by
 obtain ⟨acc, h1, h2⟩ := h
 exact ⟨acc, h1.on hb, h2⟩
theorem AtIs.lt {w : World} {B : Nat} {l : List ObjD} (h : AtIs w B l) : B < w.heap.size := by
 obtain ⟨acc, h1, h2⟩ := h
 exact h1.lt
theorem AtIs.kept {w w' : World} {B : Nat} {l : List ObjD} {row : Option Nat} (h : AtIs w B l) (hg : w.grownBy w' row) (hne : some B ≠ row) : AtIs w' B l := by
 obtain ⟨acc, h1, h2⟩ := h
 exact ⟨acc, h1.kept hg hne, h2⟩
theorem AtIs.set {w : World} {B : Nat} {l : List ObjD} {a : Addr} {v : Value} (h : AtIs w B l) (hne : B ≠ a.block) : AtIs (w.setCell a v) B l := by
 obtain ⟨acc, h1, h2⟩ := h
 exact ⟨acc, h1.later (Below.heap_setCell w a v B hne), h2⟩
theorem AtIs.look {w : World} {B : Nat} {l : List ObjD} (h : AtIs w B l) (id : ByteArray) (hz : id.size ≤ 140737488355328) :
  (Instr.lookup 76 (.map (some B)) (.string id) false).run Tryz.prog w = .ok (((posO id l).map intV).getD (.int .i64 0)) w := by
 obtain ⟨acc, h1, h2, h3⟩ := h
 have := h1.look keyS str_inj Tryz.underlying76 (zeroI w) id (str_keyOf hz)
 rw [this, h3]
theorem AtIs.lookOk {w : World} {B : Nat} {l : List ObjD} (h : AtIs w B l) (id : ByteArray) (hz : id.size ≤ 140737488355328) :
  (Instr.lookup 76 (.map (some B)) (.string id) true).run Tryz.prog w = .ok (.tuple #[((posO id l).map intV).getD (.int .i64 0), .bool (posO id l).isSome]) w := by
 obtain ⟨acc, h1, h2, h3⟩ := h
 have := h1.lookOk keyS str_inj Tryz.underlying76 (zeroI w) id (str_keyOf hz)
 rw [this, h3]
theorem posO_snoc (id : ByteArray) (o : ObjD) : ∀ l : List ObjD, posO id (l ++ [o]) = match posO id l with
  |some i => some i
  |none => if o.id = id then some l.length else none
 |[] => by simp [posO]
 |x :: l => by
  rw [List.cons_append, posO, posO, posO_snoc id o l]
  by_cases h : x.id = id
  ·simp [h]
  ·rw [if_neg h, if_neg h]
   cases posO id l with
   |some i => rfl
   |none =>
    by_cases h2 : o.id = id
    ·simp [h2]
    ·simp [h2]
theorem pos_take_none {l : List ObjD} (h : mapOK l = true) {k : Nat} {o : ObjD} (ho : l[k]? = some o) : posO o.id (l.take k) = none := by
 cases hp : posO o.id (l.take k) with
 |none => rfl
 |some i =>
  obtain ⟨x, hx, e⟩ := posO_some _ _ _ hp
  rw [List.getElem?_take] at hx
  split at hx
  ·rename_i hi
   have := (mapOK_sorted h).2 i k x o hi hx ho
   rw [e, ltB_irrefl] at this; cases this
  ·cases hx
theorem pos_put {l : List ObjD} (h : mapOK l = true) {k : Nat} {o : ObjD} (ho : l[k]? = some o) {acc : List (ByteArray × Nat)} (ha : ∀ id, aget id acc = posO id (l.take k)) (id : ByteArray) : aget id (aput o.id k acc) = posO id (l.take (k + 1)) := by
 obtain ⟨hk, e⟩ := List.getElem?_eq_some_iff.1 ho
 rw [List.take_succ_eq_append_getElem hk, e, posO_snoc]
 by_cases hi : o.id = id
 ·subst hi
  rw [aget_put_same, pos_take_none h ho, if_pos rfl]
  simp; omega
 ·rw [aget_put_other _ hi, ha, if_neg hi]
  cases posO id (l.take k) <;> rfl
set_option maxRecDepth 100000 in
set_option maxHeartbeats 4000000 in
theorem of_any (v : Value) (l : List ObjD) (w : World) (hv : ObjsIs w v l) (hok : mapOK l = true) :
  Calls Tryz.prog 45 #[.agg #[v]] w fun e w' => ∃ B : Nat, e = .returned (.tuple #[.agg #[v, .map (some B)], .bool true]) ∧ w.heap.size ≤ B ∧ AtIs w' B l ∧ Below w.heap.size w w' := by
 have VD := Lib.hid (fun w' hb => validM_any v l w' (hv.later (w' := w') hb))
 rw [hok] at VD
 obtain ⟨a, cap, rfl, hn, hc⟩ := hv
 have HOK := Lib.hid hok
 have hmax : l.length ≤ 1000000 := (mapOK_sorted hok).1
 generalize hN : l.length = N at *
 have HN := Lib.hid hN
 have HC := Lib.hid hc
 clear hN hc hok
 have hmm := @run_makeMap Tryz.prog
 go_enter Tryz.func45, Tryz.ntmps45
 go_wp2_with fail
 have B1 : Below w.heap.size w ((w.alloc (.cells #[.slice a N cap] 24)).alloc (.cells #[.slice none 0 0, .map none] 78)) := (by repeat' (first | exact Below.refl _ _ | refine Below.drew ?_ | refine Below.drewN' ?_ | refine Below.setCell ?_ (by first | omega | (simp; done) | exact Below.size (by assumption) | (simp; omega)) _ | refine Below.alloc ?_ (by first | omega | (simp; done) | exact Below.size (by assumption) | (simp; omega)) _ | refine Below.trans ?_ (Below.mono (by assumption) ?_) | (first | omega | (simp; done) | exact Below.size (by assumption) | (simp; omega))))
 have H1 := row_past (o' := .cells #[.slice none 0 0, .map none] 78) (row_new w (.cells #[.slice a N cap] 24))
 have H2 := row_new1 w (.cells #[.slice a N cap] 24) (.cells #[.slice none 0 0, .map none] 78)
 generalize hw1 : (w.alloc (.cells #[.slice a N cap] 24)).alloc (.cells #[.slice none 0 0, .map none] 78) = w1
 rw [hw1] at B1 H1 H2
 have hz1 : w.heap.size + 2 ≤ w1.heap.size := by rw [← hw1]; simp
 clear hw1
 refine (VD.out _ B1).mono ?_
 rintro e w2 ⟨rfl, hb⟩
 have B2 := below_step B1 (Nat.le_refl _) hb
 have H1 := Lib.hid (row_later hb H1)
 have H2 := Lib.hid (row_later hb H2)
 have hz2 := hb.size
 clear hb B1 VD
 obtain ⟨mz, m0⟩ := rk1 H1.out
 go_wp2
 have MP := (MapAt.made Tryz.prog 9 Value.string intV w2).on ((Below.refl _ _).alloc (Nat.le_refl _) (.cells #[.slice a N cap, .map (some w2.heap.size)] 78))
 have B3 : Below w.heap.size w ((w2.alloc (.map #[] 0)).alloc (.cells #[.slice a N cap, .map (some w2.heap.size)] 78)) := (B2.alloc (by omega) _).alloc (by simp; omega) _
 have B23 : Below w2.heap.size w2 ((w2.alloc (.map #[] 0)).alloc (.cells #[.slice a N cap, .map (some w2.heap.size)] 78)) := (by repeat' (first | exact Below.refl _ _ | refine Below.drew ?_ | refine Below.drewN' ?_ | refine Below.setCell ?_ (by first | omega | (simp; done) | exact Below.size (by assumption) | (simp; omega)) _ | refine Below.alloc ?_ (by first | omega | (simp; done) | exact Below.size (by assumption) | (simp; omega)) _ | refine Below.trans ?_ (Below.mono (by assumption) ?_) | (first | omega | (simp; done) | exact Below.size (by assumption) | (simp; omega))))
 have HP := row_new1 w2 (.map #[] 0) (.cells #[.slice a N cap, .map (some w2.heap.size)] 78)
 generalize hw3 : (w2.alloc (.map #[] 0)).alloc (.cells #[.slice a N cap, .map (some w2.heap.size)] 78) = w3
 rw [hw3] at MP B3 HP B23
 have hz3 : w3.heap.size = w2.heap.size + 2 := by rw [← hw3]; simp
 have H2 := Lib.hid (row_later B23 H2.out)
 have HP := Lib.hid HP
 clear m0 mz
 clear hw3 H1 B23
 obtain ⟨Bm, hBm⟩ : ∃ b, b = w2.heap.size := ⟨_, rfl⟩
 rw [← hBm] at MP HP hz3 ⊢
 have hzz : w.heap.size + 2 ≤ Bm := by omega
 clear hz1 hz2 hBm
 go_loopw [17] (fun i wr => ∃ (k : Nat) (acc : List (ByteArray × Nat)), i = .int .i64 k ∧ k ≤ N ∧ MapAt Tryz.prog 9 Value.string intV wr Bm acc ∧ acc.length ≤ k ∧ (∀ id, aget id acc = posO id (l.take k)) ∧ w3.grownBy wr (some Bm)) (fun i _ => N - (intOf i).toNat)
 case atStart => exact ⟨0, [], rfl, by omega, MP, by simp, fun id => by simp [aget, posO], World.grownBy.refl _ _⟩
 case round =>
  obtain ⟨k, acc, rfl, hk, hmap, hal, hacc, hg⟩ := hrel
  have HA := Lib.hid hacc
  have hszr := hg.size
  clear hacc
  have HP2 := Lib.hid (row_grown hg HP.out (fun h => by injection h; omega))
  obtain ⟨pz, p0, p1⟩ := rk2 HP2.out
  have BR : Below w.heap.size w wr := B3.grown hg (by omega) (fun j hj => by cases hj; omega)
  by_cases hlt : k < N
  ·obtain ⟨o, ho⟩ : ∃ o, l[k]? = some o := ⟨l[k]'(by rw [HN.out]; exact hlt), List.getElem?_eq_getElem _⟩
   obtain ⟨b, off, ha, hcell⟩ := HC.out (by omega)
   subst ha
   obtain ⟨vr, vt, c0, c1, c2, c3, c4, c5, hr, ht, hzo⟩ := (hcell k o ho).later BR
   have HO := Lib.hid (pos_put HOK.out ho HA.out)
   obtain ⟨ar, capr, evr, _⟩ := hr
   obtain ⟨at1, capt, evt, _⟩ := ht
   subst evr evt
   obtain ⟨w5, hrun, hm5, hg5⟩ := (hmap.on ((Below.refl _ _).alloc (Nat.le_refl _) (.cells #[.string o.id, .int .i64 o.kind, .int .i64 o.x, .int .i64 o.y, .slice ar o.refs.length capr, .slice at1 o.tags.length capt] 36))).put keyS str_inj Tryz.underlying76 (by unfold maxLen; omega) o.id (str_keyOf hzo) k
   have bz := lt_of_cell c0
   have HG := Lib.hid (((World.grownBy_alloc wr (.cells #[.string o.id, .int .i64 o.kind, .int .i64 o.x, .int .i64 o.y, .slice ar o.refs.length capr, .slice at1 o.tags.length capt] 36) (some Bm)).trans hg5))
   have HL := Lib.hid (aput_length o.id k acc)
   clear hcell ho hmap hg5 HA
   go_wp2
   go_roundw
   case rel => exact ⟨k + 1, aput o.id k acc, by go_num, by omega, hm5, by have := HL.out; omega, HO.out, hg.trans HG.out⟩
   case measure => simp [intOf]; omega
  ·obtain rfl : k = N := by omega
   have H2r := Lib.hid (row_grown hg H2.out (fun h => by injection h; omega))
   have hlen := HN.out
   have HAT : AtIs wr Bm l := ⟨acc, hmap, by omega, fun id => by rw [HA.out, List.take_of_length_le (by omega)]⟩
   clear hmap H2 HP HA
   obtain ⟨rz, r0, r1⟩ := rk2 H2r.out
   have rf0 := frozen_of_row wr _ 0 _ _ H2r.out
   have rf1 := frozen_of_row wr _ 1 _ _ H2r.out
   clear hlen
   go_wp2
   refine bodyPost_ret (v := .tuple #[.agg #[.slice a k cap, .map (some Bm)], .bool true]) ?_ rfl ⟨Bm, rfl, by omega, ?_, ?_⟩
   ·simp [results, Tryz.results45, go_sem, r0, r1]
   ·exact (HAT.set (a := ⟨w.heap.size + 1, 0, none⟩) (by simp only; omega)).set (a := ⟨w.heap.size + 1, 1, none⟩) (by simp only; omega)
   ·exact ((BR.setCell (p := ⟨w.heap.size + 1, 0, none⟩) (by simp) _).setCell (p := ⟨w.heap.size + 1, 1, none⟩) (by simp) _)
end Go.Proofs.YtibpaaajghbkoaaGreat

namespace Go.Proofs.YtibpaaajghbkoaaGreat
theorem neigh_nil {l : List ObjD} {id : ByteArray} (h : refersP l id = []) : neighP l id = none := by
 unfold neighP; rw [h]
theorem neigh_all {l : List ObjD} {id : ByteArray} {p : KeyD} (hne : refersP l id ≠ []) (h : ∀ x ∈ refersP l id, nbrO x id = some p) : neighP l id = some p := by
 unfold neighP
 cases hr : refersP l id with
 |nil => exact absurd hr hne
 |cons o os =>
  rw [hr] at h
  simp only [h o (List.mem_cons_self ..)]
  rw [if_pos]
  rw [List.all_eq_true]
  exact fun x hx => decide_eq_true (h x (List.mem_cons_of_mem _ hx))
theorem neigh_mem {l : List ObjD} {id : ByteArray} {p : KeyD} (h : neighP l id = some p) {x : ObjD} (hx : x ∈ refersP l id) : nbrO x id = some p := by
 have := List.mem_filter.1 hx
 exact (neigh_spec h).2 x this.1 (of_decide_eq_true this.2)
theorem neigh_none {l : List ObjD} {id : ByteArray} {x : ObjD} (hx : x ∈ refersP l id) (h : nbrO x id = none) : neighP l id = none := by
 cases hn : neighP l id with
 |none => rfl
 |some p => rw [neigh_mem hn hx] at h; cases h
theorem neigh_two {l : List ObjD} {id : ByteArray} {x y : ObjD} {p q : KeyD} (hx : x ∈ refersP l id) (hy : y ∈ refersP l id) (h : nbrO x id = some p) (h2 : nbrO y id = some q) (hne : p ≠ q) : neighP l id = none := by
 cases hn : neighP l id with
 |none => rfl
 |some r =>
  rw [neigh_mem hn hx] at h
  rw [neigh_mem hn hy] at h2
  injection h with h
  injection h2 with h2
  exact absurd (h.symm.trans h2) hne
theorem sub_filter : ∀ {L ord : List ByteArray}, L.Sublist ord → ord.Nodup → ord.filter (fun x => decide (x ∈ L)) = L
 |_, _, .slnil, _ => rfl
 |_, _, .cons (l₁ := L) (l₂ := O) a h, hn => by
  obtain ⟨h1, h2⟩ := List.nodup_cons.1 hn
  have ha : a ∉ L := fun c => h1 (h.subset c)
  rw [List.filter_cons, if_neg (by simpa using ha)]
  exact sub_filter h h2
 |_, _, .cons_cons (l₁ := L) (l₂ := O) a h, hn => by
  obtain ⟨h1, h2⟩ := List.nodup_cons.1 hn
  rw [List.filter_cons, if_pos (by simp)]
  congr 1
  rw [← sub_filter h h2]
  refine List.filter_congr fun x hx => ?_
  have : x ≠ a := fun e => h1 (e ▸ hx)
  rw [Bool.eq_iff_iff]
  simp [this, List.mem_filter, hx]
theorem filterMap_filter' {α β : Type} (p : α → Bool) (f : α → Option β) : ∀ (l : List α), (∀ x ∈ l, p x = false → f x = none) → l.filterMap f = (l.filter p).filterMap f
 |[], _ => rfl
 |a :: l, h => by
  have ih := filterMap_filter' p f l (fun x hx => h x (List.mem_cons_of_mem _ hx))
  rw [List.filter_cons]
  cases hp : p a with
  |true => rw [if_pos rfl, List.filterMap_cons, List.filterMap_cons, ih]
  |false => rw [if_neg (by simp), List.filterMap_cons, h a (List.mem_cons_self ..) hp, ih]
theorem order_map {β : Type} {l : List ObjD} (h : mapOK l = true) {ord : List ByteArray} (hn : ord.Nodup) (hs : (l.map (·.id)).Sublist ord) (f : ObjD → Option β) : ord.filterMap (fun id => (atO l id).bind f) = l.filterMap f := by
 rw [filterMap_filter' (fun x => decide (x ∈ l.map (·.id))) _ ord, sub_filter hs hn, List.filterMap_map]
 ·have : ∀ L : List ObjD, (∀ o ∈ L, o ∈ l) → L.filterMap ((fun id => (atO l id).bind f) ∘ fun o : ObjD => o.id) = L.filterMap f := by
   intro L
   induction L with
   |nil => intro _; rfl
   |cons o L ih =>
    intro hL
    rw [List.filterMap_cons, List.filterMap_cons, ih (fun x hx => hL x (List.mem_cons_of_mem _ hx))]
    simp only [Function.comp, at_some h (hL o (List.mem_cons_self ..)), Option.bind_some]
  exact this l fun o ho => ho
 ·intro x _ hx
  have hx' : x ∉ l.map (·.id) := of_decide_eq_false hx
  cases hc : atO l x with
  |none => rfl
  |some o =>
   obtain ⟨h1, h2⟩ := at_node hc
   exact absurd (List.mem_map.2 ⟨o, h1, h2⟩) hx'
def oneF (l : List ObjD) (c : CandD) (r : ByteArray) (q : Pt) : Bool := decide (r = c.1 ∨ r = c.2.2.1 ∨ r = c.2.2.2) || !hasT (ptO l c.1) (ptO l c.2.2.1) (ptO l c.2.2.2) q
def NodesT (l : List ObjD) (N : List (ByteArray × Pt)) : Prop := ∀ r, aget r N = if r ∈ brefP l then some (ptO l r) else none
theorem NodesT.mem {l : List ObjD} {N : List (ByteArray × Pt)} (h : NodesT l N) (hn : (N.map (·.1)).Nodup) {p : ByteArray × Pt} (hp : p ∈ N) : p.1 ∈ brefP l ∧ p.2 = ptO l p.1 := by
 have h1 := aget_of_mem (k := p.1) (v := p.2) hn hp
 rw [h] at h1
 split at h1
 ·rename_i h2
  injection h1 with h1
  exact ⟨h2, h1.symm⟩
 ·cases h1
theorem free_all {l : List ObjD} {N : List (ByteArray × Pt)} (h : NodesT l N) (hn : (N.map (·.1)).Nodup) (c : CandD) : freeC l c = N.all fun p => oneF l c p.1 p.2 := by
 rw [Bool.eq_iff_iff]
 unfold freeC oneF
 rw [List.all_eq_true, List.all_eq_true]
 constructor
 ·intro h1 p hp
  obtain ⟨h2, h3⟩ := h.mem hn hp
  rw [h3]
  exact h1 _ h2
 ·intro h1 r hr
  have h2 := h r
  rw [if_pos hr] at h2
  exact h1 _ (aget_mem h2)
theorem at_id {l : List ObjD} {id : ByteArray} {o : ObjD} (h : atO l id = some o) : o.id = id := (at_node h).2
def dropTo (n : ByteArray) (ids : List ByteArray) (o : ObjD) : ObjD := if o.id ∈ ids then lessO n o else o
theorem drop_to_nil (n : ByteArray) (o : ObjD) : dropTo n [] o = o := by unfold dropTo; rw [if_neg (by simp)]
theorem drop_to_id (n : ByteArray) (ids : List ByteArray) (o : ObjD) : (dropTo n ids o).id = o.id := by unfold dropTo; split <;> rfl
theorem drop_to_all {l : List ObjD} {n id : ByteArray} : (atO l id).map (dropTo n ((refersP l n).map (·.id))) = (atO l id).map (lessO n) := by
 cases h : atO l id with
 |none => rfl
 |some o =>
  simp only [Option.map_some, Option.some.injEq]
  unfold dropTo
  split
  ·rfl
  ·rename_i hno
   rw [less_same]
   intro hc
   exact hno (List.mem_map.2 ⟨o, List.mem_filter.2 ⟨(at_node h).1, decide_eq_true hc⟩, rfl⟩)
theorem refers_none {l : List ObjD} {n : ByteArray} : refersP (dropP l n) n = [] := by
 unfold refersP
 rw [List.filter_eq_nil_iff]
 intro x hx
 obtain ⟨o, ho, hne, rfl⟩ := drop_mem.1 hx
 simp only [decide_eq_true_eq]
 intro c
 exact (less_mem.1 c).2 rfl
theorem at_find (l : List ObjD) (id : ByteArray) : atO l id = l.find? fun o => decide (o.id = id) := by
 unfold atO
 induction l with
 |nil => rfl
 |cons o l ih =>
  rw [posO, List.find?_cons]
  by_cases h : o.id = id
  ·rw [if_pos h]; simp [h]
  ·rw [if_neg h]
   simp only [h, decide_false]
   rw [← ih]
   cases posO id l <;> rfl
theorem at_snoc {l : List ObjD} (h : mapOK l = true) {k : Nat} {o : ObjD} (ho : l[k]? = some o) (id : ByteArray) : atO (l.take (k + 1)) id = if o.id = id then some o else atO (l.take k) id := by
 obtain ⟨hk, e⟩ := List.getElem?_eq_some_iff.1 ho
 rw [at_find, at_find, List.take_succ_eq_append_getElem hk, e, List.find?_append]
 by_cases hi : o.id = id
 ·rw [if_pos hi]
  have : (l.take k).find? (fun o => decide (o.id = id)) = none := by
   rw [← at_find]
   unfold atO
   subst hi
   rw [pos_take_none h ho]; rfl
  rw [this]
  simp [hi]
 ·rw [if_neg hi]
  have : [o].find? (fun o => decide (o.id = id)) = none := by simp [hi]
  rw [this, Option.or_none]
def refI (l : List ObjD) (k i : Nat) (o : ObjD) (r : ByteArray) : List ByteArray := (refersP (l.take k) r).map (·.id) ++ if r ∈ o.refs.take i then [o.id] else []
def nodI (l : List ObjD) (k i : Nat) (o : ObjD) (r : ByteArray) : Prop := r ∈ brefP (l.take k) ∨ ((o.kind = 2 ∨ o.kind = 3) ∧ r ∈ o.refs.take i)
theorem ref_zero (l : List ObjD) (k : Nat) (o : ObjD) (r : ByteArray) : refI l k 0 o r = (refersP (l.take k) r).map (·.id) := by unfold refI; simp
theorem refers_snoc (l : List ObjD) (o : ObjD) (r : ByteArray) : refersP (l ++ [o]) r = refersP l r ++ if r ∈ o.refs then [o] else [] := by
 unfold refersP
 rw [List.filter_append]
 congr 1
 by_cases h : r ∈ o.refs
 ·rw [if_pos h]; simp [h]
 ·rw [if_neg h]; simp [h]
theorem ref_full {l : List ObjD} {k : Nat} {o : ObjD} (ho : l[k]? = some o) (r : ByteArray) : refI l k o.refs.length o r = (refersP (l.take (k + 1)) r).map (·.id) := by
 obtain ⟨hk, e⟩ := List.getElem?_eq_some_iff.1 ho
 unfold refI
 rw [List.take_of_length_le (Nat.le_refl _), List.take_succ_eq_append_getElem hk, e, refers_snoc, List.map_append]
 congr 1
 split <;> rfl
theorem nod_zero (l : List ObjD) (k : Nat) (o : ObjD) (r : ByteArray) : nodI l k 0 o r ↔ r ∈ brefP (l.take k) := by unfold nodI; simp
theorem nod_full {l : List ObjD} {k : Nat} {o : ObjD} (ho : l[k]? = some o) (r : ByteArray) : nodI l k o.refs.length o r ↔ r ∈ brefP (l.take (k + 1)) := by
 obtain ⟨hk, e⟩ := List.getElem?_eq_some_iff.1 ho
 unfold nodI
 rw [List.take_of_length_le (Nat.le_refl _), List.take_succ_eq_append_getElem hk, e, bref_mem, bref_mem]
 constructor
 ·rintro (⟨x, hx, h1, h2⟩ | ⟨h1, h2⟩)
  ·exact ⟨x, List.mem_append_left _ hx, h1, h2⟩
  ·exact ⟨o, by simp, h1, h2⟩
 ·rintro ⟨x, hx, h1, h2⟩
  rcases List.mem_append.1 hx with hx | hx
  ·exact Or.inl ⟨x, hx, h1, h2⟩
  ·rw [List.mem_singleton.1 hx] at h1 h2
   exact Or.inr ⟨h1, h2⟩
theorem ref_not {l : List ObjD} (h : mapOK l = true) {k i : Nat} {o : ObjD} (ho : l[k]? = some o) (r : ByteArray) : o.id ∈ refI l k i o r ↔ r ∈ o.refs.take i := by
 unfold refI
 rw [List.mem_append]
 constructor
 ·rintro (c | c)
  ·obtain ⟨x, hx, e⟩ := List.mem_map.1 c
   have hx := (List.mem_filter.1 hx).1
   have hp := pos_take_none h ho
   obtain ⟨j, hj⟩ := List.getElem?_of_mem hx
   have h1 : atO (l.take k) o.id = none := by unfold atO; rw [hp]; rfl
   rw [at_find, List.find?_eq_none] at h1
   exact absurd e (by simpa using h1 x hx)
  ·split at c
   ·assumption
   ·cases c
 ·intro hm
  rw [if_pos hm]
  exact Or.inr (by simp)
theorem ref_step {l : List ObjD} {k i : Nat} {o : ObjD} {s : ByteArray} (hs : o.refs[i]? = some s) (r : ByteArray) : refI l k (i + 1) o r = if r = s ∧ r ∉ o.refs.take i then refI l k i o r ++ [o.id] else refI l k i o r := by
 obtain ⟨hi, e⟩ := List.getElem?_eq_some_iff.1 hs
 unfold refI
 rw [List.take_succ_eq_append_getElem hi, e]
 by_cases h1 : r ∈ o.refs.take i
 ·rw [if_pos (List.mem_append_left _ h1), if_pos h1, if_neg (fun c => c.2 h1)]
 ·by_cases h2 : r = s
  ·rw [if_pos (by rw [h2]; simp), if_neg h1, if_pos ⟨h2, h1⟩, List.append_nil]
  ·rw [if_neg (by simp [h1, h2]), if_neg h1, if_neg (fun c => h2 c.1)]
theorem nod_step {l : List ObjD} {k i : Nat} {o : ObjD} {s : ByteArray} (hs : o.refs[i]? = some s) (r : ByteArray) : nodI l k (i + 1) o r ↔ nodI l k i o r ∨ ((o.kind = 2 ∨ o.kind = 3) ∧ r = s) := by
 obtain ⟨hi, e⟩ := List.getElem?_eq_some_iff.1 hs
 unfold nodI
 rw [List.take_succ_eq_append_getElem hi, e]
 simp only [List.mem_append, List.mem_singleton]
 constructor
 ·rintro (h | ⟨h1, h2 | h2⟩)
  ·exact Or.inl (Or.inl h)
  ·exact Or.inl (Or.inr ⟨h1, h2⟩)
  ·exact Or.inr ⟨h1, h2⟩
 ·rintro ((h | ⟨h1, h2⟩) | ⟨h1, h2⟩)
  ·exact Or.inl h
  ·exact Or.inr ⟨h1, Or.inl h2⟩
  ·exact Or.inr ⟨h1, Or.inr h2⟩
theorem pt_at {l : List ObjD} (h : mapOK l = true) {r : ByteArray} {x : ObjD} (hx : atO l r = some x) (hk : x.kind = 1) : ptO l r = (x.x, x.y) := by
 obtain ⟨h1, h2⟩ := at_node hx
 unfold ptO
 rw [(nodeAt_iff h).2 ⟨x, h1, h2, hk, rfl⟩]; rfl
theorem fit_not {l : List ObjD} {o : ObjD} (ho : o ∈ l) {i : Nat} {r : ByteArray} (hr : o.refs[i]? = some r) (h : ∀ x, atO l r = some x → x.kind ≠ wantK o i) : fitP l = false := by
 cases hf : fitP l with
 |false => rfl
 |true =>
  obtain ⟨x, hx, hk⟩ := fit_iff.1 ((fit_parts.1 hf).2.2 o ho) i r hr
  exact absurd hk (h x hx)
end Go.Proofs.YtibpaaajghbkoaaGreat
