/- geom: near, to, cross, Orient, Compare, sorted. geom: Orient, Compare, sorted, On. geom: sorted, On, online, Meets. -/
import Derived.Test.YtbkomdinchiffaaGreatMixTF
import Derived.Test.YtbkomdinchiffaaGreatGeoP
import Derived.Test.YtbkomdinchiffaaGreatShelf
import Derived.Laws.StructEq
namespace Go.Proofs.YtbkomdinchiffaaGreat
open Go.RowKit

def encPt (p : Int × Int) : List Value := [.int .i64 p.1, .int .i64 p.2]
theorem encPt_len (p : Int × Int) : (encPt p).length = 2 := rfl
theorem encPt_one (p : Int × Int) : ∀ v ∈ encPt p, v.oneCell' = true := by
  intro v hv
  simp only [encPt, List.mem_cons, List.not_mem_nil, or_false] at hv
  rcases hv with rfl | rfl <;> rfl
abbrev ptV (p : Pt) : Value := .agg #[.int .i64 p.1, .int .i64 p.2]
abbrev sgV (s : Sg) : Value := .agg #[.int .i64 s.1.1, .int .i64 s.1.2, .int .i64 s.2.1, .int .i64 s.2.2]
theorem nearQ_take {l : List Pt} {k : Nat} {p : Pt} (hp : l[k]? = some p) (h : ∀ q ∈ l.take k, nearQ q = true) (hn : nearQ p = true) : ∀ q ∈ l.take (k + 1), nearQ q = true := by
  obtain ⟨hk, rfl⟩ := List.getElem?_eq_some_iff.1 hp
  rw [List.take_succ_eq_append_getElem hk]
  intro q hq
  rcases List.mem_append.1 hq with hq | hq
  · exact h q hq
  · rw [List.mem_singleton.1 hq]; exact hn

set_option maxRecDepth 100000 in
set_option maxHeartbeats 2000000 in
theorem near_any (v : Value) (l : List Pt) (w : World) (hl : l.length ≤ 1000) (hv : RowE encPt 2 w v l) :
    Calls Tryz.prog 54 #[v] w fun e w' => e = .returned (.bool (l.all nearQ)) ∧ Below w.heap.size w w' := by
  obtain ⟨a, cap, rfl, hc⟩ := hv
  obtain ⟨N, hN⟩ : ∃ N, l.length = N := ⟨_, rfl⟩
  rw [hN] at hl hc ⊢
  have HN := Lib.hid hN
  have HC := Lib.hid hc
  obtain ⟨res, hres⟩ : ∃ z, z = l.all nearQ := ⟨_, rfl⟩
  rw [← hres]
  have HR := Lib.hid hres
  clear hN hc hres
  go_enter Tryz.func54, Tryz.ntmps54
  go_wp2
  go_loopw [7] (fun i wr => ∃ k : Nat, k ≤ N ∧ i = .int .i64 k ∧ (∀ q ∈ l.take k, nearQ q = true) ∧ Below w.heap.size w wr) (fun i _ => N - (intOf i).toNat)
  case atStart => exact ⟨0, by omega, rfl, by simp, Below.refl _ _⟩
  case round =>
    obtain ⟨k, hk, rfl, hT, hbr⟩ := hrel
    have HT := Lib.hid hT
    clear hT
    have hsz := hbr.size
    by_cases hlt : k < N
    · obtain ⟨p, hp⟩ : ∃ p, l[k]? = some p := ⟨l[k]'(by rw [HN.out]; exact hlt), List.getElem?_eq_getElem _⟩
      obtain ⟨b, off, ha, hcell⟩ := HC.out (by omega)
      subst ha
      have c0 := cell_later hbr (hcell k p hp 0 _ rfl)
      have c1 := cell_later hbr (hcell k p hp 1 _ rfl)
      have c0' : wr.cell? ⟨b, off + k * 2, none⟩ = some (.int .i64 p.1) := c0
      have HP := Lib.hid hp
      obtain ⟨x, y⟩ := p
      simp only [] at c0' c1
      clear c0 hcell hp
      by_cases h1 : 2097152 < max x y
      · have h1d : decide (2097152 < max x y) = true := decide_eq_true h1
        have HE := Lib.hid (show res = false by
          rw [HR.out, List.all_eq_false]
          exact ⟨_, List.mem_of_getElem? HP.out, by unfold nearQ; rw [decide_eq_true_eq]; simp only; omega⟩)
        go_wp2
        go_ret
        exact ⟨by rw [HE.out] <;> rfl, hbr.alloc hbr.size _⟩
      have h1d : decide (2097152 < max x y) = false := decide_eq_false h1
      by_cases h2 : min x y < -2097152
      · have h2d : decide (min x y < -2097152) = true := decide_eq_true h2
        have HE := Lib.hid (show res = false by
          rw [HR.out, List.all_eq_false]
          exact ⟨_, List.mem_of_getElem? HP.out, by unfold nearQ; rw [decide_eq_true_eq]; simp only; omega⟩)
        go_wp2
        go_ret
        exact ⟨by rw [HE.out] <;> rfl, hbr.alloc hbr.size _⟩
      have h2d : decide (min x y < -2097152) = false := decide_eq_false h2
      have HG := Lib.hid (nearQ_take HP.out HT.out (by unfold nearQ; rw [decide_eq_true_eq]; simp only; omega))
      go_wp2
      go_roundw
      case rel => exact ⟨k + 1, by omega, by go_num, HG.out, hbr.alloc hbr.size _⟩
      case measure => simp [intOf]; omega
    · obtain rfl : k = N := by omega
      have HE := Lib.hid (show res = true by
        rw [HR.out, List.all_eq_true]
        have := HT.out
        rw [List.take_of_length_le (by rw [HN.out]; exact Nat.le_refl _)] at this
        exact this)
      go_wp2
      go_ret
      exact ⟨by rw [HE.out] <;> rfl, hbr⟩

set_option maxHeartbeats 1000000 in
theorem to_any (a b : Pt) (ha : nearQ a = true) (hb : nearQ b = true) (w : World) :
    Calls Tryz.prog 90 #[ptV a, ptV b] w fun e w' => e = .returned (.agg #[.int .i64 (b.1 - a.1), .int .i64 (b.2 - a.2)]) ∧ Below w.heap.size w w' := by
  have h1 := near_bd ha
  have h2 := near_bd hb
  obtain ⟨ax, ay⟩ := a
  obtain ⟨bx, by1⟩ := b
  simp only [] at h1 h2 ⊢
  obtain ⟨l1, l2, l3, l4⟩ := h1
  obtain ⟨m1, m2, m3, m4⟩ := h2
  clear ha hb
  go_enter Tryz.func90, Tryz.ntmps90
  go_wp2
  refine bodyPost_ret (v := .agg #[.int .i64 (bx - ax), .int .i64 (by1 - ay)]) ?_ rfl ⟨rfl, ?_⟩
  · simp [results, Tryz.results90, go_sem]
  · repeat' (first | exact Below.refl _ _ | refine Below.drew ?_ | refine Below.drewN' ?_ | refine Below.setCell ?_ (by first | omega | (simp; done) | exact Below.size (by assumption) | (simp; omega)) _ | refine Below.alloc ?_ (by first | omega | (simp; done) | exact Below.size (by assumption) | (simp; omega)) _ | refine Below.trans ?_ (Below.mono (by assumption) ?_) | (first | omega | (simp; done) | exact Below.size (by assumption) | (simp; omega)))

theorem mul_bd {x y B C : Int} (hB : -B ≤ x ∧ x ≤ B) (hC : -C ≤ y ∧ y ≤ C) : -(B * C) ≤ x * y ∧ x * y ≤ B * C := by
  have h0 : 0 ≤ B := by omega
  have h1 : 0 ≤ C := by omega
  have key : ∀ x y : Int, 0 ≤ x → x ≤ B → 0 ≤ y → y ≤ C → 0 ≤ x * y ∧ x * y ≤ B * C := fun x y a b c d =>
    ⟨Int.mul_nonneg a c, Int.mul_le_mul b d c h0⟩
  rcases Int.le_total 0 x with hx | hx <;> rcases Int.le_total 0 y with hy | hy
  · have := key x y hx (by omega) hy (by omega); omega
  · have := key x (-y) hx (by omega) (by omega) (by omega); rw [Int.mul_neg] at this; omega
  · have := key (-x) y (by omega) (by omega) hy (by omega); rw [Int.neg_mul] at this; omega
  · have := key (-x) (-y) (by omega) (by omega) (by omega) (by omega); rw [Int.neg_mul_neg] at this; omega
def smallV (v : Pt) : Prop := -4194304 ≤ v.1 ∧ v.1 ≤ 4194304 ∧ -4194304 ≤ v.2 ∧ v.2 ≤ 4194304
theorem cross_bd {v u : Pt} (hv : smallV v) (hu : smallV u) : -35184372088832 ≤ v.1 * u.2 - v.2 * u.1 ∧ v.1 * u.2 - v.2 * u.1 ≤ 35184372088832 := by
  have h1 := mul_bd (show -4194304 ≤ v.1 ∧ v.1 ≤ 4194304 from ⟨hv.1, hv.2.1⟩) (show -4194304 ≤ u.2 ∧ u.2 ≤ 4194304 from ⟨hu.2.2.1, hu.2.2.2⟩)
  have h2 := mul_bd (show -4194304 ≤ v.2 ∧ v.2 ≤ 4194304 from ⟨hv.2.2.1, hv.2.2.2⟩) (show -4194304 ≤ u.1 ∧ u.1 ≤ 4194304 from ⟨hu.1, hu.2.1⟩)
  omega
set_option maxHeartbeats 1000000 in
theorem cross_any (v u : Pt) (hv : smallV v) (hu : smallV u) (w : World) :
    Calls Tryz.prog 91 #[ptV v, ptV u] w fun e w' => e = .returned (.int .i64 (v.1 * u.2 - v.2 * u.1)) ∧ Below w.heap.size w w' := by
  have h1 := mul_bd (show -4194304 ≤ v.1 ∧ v.1 ≤ 4194304 from ⟨hv.1, hv.2.1⟩) (show -4194304 ≤ u.2 ∧ u.2 ≤ 4194304 from ⟨hu.2.2.1, hu.2.2.2⟩)
  have h2 := mul_bd (show -4194304 ≤ v.2 ∧ v.2 ≤ 4194304 from ⟨hv.2.2.1, hv.2.2.2⟩) (show -4194304 ≤ u.1 ∧ u.1 ≤ 4194304 from ⟨hu.1, hu.2.1⟩)
  obtain ⟨vx, vy⟩ := v
  obtain ⟨ux, uy⟩ := u
  simp only [] at h1 h2 ⊢
  have w1 : IntKind.i64.wrap (vx * uy) = vx * uy := IntWalk.i64_in _ (by omega)
  have w2 : IntKind.i64.wrap (vy * ux) = vy * ux := IntWalk.i64_in _ (by omega)
  have w3 : IntKind.i64.wrap (vx * uy - vy * ux) = vx * uy - vy * ux := IntWalk.i64_in _ (by omega)
  clear hv hu h1 h2
  go_enter Tryz.func91, Tryz.ntmps91
  go_wp2
  go_ret
  exact ⟨rfl, (by repeat' (first | exact Below.refl _ _ | refine Below.drew ?_ | refine Below.drewN' ?_ | refine Below.setCell ?_ (by first | omega | (simp; done) | exact Below.size (by assumption) | (simp; omega)) _ | refine Below.alloc ?_ (by first | omega | (simp; done) | exact Below.size (by assumption) | (simp; omega)) _ | refine Below.trans ?_ (Below.mono (by assumption) ?_) | (first | omega | (simp; done) | exact Below.size (by assumption) | (simp; omega))))⟩
end Go.Proofs.YtbkomdinchiffaaGreat

namespace Go.Proofs.YtbkomdinchiffaaGreat
open Go.RowKit

theorem comp_sgn (n : Int) : Lib.compareInt n 0 = sgn n := by
  unfold Lib.compareInt sgn
  split <;> (try split) <;> (try split) <;> (try split) <;> omega
theorem near_diff {a b : Pt} (ha : nearQ a = true) (hb : nearQ b = true) : smallV (b.1 - a.1, b.2 - a.2) := by
  have h1 := near_bd ha
  have h2 := near_bd hb
  unfold smallV; simp only; omega
set_option maxRecDepth 100000 in
set_option maxHeartbeats 2000000 in
theorem orient_any (a b c : Pt) (ha : nearQ a = true) (hb : nearQ b = true) (hc : nearQ c = true) (w : World) :
    Calls Tryz.prog 56 #[ptV a, ptV b, ptV c] w fun e w' => e = .returned (.int .i64 (sgn (crs a b c))) ∧ Below w.heap.size w w' := by
  have NR := Lib.hid (fun (v : Value) w' hv => by
    have := near_any v [a, b, c] w' (by simp) hv
    rw [show [a, b, c].all nearQ = true by simp [ha, hb, hc]] at this
    exact this)
  have T1 := Lib.hid (fun w => to_any a b ha hb w)
  have T2 := Lib.hid (fun w => to_any a c ha hc w)
  have CR := Lib.hid (fun w => cross_any (b.1 - a.1, b.2 - a.2) (c.1 - a.1, c.2 - a.2) (near_diff ha hb) (near_diff ha hc) w)
  have CP := Lib.hid (fun w => Tryz.cmp_Compare_int (crs a b c) 0 w)
  have HE := Lib.hid (comp_sgn (crs a b c))
  have HC := Lib.hid (show (b.1 - a.1) * (c.2 - a.2) - (b.2 - a.2) * (c.1 - a.1) = crs a b c from rfl)
  generalize crs a b c = n at CP HE HC ⊢
  simp only [HC.out] at CR
  clear ha hb hc HC
  obtain ⟨ax, ay⟩ := a
  obtain ⟨bx, by1⟩ := b
  obtain ⟨cx, cy⟩ := c
  simp only [] at T1 T2 CR NR ⊢
  go_enter Tryz.func56, Tryz.ntmps56
  go_wp2_with fail
  have B1 : Below w.heap.size w ((((w.alloc (.cells #[.int .i64 ax, .int .i64 ay] 37)).alloc (.cells #[.int .i64 bx, .int .i64 by1] 37)).alloc (.cells #[.int .i64 cx, .int .i64 cy] 37)).alloc (.cells #[.int .i64 ax, .int .i64 ay, .int .i64 bx, .int .i64 by1, .int .i64 cx, .int .i64 cy] 37)) := (by repeat' (first | exact Below.refl _ _ | refine Below.drew ?_ | refine Below.drewN' ?_ | refine Below.setCell ?_ (by first | omega | (simp; done) | exact Below.size (by assumption) | (simp; omega)) _ | refine Below.alloc ?_ (by first | omega | (simp; done) | exact Below.size (by assumption) | (simp; omega)) _ | refine Below.trans ?_ (Below.mono (by assumption) ?_) | (first | omega | (simp; done) | exact Below.size (by assumption) | (simp; omega))))
  have H4 := row_new ((((w.alloc (.cells #[.int .i64 ax, .int .i64 ay] 37)).alloc (.cells #[.int .i64 bx, .int .i64 by1] 37)).alloc (.cells #[.int .i64 cx, .int .i64 cy] 37))) (.cells #[.int .i64 ax, .int .i64 ay, .int .i64 bx, .int .i64 by1, .int .i64 cx, .int .i64 cy] 37)
  have H1 := row_past (o' := .cells #[.int .i64 ax, .int .i64 ay, .int .i64 bx, .int .i64 by1, .int .i64 cx, .int .i64 cy] 37) (row_past (o' := .cells #[.int .i64 cx, .int .i64 cy] 37) (row_past (o' := .cells #[.int .i64 bx, .int .i64 by1] 37) (row_new w (.cells #[.int .i64 ax, .int .i64 ay] 37))))
  have H2 := row_past (o' := .cells #[.int .i64 ax, .int .i64 ay, .int .i64 bx, .int .i64 by1, .int .i64 cx, .int .i64 cy] 37) (row_past (o' := .cells #[.int .i64 cx, .int .i64 cy] 37) (row_new1 w (.cells #[.int .i64 ax, .int .i64 ay] 37) (.cells #[.int .i64 bx, .int .i64 by1] 37)))
  have H3 := row_past (o' := .cells #[.int .i64 ax, .int .i64 ay, .int .i64 bx, .int .i64 by1, .int .i64 cx, .int .i64 cy] 37) (row_new2 w (.cells #[.int .i64 ax, .int .i64 ay] 37) (.cells #[.int .i64 bx, .int .i64 by1] 37) (.cells #[.int .i64 cx, .int .i64 cy] 37))
  generalize hw1 : (((w.alloc (.cells #[.int .i64 ax, .int .i64 ay] 37)).alloc (.cells #[.int .i64 bx, .int .i64 by1] 37)).alloc (.cells #[.int .i64 cx, .int .i64 cy] 37)).alloc (.cells #[.int .i64 ax, .int .i64 ay, .int .i64 bx, .int .i64 by1, .int .i64 cx, .int .i64 cy] 37) = w1
  rw [hw1] at B1 H1 H2 H3
  have H4' : w1.heap[w.heap.size + 3]? = some (.cells #[.int .i64 ax, .int .i64 ay, .int .i64 bx, .int .i64 by1, .int .i64 cx, .int .i64 cy] 37) := by
    rw [← hw1]; simpa using H4
  clear hw1 H4
  have H1 := Lib.hid H1
  have H2 := Lib.hid H2
  have H3 := Lib.hid H3
  refine (NR.out _ w1 (RowE.of_block (l := [(ax, ay), (bx, by1), (cx, cy)]) encPt_len rfl H4' 3 rfl)).mono ?_
  rintro e w2 ⟨rfl, hb⟩
  have B2 := below_step B1 (Nat.le_refl _) hb
  replace H1 := Lib.hid (row_later hb H1.out)
  replace H2 := Lib.hid (row_later hb H2.out)
  replace H3 := Lib.hid (row_later hb H3.out)
  clear hb H4' B1 NR
  have az := lt_of_block H1.out
  have a0 := cell_of_row w2 _ 0 _ _ _ H1.out
  have a1 := cell_of_row w2 _ 1 _ _ _ H1.out
  simp only [List.getElem?_toArray, List.getElem?_cons_zero, List.getElem?_cons_succ] at a0 a1
  have bz := lt_of_block H2.out
  have b0 := cell_of_row w2 _ 0 _ _ _ H2.out
  have b1 := cell_of_row w2 _ 1 _ _ _ H2.out
  simp only [List.getElem?_toArray, List.getElem?_cons_zero, List.getElem?_cons_succ] at b0 b1
  have cz := lt_of_block H3.out
  have c0 := cell_of_row w2 _ 0 _ _ _ H3.out
  have c1 := cell_of_row w2 _ 1 _ _ _ H3.out
  simp only [List.getElem?_toArray, List.getElem?_cons_zero, List.getElem?_cons_succ] at c0 c1
  go_wp2_with fail
  refine (T1.out _).mono ?_
  rintro e w3 ⟨rfl, hb⟩
  have B3 := below_step B2 (Nat.le_refl _) hb
  clear a0 a1 az
  clear b0 b1 bz
  clear c0 c1 cz
  replace H1 := Lib.hid (row_later hb H1.out)
  replace H2 := Lib.hid (row_later hb H2.out)
  replace H3 := Lib.hid (row_later hb H3.out)
  clear hb B2
  have az := lt_of_block H1.out
  have a0 := cell_of_row w3 _ 0 _ _ _ H1.out
  have a1 := cell_of_row w3 _ 1 _ _ _ H1.out
  simp only [List.getElem?_toArray, List.getElem?_cons_zero, List.getElem?_cons_succ] at a0 a1
  have cz := lt_of_block H3.out
  have c0 := cell_of_row w3 _ 0 _ _ _ H3.out
  have c1 := cell_of_row w3 _ 1 _ _ _ H3.out
  simp only [List.getElem?_toArray, List.getElem?_cons_zero, List.getElem?_cons_succ] at c0 c1
  go_wp2_with fail
  refine (T2.out _).mono ?_
  rintro e w4 ⟨rfl, hb⟩
  have B4 := below_step B3 (Nat.le_refl _) hb
  clear a0 a1 az
  clear c0 c1 cz
  clear hb B3
  go_wp2_with fail
  refine (CR.out _).mono ?_
  rintro e w5 ⟨rfl, hb⟩
  have B5 := below_step B4 (Nat.le_refl _) hb
  clear hb B4
  go_wp2_with fail
  refine (CP.out _).mono ?_
  rintro e w6 ⟨rfl, rfl⟩
  go_wp2
  go_ret
  exact ⟨by rw [HE.out] <;> rfl, B5⟩

/-- The first difference of pairs of numbers. -/
def firstC : List Pt → Int
  | [] => 0
  | p :: l => if Lib.compareInt p.1 p.2 = 0 then firstC l else Lib.compareInt p.1 p.2
theorem firstC_drop (l : List Pt) (k : Nat) (p : Pt) (hp : l[k]? = some p) : firstC (l.drop k) = if Lib.compareInt p.1 p.2 = 0 then firstC (l.drop (k + 1)) else Lib.compareInt p.1 p.2 := by
  obtain ⟨hk, rfl⟩ := List.getElem?_eq_some_iff.1 hp
  rw [List.drop_eq_getElem_cons hk]; rfl
theorem lexC_first (p q : Pt) : firstC [(p.1, q.1), (p.2, q.2)] = lexC p q := by
  unfold firstC firstC firstC lexC Lib.compareInt
  simp only
  split <;> (try split) <;> (try split) <;> (try split) <;> (try split) <;> (try split) <;> omega
set_option maxRecDepth 100000 in
set_option maxHeartbeats 2000000 in
theorem first_any (v : Value) (l : List Pt) (w : World) (hl : l.length ≤ 1000) (hv : RowE encPt 2 w v l) :
    Calls Tryz.prog 132 #[v] w fun e w' => e = .returned (.int .i64 (firstC l)) ∧ Below w.heap.size w w' := by
  obtain ⟨a, cap, rfl, hc⟩ := hv
  obtain ⟨N, hN⟩ : ∃ N, l.length = N := ⟨_, rfl⟩
  rw [hN] at hl hc ⊢
  have HN := Lib.hid hN
  have HC := Lib.hid hc
  obtain ⟨res, hres⟩ : ∃ z, firstC l = z := ⟨_, rfl⟩
  rw [hres]
  have HR := Lib.hid hres
  have CP := Lib.hid (fun x y w => Tryz.cmp_Compare_int x y w)
  clear hN hc hres
  go_enter Tryz.func132, Tryz.ntmps132
  go_wp2
  go_loopw [8] (fun i wr => ∃ k : Nat, k ≤ N ∧ i = .int .i64 k ∧ Hid (firstC (l.drop k) = res) ∧ Below w.heap.size w wr) (fun i _ => N - (intOf i).toNat)
  case atStart => exact ⟨0, by omega, rfl, HR, Below.refl _ _⟩
  case round =>
    obtain ⟨k, hk, rfl, hT, hbr⟩ := hrel
    have hsz := hbr.size
    by_cases hlt : k < N
    · obtain ⟨p, hp⟩ : ∃ p, l[k]? = some p := ⟨l[k]'(by rw [HN.out]; exact hlt), List.getElem?_eq_getElem _⟩
      obtain ⟨b, off, ha, hcell⟩ := HC.out (by omega)
      subst ha
      have c0 := cell_later hbr (hcell k p hp 0 _ rfl)
      have c1 := cell_later hbr (hcell k p hp 1 _ rfl)
      have c0' : wr.cell? ⟨b, off + k * 2, none⟩ = some (.int .i64 p.1) := c0
      have HD := Lib.hid (firstC_drop l k p hp)
      obtain ⟨x, y⟩ := p
      simp only [] at c0' c1 HD
      clear c0 hcell hp
      go_wp2_with fail
      refine (CP.out x y _).mono ?_
      rintro e w2 ⟨rfl, rfl⟩
      obtain ⟨c, hcv⟩ : ∃ z, z = Lib.compareInt x y := ⟨_, rfl⟩
      rw [← hcv] at HD ⊢
      clear hcv
      by_cases h0 : c = 0
      · subst h0
        have HG : Hid (firstC (l.drop (k + 1)) = res) := Lib.hid (by rw [← hT.out, HD.out, if_pos rfl])
        go_wp2
        go_roundw
        case rel => exact ⟨k + 1, by omega, by go_num, HG, hbr.alloc hbr.size _⟩
        case measure => simp [intOf]; omega
      · have h0d : (c != 0) = true := by rw [bne_iff_ne]; exact h0
        have HE := Lib.hid (show res = c by rw [← hT.out, HD.out, if_neg h0])
        go_wp2
        go_ret
        exact ⟨by rw [HE.out] <;> rfl, hbr.alloc hbr.size _⟩
    · obtain rfl : k = N := by omega
      have HE := Lib.hid (show res = 0 by rw [← hT.out, List.drop_of_length_le (by rw [HN.out]; exact Nat.le_refl _)]; rfl)
      go_wp2
      go_ret
      exact ⟨by rw [HE.out] <;> rfl, hbr⟩

set_option maxHeartbeats 1000000 in
theorem gcomp_any (p q : Pt) (w : World) :
    Calls Tryz.prog 89 #[ptV p, ptV q] w fun e w' => e = .returned (.int .i64 (lexC p q)) ∧ Below w.heap.size w w' := by
  have FR := Lib.hid (fun (v : Value) w' hv => by
    have := first_any v [(p.1, q.1), (p.2, q.2)] w' (by simp) hv
    rw [lexC_first] at this
    exact this)
  generalize lexC p q = n at FR ⊢
  obtain ⟨px, py⟩ := p
  obtain ⟨qx, qy⟩ := q
  simp only [] at FR ⊢
  go_enter Tryz.func89, Tryz.ntmps89
  go_wp2_with fail
  refine (FR.out _ _ (RowE.of_block (l := [(px, qx), (py, qy)]) encPt_len rfl (row_new2 w (.cells #[.int .i64 px, .int .i64 py] 37) (.cells #[.int .i64 qx, .int .i64 qy] 37) (.cells #[.int .i64 px, .int .i64 qx, .int .i64 py, .int .i64 qy] 92)) 2 rfl)).mono ?_
  rintro e w2 ⟨rfl, hb⟩
  have B2 := below_step (B := w.heap.size) (a := w) (by repeat' (first | exact Below.refl _ _ | refine Below.drew ?_ | refine Below.drewN' ?_ | refine Below.setCell ?_ (by first | omega | (simp; done) | exact Below.size (by assumption) | (simp; omega)) _ | refine Below.alloc ?_ (by first | omega | (simp; done) | exact Below.size (by assumption) | (simp; omega)) _ | refine Below.trans ?_ (Below.mono (by assumption) ?_) | (first | omega | (simp; done) | exact Below.size (by assumption) | (simp; omega)))) (Nat.le_refl _) hb
  go_wp2
  go_ret
  exact ⟨rfl, B2⟩
end Go.Proofs.YtbkomdinchiffaaGreat

namespace Go.Proofs.YtbkomdinchiffaaGreat
open Go.RowKit

theorem sf37 : Tryz.prog.stoodInHeld 37 = false := by kernel_rfl
theorem eg37 : Tryz.prog.eqGuardType Tryz.prog.depth 37 = false := by kernel_rfl
theorem fo37 : Tryz.prog.underlying 37 = some (.struct (Tryz.prog.fieldsOf 37)) := by kernel_rfl
theorem sf39 : Tryz.prog.stoodInHeld 39 = false := by kernel_rfl
theorem eg39 : Tryz.prog.eqGuardType Tryz.prog.depth 39 = false := by kernel_rfl
theorem fo39 : Tryz.prog.underlying 39 = some (.struct (Tryz.prog.fieldsOf 39)) := by kernel_rfl
theorem eql_point (p q : Pt) (w : World) : (binOp .eql 37 (.agg #[.int .i64 p.1, .int .i64 p.2]) (.agg #[.int .i64 q.1, .int .i64 q.2])).run Tryz.prog w = .ok (.bool (decide (p = q))) w := by
  simp only [run_eql_struct]
  rw [show (10000 : Nat) = 9999 + 1 from rfl, run_equalIn_struct _ _ _ _ _ fo37 sf37]
  simp [Program.fieldsOf, Tryz.underlying37, Op.eqFields, go_sem]
  obtain ⟨a, b⟩ := p
  obtain ⟨c, d⟩ := q
  simp only [Prod.mk.injEq]
  (repeat' split) <;> simp_all
theorem neq_point (p q : Pt) (w : World) : (binOp .neq 37 (.agg #[.int .i64 p.1, .int .i64 p.2]) (.agg #[.int .i64 q.1, .int .i64 q.2])).run Tryz.prog w = .ok (.bool (!decide (p = q))) w := by
  simp only [run_neq_struct]
  rw [show (10000 : Nat) = 9999 + 1 from rfl, run_equalIn_struct _ _ _ _ _ fo37 sf37]
  simp [Program.fieldsOf, Tryz.underlying37, Op.eqFields, go_sem]
  obtain ⟨a, b⟩ := p
  obtain ⟨c, d⟩ := q
  simp only [Prod.mk.injEq]
  (repeat' split) <;> simp_all
theorem eql_seg (s t : Sg) (w : World) : (binOp .eql 39 (.agg #[.int .i64 s.1.1, .int .i64 s.1.2, .int .i64 s.2.1, .int .i64 s.2.2]) (.agg #[.int .i64 t.1.1, .int .i64 t.1.2, .int .i64 t.2.1, .int .i64 t.2.2])).run Tryz.prog w = .ok (.bool (decide (s = t))) w := by
  simp only [run_eql_struct]
  rw [show (10000 : Nat) = 9999 + 1 from rfl, run_equalIn_struct _ _ _ _ _ fo39 sf39]
  simp [Program.fieldsOf, Tryz.underlying39, Op.eqFields, go_sem]
  obtain ⟨⟨a, b⟩, ⟨c, d⟩⟩ := s
  obtain ⟨⟨a', b'⟩, ⟨c', d'⟩⟩ := t
  simp only [Prod.mk.injEq]
  (repeat' split) <;> simp_all
set_option maxRecDepth 100000 in
set_option maxHeartbeats 2000000 in
theorem sorted_any (s : Sg) (w : World) :
    Calls Tryz.prog 55 #[sgV s] w fun e w' => e = .returned (sgV (srtS s)) ∧ Below w.heap.size w w' := by
  have CP := Lib.hid (fun w => gcomp_any s.1 s.2 w)
  have HS := Lib.hid (show srtS s = if 0 < lexC s.1 s.2 then (s.2, s.1) else s from rfl)
  generalize lexC s.1 s.2 = c at CP HS
  generalize srtS s = r at HS ⊢
  obtain ⟨⟨ax, ay⟩, ⟨bx, by1⟩⟩ := s
  simp only [] at CP HS ⊢
  go_enter Tryz.func55, Tryz.ntmps55
  go_wp2_with fail
  have H1 := row_past (o' := .cells #[.int .i64 0, .int .i64 0, .int .i64 0, .int .i64 0] 39) (row_new w (.cells #[.int .i64 ax, .int .i64 ay, .int .i64 bx, .int .i64 by1] 39))
  have H2 := row_new1 w (.cells #[.int .i64 ax, .int .i64 ay, .int .i64 bx, .int .i64 by1] 39) (.cells #[.int .i64 0, .int .i64 0, .int .i64 0, .int .i64 0] 39)
  refine (CP.out _).mono ?_
  rintro e w2 ⟨rfl, hb⟩
  have B2 : Below w.heap.size w w2 := below_step (by repeat' (first | exact Below.refl _ _ | refine Below.drew ?_ | refine Below.drewN' ?_ | refine Below.setCell ?_ (by first | omega | (simp; done) | exact Below.size (by assumption) | (simp; omega)) _ | refine Below.alloc ?_ (by first | omega | (simp; done) | exact Below.size (by assumption) | (simp; omega)) _ | refine Below.trans ?_ (Below.mono (by assumption) ?_) | (first | omega | (simp; done) | exact Below.size (by assumption) | (simp; omega)))) (Nat.le_refl _) hb
  have H1 := Lib.hid (row_later hb H1)
  have H2 := Lib.hid (row_later hb H2)
  clear hb CP
  have az := lt_of_block H1.out
  have a0 := cell_of_row w2 _ 0 _ _ _ H1.out
  have a1 := cell_of_row w2 _ 1 _ _ _ H1.out
  have a2 := cell_of_row w2 _ 2 _ _ _ H1.out
  have a3 := cell_of_row w2 _ 3 _ _ _ H1.out
  have af0 := frozen_of_row w2 _ 0 _ _ H1.out
  have af1 := frozen_of_row w2 _ 1 _ _ H1.out
  have af2 := frozen_of_row w2 _ 2 _ _ H1.out
  have af3 := frozen_of_row w2 _ 3 _ _ H1.out
  simp only [List.getElem?_toArray, List.getElem?_cons_zero, List.getElem?_cons_succ] at a0 a1 a2 a3
  have bz := lt_of_block H2.out
  have b0 := cell_of_row w2 _ 0 _ _ _ H2.out
  have b1 := cell_of_row w2 _ 1 _ _ _ H2.out
  have b2 := cell_of_row w2 _ 2 _ _ _ H2.out
  have b3 := cell_of_row w2 _ 3 _ _ _ H2.out
  have bf0 := frozen_of_row w2 _ 0 _ _ H2.out
  have bf1 := frozen_of_row w2 _ 1 _ _ H2.out
  have bf2 := frozen_of_row w2 _ 2 _ _ H2.out
  have bf3 := frozen_of_row w2 _ 3 _ _ H2.out
  simp only [List.getElem?_toArray, List.getElem?_cons_zero, List.getElem?_cons_succ] at b0 b1 b2 b3
  by_cases h : 0 < c
  · have hd : decide (0 < c) = true := decide_eq_true h
    have HE := Lib.hid (show r = ((bx, by1), (ax, ay)) by rw [HS.out, if_pos h])
    clear h
    go_wp2
    refine bodyPost_ret (v := sgV ((bx, by1), (ax, ay))) ?_ rfl ⟨by rw [HE.out], ?_⟩
    · simp [results, Tryz.results55, go_sem, sgV, b0, b1, b2, b3]
    · exact (((((((B2.setCell (p := ⟨w.heap.size, 0, none⟩) (Nat.le_refl _) _).setCell (p := ⟨w.heap.size, 1, none⟩) (Nat.le_refl _) _).setCell (p := ⟨w.heap.size, 2, none⟩) (Nat.le_refl _) _).setCell (p := ⟨w.heap.size, 3, none⟩) (Nat.le_refl _) _).setCell (p := ⟨w.heap.size + 1, 0, none⟩) (by simp) _).setCell (p := ⟨w.heap.size + 1, 1, none⟩) (by simp) _).setCell (p := ⟨w.heap.size + 1, 2, none⟩) (by simp) _).setCell (p := ⟨w.heap.size + 1, 3, none⟩) (by simp) _
  · have hd : decide (0 < c) = false := decide_eq_false h
    have HE := Lib.hid (show r = ((ax, ay), (bx, by1)) by rw [HS.out, if_neg h])
    clear h
    go_wp2
    refine bodyPost_ret (v := sgV ((ax, ay), (bx, by1))) ?_ rfl ⟨by rw [HE.out], ?_⟩
    · simp [results, Tryz.results55, go_sem, sgV, b0, b1, b2, b3]
    · exact (((B2.setCell (p := ⟨w.heap.size + 1, 0, none⟩) (by simp) _).setCell (p := ⟨w.heap.size + 1, 1, none⟩) (by simp) _).setCell (p := ⟨w.heap.size + 1, 2, none⟩) (by simp) _).setCell (p := ⟨w.heap.size + 1, 3, none⟩) (by simp) _
end Go.Proofs.YtbkomdinchiffaaGreat
