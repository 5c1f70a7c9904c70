/- The reference's geometry: Is, Segment, cross, sign, Orient, On, end. -/
import Derived.Test.YtbkomdinchiffaaGreatBorABC
namespace Go.Proofs.YtbkomdinchiffaaGreat
open Go.RowKit

set_option maxHeartbeats 1000000 in
theorem ris_any (p : Pt) (w : World) :
    Calls Tryz.prog 76 #[ptV p] w fun e w' => e = .returned (.bool (nearQ p)) ∧ Below w.heap.size w w' := by
  have HQ := Lib.hid (show nearQ p = decide (-2097152 ≤ p.1 ∧ p.1 ≤ 2097152 ∧ -2097152 ≤ p.2 ∧ p.2 ≤ 2097152) from rfl)
  generalize nearQ p = r at HQ ⊢
  obtain ⟨x, y⟩ := p
  simp only [] at HQ ⊢
  by_cases h1 : -2097152 ≤ x
  case neg =>
    have e1 : decide (-2097152 ≤ x) = false := decide_eq_false h1
    have HE := Lib.hid (show r = false by rw [HQ.out]; exact decide_eq_false (fun h => h1 h.1))
    clear h1
    go_enter Tryz.func76, Tryz.ntmps76
    go_wp2
    go_ret
    exact ⟨by rw [HE.out] <;> rfl, (by repeat' (first | exact Below.refl _ _ | refine Below.drew ?_ | refine Below.drewN' ?_ | refine Below.setCell ?_ (by first | omega | (simp; done) | exact Below.size (by assumption) | (simp; omega)) _ | refine Below.alloc ?_ (by first | omega | (simp; done) | exact Below.size (by assumption) | (simp; omega)) _ | refine Below.trans ?_ (Below.mono (by assumption) ?_) | (first | omega | (simp; done) | exact Below.size (by assumption) | (simp; omega))))⟩
  have e1 : decide (-2097152 ≤ x) = true := decide_eq_true h1
  by_cases h2 : x ≤ 2097152
  case neg =>
    have e2 : decide (x ≤ 2097152) = false := decide_eq_false h2
    have HE := Lib.hid (show r = false by rw [HQ.out]; exact decide_eq_false (fun h => h2 h.2.1))
    clear h2
    go_enter Tryz.func76, Tryz.ntmps76
    go_wp2
    go_ret
    exact ⟨by rw [HE.out] <;> rfl, (by repeat' (first | exact Below.refl _ _ | refine Below.drew ?_ | refine Below.drewN' ?_ | refine Below.setCell ?_ (by first | omega | (simp; done) | exact Below.size (by assumption) | (simp; omega)) _ | refine Below.alloc ?_ (by first | omega | (simp; done) | exact Below.size (by assumption) | (simp; omega)) _ | refine Below.trans ?_ (Below.mono (by assumption) ?_) | (first | omega | (simp; done) | exact Below.size (by assumption) | (simp; omega))))⟩
  have e2 : decide (x ≤ 2097152) = true := decide_eq_true h2
  by_cases h3 : -2097152 ≤ y
  case neg =>
    have e3 : decide (-2097152 ≤ y) = false := decide_eq_false h3
    have HE := Lib.hid (show r = false by rw [HQ.out]; exact decide_eq_false (fun h => h3 h.2.2.1))
    clear h3
    go_enter Tryz.func76, Tryz.ntmps76
    go_wp2
    go_ret
    exact ⟨by rw [HE.out] <;> rfl, (by repeat' (first | exact Below.refl _ _ | refine Below.drew ?_ | refine Below.drewN' ?_ | refine Below.setCell ?_ (by first | omega | (simp; done) | exact Below.size (by assumption) | (simp; omega)) _ | refine Below.alloc ?_ (by first | omega | (simp; done) | exact Below.size (by assumption) | (simp; omega)) _ | refine Below.trans ?_ (Below.mono (by assumption) ?_) | (first | omega | (simp; done) | exact Below.size (by assumption) | (simp; omega))))⟩
  have e3 : decide (-2097152 ≤ y) = true := decide_eq_true h3
  by_cases h4 : y ≤ 2097152
  case neg =>
    have e4 : decide (y ≤ 2097152) = false := decide_eq_false h4
    have HE := Lib.hid (show r = false by rw [HQ.out]; exact decide_eq_false (fun h => h4 h.2.2.2))
    clear h4
    go_enter Tryz.func76, Tryz.ntmps76
    go_wp2
    go_ret
    exact ⟨by rw [HE.out] <;> rfl, (by repeat' (first | exact Below.refl _ _ | refine Below.drew ?_ | refine Below.drewN' ?_ | refine Below.setCell ?_ (by first | omega | (simp; done) | exact Below.size (by assumption) | (simp; omega)) _ | refine Below.alloc ?_ (by first | omega | (simp; done) | exact Below.size (by assumption) | (simp; omega)) _ | refine Below.trans ?_ (Below.mono (by assumption) ?_) | (first | omega | (simp; done) | exact Below.size (by assumption) | (simp; omega))))⟩
  have e4 : decide (y ≤ 2097152) = true := decide_eq_true h4
  have HE := Lib.hid (show r = true by rw [HQ.out]; exact decide_eq_true ⟨h1, h2, h3, h4⟩)
  go_enter Tryz.func76, Tryz.ntmps76
  go_wp2
  go_ret
  exact ⟨by rw [HE.out] <;> rfl, (by repeat' (first | exact Below.refl _ _ | refine Below.drew ?_ | refine Below.drewN' ?_ | refine Below.setCell ?_ (by first | omega | (simp; done) | exact Below.size (by assumption) | (simp; omega)) _ | refine Below.alloc ?_ (by first | omega | (simp; done) | exact Below.size (by assumption) | (simp; omega)) _ | refine Below.trans ?_ (Below.mono (by assumption) ?_) | (first | omega | (simp; done) | exact Below.size (by assumption) | (simp; omega))))⟩

set_option maxHeartbeats 1000000 in
theorem rseg_any (s : Sg) (w : World) :
    Calls Tryz.prog 48 #[sgV s] w fun e w' => e = .returned (.bool (nearS s)) ∧ Below w.heap.size w w' := by
  have I1 := Lib.hid (fun w => ris_any s.1 w)
  have I2 := Lib.hid (fun w => ris_any s.2 w)
  have HQ := Lib.hid (show nearS s = (nearQ s.1 && nearQ s.2) from rfl)
  generalize nearS s = r at HQ ⊢
  generalize nearQ s.1 = q1 at HQ I1
  generalize nearQ s.2 = q2 at HQ I2
  obtain ⟨⟨ax, ay⟩, ⟨bx, by1⟩⟩ := s
  simp only [] at I1 I2 ⊢
  go_enter Tryz.func48, Tryz.ntmps48
  go_wp2_with fail
  have B1 : Below w.heap.size w (w.alloc (.cells #[.int .i64 ax, .int .i64 ay, .int .i64 bx, .int .i64 by1] 39)) := (by repeat' (first | exact Below.refl _ _ | refine Below.drew ?_ | refine Below.drewN' ?_ | refine Below.setCell ?_ (by first | omega | (simp; done) | exact Below.size (by assumption) | (simp; omega)) _ | refine Below.alloc ?_ (by first | omega | (simp; done) | exact Below.size (by assumption) | (simp; omega)) _ | refine Below.trans ?_ (Below.mono (by assumption) ?_) | (first | omega | (simp; done) | exact Below.size (by assumption) | (simp; omega))))
  have H1 := row_new w (.cells #[.int .i64 ax, .int .i64 ay, .int .i64 bx, .int .i64 by1] 39)
  generalize hw1 : w.alloc (.cells #[.int .i64 ax, .int .i64 ay, .int .i64 bx, .int .i64 by1] 39) = w1
  rw [hw1] at B1 H1
  have H1 := Lib.hid H1
  clear hw1
  refine (I1.out _).mono ?_
  rintro e w2 ⟨rfl, hb⟩
  have B2 := below_step B1 (Nat.le_refl _) hb
  replace H1 := Lib.hid (row_later hb H1.out)
  clear hb B1
  have az := lt_of_block H1.out
  have a0 := cell_of_row w2 _ 0 _ _ _ H1.out
  have a1 := cell_of_row w2 _ 1 _ _ _ H1.out
  have a2 := cell_of_row w2 _ 2 _ _ _ H1.out
  have a3 := cell_of_row w2 _ 3 _ _ _ H1.out
  simp only [List.getElem?_toArray, List.getElem?_cons_zero, List.getElem?_cons_succ] at a0 a1 a2 a3
  cases q1 with
  | false =>
    go_wp2
    go_ret
    exact ⟨by rw [HQ.out] <;> rfl, B2⟩
  | true =>
    go_wp2_with fail
    refine (I2.out _).mono ?_
    rintro e w3 ⟨rfl, hb⟩
    have B3 := below_step B2 (Nat.le_refl _) hb
    clear hb B2
    clear a0 a1 a2 a3 az
    go_wp2
    go_ret
    exact ⟨by rw [HQ.out] <;> simp, B3⟩

theorem near_dd {a b : Pt} (ha : nearQ a = true) (hb : nearQ b = true) : (-4194304 ≤ b.1 - a.1 ∧ b.1 - a.1 ≤ 4194304) ∧ (-4194304 ≤ b.2 - a.2 ∧ b.2 - a.2 ≤ 4194304) := by
  have h1 := near_bd ha
  have h2 := near_bd hb
  omega
set_option maxHeartbeats 2000000 in
theorem rcross_any (a b c : Pt) (ha : nearQ a = true) (hb : nearQ b = true) (hc : nearQ c = true) (w : World) :
    Calls Tryz.prog 128 #[ptV a, ptV b, ptV c] w fun e w' => e = .returned (.int .i64 (crs a b c)) ∧ Below w.heap.size w w' := by
  have h1 := near_dd ha hb
  have h2 := near_dd ha hc
  have m1 := mul_bd h1.1 h2.2
  have m2 := mul_bd h1.2 h2.1
  have HC := Lib.hid (show crs a b c = (b.1 - a.1) * (c.2 - a.2) - (b.2 - a.2) * (c.1 - a.1) from rfl)
  generalize crs a b c = r at HC ⊢
  have b1 := near_bd ha
  have b2 := near_bd hb
  have b3 := near_bd hc
  obtain ⟨ax, ay⟩ := a
  obtain ⟨bx, by1⟩ := b
  obtain ⟨cx, cy⟩ := c
  simp only [] at HC h1 h2 m1 m2 b1 b2 b3 ⊢
  have w1 : IntKind.i64.wrap ((bx - ax) * (cy - ay)) = (bx - ax) * (cy - ay) := IntWalk.i64_in _ (by omega)
  have w2 : IntKind.i64.wrap ((by1 - ay) * (cx - ax)) = (by1 - ay) * (cx - ax) := IntWalk.i64_in _ (by omega)
  have w3 : IntKind.i64.wrap ((bx - ax) * (cy - ay) - (by1 - ay) * (cx - ax)) = r := (IntWalk.i64_in _ (by omega)).trans HC.out.symm
  have v1 : IntKind.i64.wrap (bx - ax) = bx - ax := IntWalk.i64_in _ (by omega)
  have v2 : IntKind.i64.wrap (cy - ay) = cy - ay := IntWalk.i64_in _ (by omega)
  have v3 : IntKind.i64.wrap (by1 - ay) = by1 - ay := IntWalk.i64_in _ (by omega)
  have v4 : IntKind.i64.wrap (cx - ax) = cx - ax := IntWalk.i64_in _ (by omega)
  clear ha hb hc h1 h2 m1 m2 b1 b2 b3
  go_enter Tryz.func128, Tryz.ntmps128
  go_wp2
  go_ret
  exact ⟨rfl, (by repeat' (first | exact Below.refl _ _ | refine Below.drew ?_ | refine Below.drewN' ?_ | refine Below.setCell ?_ (by first | omega | (simp; done) | exact Below.size (by assumption) | (simp; omega)) _ | refine Below.alloc ?_ (by first | omega | (simp; done) | exact Below.size (by assumption) | (simp; omega)) _ | refine Below.trans ?_ (Below.mono (by assumption) ?_) | (first | omega | (simp; done) | exact Below.size (by assumption) | (simp; omega))))⟩

theorem rsign_any (n : Int) (w : World) :
    Calls Tryz.prog 129 #[.int .i64 n] w fun e w' => e = .returned (.int .i64 (sgn n)) ∧ w' = w := by
  have HQ := Lib.hid (show sgn n = if n < 0 then -1 else if 0 < n then 1 else 0 from rfl)
  generalize sgn n = r at HQ ⊢
  by_cases h1 : n < 0
  · have e1 : decide (n < 0) = true := decide_eq_true h1
    have HE := Lib.hid (show r = -1 by rw [HQ.out, if_pos h1])
    clear h1
    go_enter Tryz.func129, Tryz.ntmps129
    go_wp2
    go_ret
    exact ⟨by rw [HE.out] <;> rfl, rfl⟩
  have e1 : decide (n < 0) = false := decide_eq_false h1
  by_cases h2 : 0 < n
  · have e2 : decide (0 < n) = true := decide_eq_true h2
    have HE := Lib.hid (show r = 1 by rw [HQ.out, if_neg h1, if_pos h2])
    clear h1 h2
    go_enter Tryz.func129, Tryz.ntmps129
    go_wp2
    go_ret
    exact ⟨by rw [HE.out] <;> rfl, rfl⟩
  · have e2 : decide (0 < n) = false := decide_eq_false h2
    have HE := Lib.hid (show r = 0 by rw [HQ.out, if_neg h1, if_neg h2])
    clear h1 h2
    go_enter Tryz.func129, Tryz.ntmps129
    go_wp2
    go_ret
    exact ⟨by rw [HE.out] <;> rfl, rfl⟩

set_option maxHeartbeats 2000000 in
theorem rorient_any (a b c : Pt) (ha : nearQ a = true) (hb : nearQ b = true) (hc : nearQ c = true) (w : World) :
    Calls Tryz.prog 79 #[ptV a, ptV b, ptV c] w fun e w' => e = .returned (.int .i64 (sgn (crs a b c))) ∧ Below w.heap.size w w' := by
  have I1 := Lib.hid (fun w => ris_any a w)
  have I2 := Lib.hid (fun w => ris_any b w)
  have I3 := Lib.hid (fun w => ris_any c w)
  have CR := Lib.hid (fun w => rcross_any a b c ha hb hc w)
  have SG := Lib.hid (fun w => rsign_any (crs a b c) w)
  rw [ha] at I1
  rw [hb] at I2
  rw [hc] at I3
  clear ha hb hc
  generalize sgn (crs a b c) = r at SG ⊢
  generalize crs a b c = n at SG CR
  obtain ⟨ax, ay⟩ := a
  obtain ⟨bx, by1⟩ := b
  obtain ⟨cx, cy⟩ := c
  go_enter Tryz.func79, Tryz.ntmps79
  go_wp2_with fail
  have B1 : Below w.heap.size w (((w.alloc (.cells #[.int .i64 ax, .int .i64 ay] 37)).alloc (.cells #[.int .i64 bx, .int .i64 by1] 37)).alloc (.cells #[.int .i64 cx, .int .i64 cy] 37)) := (by repeat' (first | exact Below.refl _ _ | refine Below.drew ?_ | refine Below.drewN' ?_ | refine Below.setCell ?_ (by first | omega | (simp; done) | exact Below.size (by assumption) | (simp; omega)) _ | refine Below.alloc ?_ (by first | omega | (simp; done) | exact Below.size (by assumption) | (simp; omega)) _ | refine Below.trans ?_ (Below.mono (by assumption) ?_) | (first | omega | (simp; done) | exact Below.size (by assumption) | (simp; omega))))
  have H1 := row_past (o' := .cells #[.int .i64 cx, .int .i64 cy] 37) (row_past (o' := .cells #[.int .i64 bx, .int .i64 by1] 37) (row_new w (.cells #[.int .i64 ax, .int .i64 ay] 37)))
  have H2 := row_past (o' := .cells #[.int .i64 cx, .int .i64 cy] 37) (row_new1 w (.cells #[.int .i64 ax, .int .i64 ay] 37) (.cells #[.int .i64 bx, .int .i64 by1] 37))
  have H3 := row_new2 w (.cells #[.int .i64 ax, .int .i64 ay] 37) (.cells #[.int .i64 bx, .int .i64 by1] 37) (.cells #[.int .i64 cx, .int .i64 cy] 37)
  generalize hw1 : ((w.alloc (.cells #[.int .i64 ax, .int .i64 ay] 37)).alloc (.cells #[.int .i64 bx, .int .i64 by1] 37)).alloc (.cells #[.int .i64 cx, .int .i64 cy] 37) = w1
  rw [hw1] at B1 H1 H2 H3
  have H1 := Lib.hid H1
  have H2 := Lib.hid H2
  have H3 := Lib.hid H3
  clear hw1
  refine (I1.out _).mono ?_
  rintro e w2 ⟨rfl, hb⟩
  have B2 := below_step B1 (Nat.le_refl _) hb
  replace H1 := Lib.hid (row_later hb H1.out)
  replace H2 := Lib.hid (row_later hb H2.out)
  replace H3 := Lib.hid (row_later hb H3.out)
  clear hb B1
  have bz := lt_of_block H2.out
  have b0 := cell_of_row w2 _ 0 _ _ _ H2.out
  have b1 := cell_of_row w2 _ 1 _ _ _ H2.out
  simp only [List.getElem?_toArray, List.getElem?_cons_zero, List.getElem?_cons_succ] at b0 b1
  go_wp2_with fail
  refine (I2.out _).mono ?_
  rintro e w3 ⟨rfl, hb⟩
  have B3 := below_step B2 (Nat.le_refl _) hb
  clear b0 b1 bz
  replace H1 := Lib.hid (row_later hb H1.out)
  replace H2 := Lib.hid (row_later hb H2.out)
  replace H3 := Lib.hid (row_later hb H3.out)
  clear hb B2
  have cz := lt_of_block H3.out
  have c0 := cell_of_row w3 _ 0 _ _ _ H3.out
  have c1 := cell_of_row w3 _ 1 _ _ _ H3.out
  simp only [List.getElem?_toArray, List.getElem?_cons_zero, List.getElem?_cons_succ] at c0 c1
  go_wp2_with fail
  refine (I3.out _).mono ?_
  rintro e w4 ⟨rfl, hb⟩
  have B4 := below_step B3 (Nat.le_refl _) hb
  clear c0 c1 cz
  replace H1 := Lib.hid (row_later hb H1.out)
  replace H2 := Lib.hid (row_later hb H2.out)
  replace H3 := Lib.hid (row_later hb H3.out)
  clear hb B3
  have az := lt_of_block H1.out
  have a0 := cell_of_row w4 _ 0 _ _ _ H1.out
  have a1 := cell_of_row w4 _ 1 _ _ _ H1.out
  simp only [List.getElem?_toArray, List.getElem?_cons_zero, List.getElem?_cons_succ] at a0 a1
  have bz := lt_of_block H2.out
  have b0 := cell_of_row w4 _ 0 _ _ _ H2.out
  have b1 := cell_of_row w4 _ 1 _ _ _ H2.out
  simp only [List.getElem?_toArray, List.getElem?_cons_zero, List.getElem?_cons_succ] at b0 b1
  have cz := lt_of_block H3.out
  have c0 := cell_of_row w4 _ 0 _ _ _ H3.out
  have c1 := cell_of_row w4 _ 1 _ _ _ H3.out
  simp only [List.getElem?_toArray, List.getElem?_cons_zero, List.getElem?_cons_succ] at c0 c1
  go_wp2_with fail
  refine (CR.out _).mono ?_
  rintro e w5 ⟨rfl, hb⟩
  have B5 := below_step B4 (Nat.le_refl _) hb
  clear hb B4
  go_wp2_with fail
  refine (SG.out _).mono ?_
  rintro e w6 ⟨rfl, rfl⟩
  go_wp2
  go_ret
  exact ⟨rfl, B5⟩

theorem rend_any (s : Sg) (p : Pt) (w : World) :
    Calls Tryz.prog 78 #[sgV s, ptV p] w fun e w' => e = .returned (.bool (endR s p)) ∧ Below w.heap.size w w' := by
  have eq1 := eql_point p s.1
  have eq2 := eql_point p s.2
  have eqg := eg37
  have HQ := Lib.hid (show endR s p = (decide (p = s.1) || decide (p = s.2)) by unfold endR; simp)
  generalize endR s p = r at HQ ⊢
  generalize decide (p = s.1) = d1 at HQ eq1
  generalize decide (p = s.2) = d2 at HQ eq2
  obtain ⟨⟨ax, ay⟩, ⟨bx, by1⟩⟩ := s
  obtain ⟨px, py⟩ := p
  simp only [] at eq1 eq2 ⊢
  cases d1 with
  | true =>
    have HE := Lib.hid (show r = true from HQ.out)
    go_enter Tryz.func78, Tryz.ntmps78
    go_wp2
    go_ret
    exact ⟨by rw [HE.out] <;> rfl, (by repeat' (first | exact Below.refl _ _ | refine Below.drew ?_ | refine Below.drewN' ?_ | refine Below.setCell ?_ (by first | omega | (simp; done) | exact Below.size (by assumption) | (simp; omega)) _ | refine Below.alloc ?_ (by first | omega | (simp; done) | exact Below.size (by assumption) | (simp; omega)) _ | refine Below.trans ?_ (Below.mono (by assumption) ?_) | (first | omega | (simp; done) | exact Below.size (by assumption) | (simp; omega))))⟩
  | false =>
    have HE := Lib.hid (show r = d2 from HQ.out)
    go_enter Tryz.func78, Tryz.ntmps78
    go_wp2
    go_ret
    exact ⟨by rw [HE.out] <;> rfl, (by repeat' (first | exact Below.refl _ _ | refine Below.drew ?_ | refine Below.drewN' ?_ | refine Below.setCell ?_ (by first | omega | (simp; done) | exact Below.size (by assumption) | (simp; omega)) _ | refine Below.alloc ?_ (by first | omega | (simp; done) | exact Below.size (by assumption) | (simp; omega)) _ | refine Below.trans ?_ (Below.mono (by assumption) ?_) | (first | omega | (simp; done) | exact Below.size (by assumption) | (simp; omega))))⟩

set_option maxRecDepth 100000 in
set_option maxHeartbeats 4000000 in
theorem rgon_any (s : Sg) (p : Pt) (hs : nearS s = true) (hp : nearQ p = true) (w : World) :
    Calls Tryz.prog 77 #[sgV s, ptV p] w fun e w' => e = .returned (.bool (onR s p)) ∧ Below w.heap.size w w' := by
  have hs1 : nearQ s.1 = true := by unfold nearS at hs; rw [Bool.and_eq_true] at hs; exact hs.1
  have hs2 : nearQ s.2 = true := by unfold nearS at hs; rw [Bool.and_eq_true] at hs; exact hs.2
  have IS := Lib.hid (fun w => rseg_any s w)
  have IP := Lib.hid (fun w => ris_any p w)
  have CR := Lib.hid (fun w => rcross_any s.1 s.2 p hs1 hs2 hp w)
  rw [hs] at IS
  rw [hp] at IP
  have HQ := Lib.hid (show onR s p = (decide (min s.1.1 s.2.1 ≤ p.1 ∧ p.1 ≤ max s.1.1 s.2.1 ∧ min s.1.2 s.2.2 ≤ p.2 ∧ p.2 ≤ max s.1.2 s.2.2) && decide (crs s.1 s.2 p = 0)) from rfl)
  generalize onR s p = r at HQ ⊢
  generalize crs s.1 s.2 p = n at HQ CR
  clear hs hp hs1 hs2
  obtain ⟨⟨ax, ay⟩, ⟨bx, by1⟩⟩ := s
  obtain ⟨px, py⟩ := p
  simp only [] at IS IP CR HQ ⊢
  by_cases h1 : min ax bx ≤ px
  case neg =>
    have e1 : decide (min ax bx ≤ px) = false := decide_eq_false h1
    have HE := Lib.hid (show r = false by rw [HQ.out, decide_eq_false (fun h => h1 h.1)]; rfl)
    clear h1
    go_enter Tryz.func77, Tryz.ntmps77
    go_wp2_with fail
    have B1 : Below w.heap.size w ((w.alloc (.cells #[.int .i64 ax, .int .i64 ay, .int .i64 bx, .int .i64 by1] 39)).alloc (.cells #[.int .i64 px, .int .i64 py] 37)) := (by repeat' (first | exact Below.refl _ _ | refine Below.drew ?_ | refine Below.drewN' ?_ | refine Below.setCell ?_ (by first | omega | (simp; done) | exact Below.size (by assumption) | (simp; omega)) _ | refine Below.alloc ?_ (by first | omega | (simp; done) | exact Below.size (by assumption) | (simp; omega)) _ | refine Below.trans ?_ (Below.mono (by assumption) ?_) | (first | omega | (simp; done) | exact Below.size (by assumption) | (simp; omega))))
    have H1 := row_past (o' := .cells #[.int .i64 px, .int .i64 py] 37) (row_new w (.cells #[.int .i64 ax, .int .i64 ay, .int .i64 bx, .int .i64 by1] 39))
    have H2 := row_new1 w (.cells #[.int .i64 ax, .int .i64 ay, .int .i64 bx, .int .i64 by1] 39) (.cells #[.int .i64 px, .int .i64 py] 37)
    generalize hw1 : (w.alloc (.cells #[.int .i64 ax, .int .i64 ay, .int .i64 bx, .int .i64 by1] 39)).alloc (.cells #[.int .i64 px, .int .i64 py] 37) = w1
    rw [hw1] at B1 H1 H2
    have H1 := Lib.hid H1
    have H2 := Lib.hid H2
    clear hw1
    refine (IS.out _).mono ?_
    rintro e w2 ⟨rfl, hb⟩
    have B2 := below_step B1 (Nat.le_refl _) hb
    replace H1 := Lib.hid (row_later hb H1.out)
    replace H2 := Lib.hid (row_later hb H2.out)
    clear hb B1
    have bz := lt_of_block H2.out
    have b0 := cell_of_row w2 _ 0 _ _ _ H2.out
    have b1 := cell_of_row w2 _ 1 _ _ _ H2.out
    simp only [List.getElem?_toArray, List.getElem?_cons_zero, List.getElem?_cons_succ] at b0 b1
    go_wp2_with fail
    refine (IP.out _).mono ?_
    rintro e w3 ⟨rfl, hb⟩
    have B3 := below_step B2 (Nat.le_refl _) hb
    clear b0 b1 bz
    replace H1 := Lib.hid (row_later hb H1.out)
    replace H2 := Lib.hid (row_later hb H2.out)
    clear hb B2
    have az := lt_of_block H1.out
    have a0 := cell_of_row w3 _ 0 _ _ _ H1.out
    have a1 := cell_of_row w3 _ 1 _ _ _ H1.out
    have a2 := cell_of_row w3 _ 2 _ _ _ H1.out
    have a3 := cell_of_row w3 _ 3 _ _ _ H1.out
    simp only [List.getElem?_toArray, List.getElem?_cons_zero, List.getElem?_cons_succ] at a0 a1 a2 a3
    have bz := lt_of_block H2.out
    have b0 := cell_of_row w3 _ 0 _ _ _ H2.out
    have b1 := cell_of_row w3 _ 1 _ _ _ H2.out
    simp only [List.getElem?_toArray, List.getElem?_cons_zero, List.getElem?_cons_succ] at b0 b1
    go_wp2_with fail
    go_wp2
    go_ret
    exact ⟨by rw [HE.out] <;> rfl, B3⟩
  have e1 : decide (min ax bx ≤ px) = true := decide_eq_true h1
  by_cases h2 : px ≤ max ax bx
  case neg =>
    have e2 : decide (px ≤ max ax bx) = false := decide_eq_false h2
    have HE := Lib.hid (show r = false by rw [HQ.out, decide_eq_false (fun h => h2 h.2.1)]; rfl)
    clear h1 h2
    go_enter Tryz.func77, Tryz.ntmps77
    go_wp2_with fail
    have B1 : Below w.heap.size w ((w.alloc (.cells #[.int .i64 ax, .int .i64 ay, .int .i64 bx, .int .i64 by1] 39)).alloc (.cells #[.int .i64 px, .int .i64 py] 37)) := (by repeat' (first | exact Below.refl _ _ | refine Below.drew ?_ | refine Below.drewN' ?_ | refine Below.setCell ?_ (by first | omega | (simp; done) | exact Below.size (by assumption) | (simp; omega)) _ | refine Below.alloc ?_ (by first | omega | (simp; done) | exact Below.size (by assumption) | (simp; omega)) _ | refine Below.trans ?_ (Below.mono (by assumption) ?_) | (first | omega | (simp; done) | exact Below.size (by assumption) | (simp; omega))))
    have H1 := row_past (o' := .cells #[.int .i64 px, .int .i64 py] 37) (row_new w (.cells #[.int .i64 ax, .int .i64 ay, .int .i64 bx, .int .i64 by1] 39))
    have H2 := row_new1 w (.cells #[.int .i64 ax, .int .i64 ay, .int .i64 bx, .int .i64 by1] 39) (.cells #[.int .i64 px, .int .i64 py] 37)
    generalize hw1 : (w.alloc (.cells #[.int .i64 ax, .int .i64 ay, .int .i64 bx, .int .i64 by1] 39)).alloc (.cells #[.int .i64 px, .int .i64 py] 37) = w1
    rw [hw1] at B1 H1 H2
    have H1 := Lib.hid H1
    have H2 := Lib.hid H2
    clear hw1
    refine (IS.out _).mono ?_
    rintro e w2 ⟨rfl, hb⟩
    have B2 := below_step B1 (Nat.le_refl _) hb
    replace H1 := Lib.hid (row_later hb H1.out)
    replace H2 := Lib.hid (row_later hb H2.out)
    clear hb B1
    have bz := lt_of_block H2.out
    have b0 := cell_of_row w2 _ 0 _ _ _ H2.out
    have b1 := cell_of_row w2 _ 1 _ _ _ H2.out
    simp only [List.getElem?_toArray, List.getElem?_cons_zero, List.getElem?_cons_succ] at b0 b1
    go_wp2_with fail
    refine (IP.out _).mono ?_
    rintro e w3 ⟨rfl, hb⟩
    have B3 := below_step B2 (Nat.le_refl _) hb
    clear b0 b1 bz
    replace H1 := Lib.hid (row_later hb H1.out)
    replace H2 := Lib.hid (row_later hb H2.out)
    clear hb B2
    have az := lt_of_block H1.out
    have a0 := cell_of_row w3 _ 0 _ _ _ H1.out
    have a1 := cell_of_row w3 _ 1 _ _ _ H1.out
    have a2 := cell_of_row w3 _ 2 _ _ _ H1.out
    have a3 := cell_of_row w3 _ 3 _ _ _ H1.out
    simp only [List.getElem?_toArray, List.getElem?_cons_zero, List.getElem?_cons_succ] at a0 a1 a2 a3
    have bz := lt_of_block H2.out
    have b0 := cell_of_row w3 _ 0 _ _ _ H2.out
    have b1 := cell_of_row w3 _ 1 _ _ _ H2.out
    simp only [List.getElem?_toArray, List.getElem?_cons_zero, List.getElem?_cons_succ] at b0 b1
    go_wp2_with fail
    go_wp2
    go_ret
    exact ⟨by rw [HE.out] <;> rfl, B3⟩
  have e2 : decide (px ≤ max ax bx) = true := decide_eq_true h2
  by_cases h3 : min ay by1 ≤ py
  case neg =>
    have e3 : decide (min ay by1 ≤ py) = false := decide_eq_false h3
    have HE := Lib.hid (show r = false by rw [HQ.out, decide_eq_false (fun h => h3 h.2.2.1)]; rfl)
    clear h1 h2 h3
    go_enter Tryz.func77, Tryz.ntmps77
    go_wp2_with fail
    have B1 : Below w.heap.size w ((w.alloc (.cells #[.int .i64 ax, .int .i64 ay, .int .i64 bx, .int .i64 by1] 39)).alloc (.cells #[.int .i64 px, .int .i64 py] 37)) := (by repeat' (first | exact Below.refl _ _ | refine Below.drew ?_ | refine Below.drewN' ?_ | refine Below.setCell ?_ (by first | omega | (simp; done) | exact Below.size (by assumption) | (simp; omega)) _ | refine Below.alloc ?_ (by first | omega | (simp; done) | exact Below.size (by assumption) | (simp; omega)) _ | refine Below.trans ?_ (Below.mono (by assumption) ?_) | (first | omega | (simp; done) | exact Below.size (by assumption) | (simp; omega))))
    have H1 := row_past (o' := .cells #[.int .i64 px, .int .i64 py] 37) (row_new w (.cells #[.int .i64 ax, .int .i64 ay, .int .i64 bx, .int .i64 by1] 39))
    have H2 := row_new1 w (.cells #[.int .i64 ax, .int .i64 ay, .int .i64 bx, .int .i64 by1] 39) (.cells #[.int .i64 px, .int .i64 py] 37)
    generalize hw1 : (w.alloc (.cells #[.int .i64 ax, .int .i64 ay, .int .i64 bx, .int .i64 by1] 39)).alloc (.cells #[.int .i64 px, .int .i64 py] 37) = w1
    rw [hw1] at B1 H1 H2
    have H1 := Lib.hid H1
    have H2 := Lib.hid H2
    clear hw1
    refine (IS.out _).mono ?_
    rintro e w2 ⟨rfl, hb⟩
    have B2 := below_step B1 (Nat.le_refl _) hb
    replace H1 := Lib.hid (row_later hb H1.out)
    replace H2 := Lib.hid (row_later hb H2.out)
    clear hb B1
    have bz := lt_of_block H2.out
    have b0 := cell_of_row w2 _ 0 _ _ _ H2.out
    have b1 := cell_of_row w2 _ 1 _ _ _ H2.out
    simp only [List.getElem?_toArray, List.getElem?_cons_zero, List.getElem?_cons_succ] at b0 b1
    go_wp2_with fail
    refine (IP.out _).mono ?_
    rintro e w3 ⟨rfl, hb⟩
    have B3 := below_step B2 (Nat.le_refl _) hb
    clear b0 b1 bz
    replace H1 := Lib.hid (row_later hb H1.out)
    replace H2 := Lib.hid (row_later hb H2.out)
    clear hb B2
    have az := lt_of_block H1.out
    have a0 := cell_of_row w3 _ 0 _ _ _ H1.out
    have a1 := cell_of_row w3 _ 1 _ _ _ H1.out
    have a2 := cell_of_row w3 _ 2 _ _ _ H1.out
    have a3 := cell_of_row w3 _ 3 _ _ _ H1.out
    simp only [List.getElem?_toArray, List.getElem?_cons_zero, List.getElem?_cons_succ] at a0 a1 a2 a3
    have bz := lt_of_block H2.out
    have b0 := cell_of_row w3 _ 0 _ _ _ H2.out
    have b1 := cell_of_row w3 _ 1 _ _ _ H2.out
    simp only [List.getElem?_toArray, List.getElem?_cons_zero, List.getElem?_cons_succ] at b0 b1
    go_wp2_with fail
    go_wp2
    go_ret
    exact ⟨by rw [HE.out] <;> rfl, B3⟩
  have e3 : decide (min ay by1 ≤ py) = true := decide_eq_true h3
  by_cases h4 : py ≤ max ay by1
  case neg =>
    have e4 : decide (py ≤ max ay by1) = false := decide_eq_false h4
    have HE := Lib.hid (show r = false by rw [HQ.out, decide_eq_false (fun h => h4 h.2.2.2)]; rfl)
    clear h1 h2 h3 h4
    go_enter Tryz.func77, Tryz.ntmps77
    go_wp2_with fail
    have B1 : Below w.heap.size w ((w.alloc (.cells #[.int .i64 ax, .int .i64 ay, .int .i64 bx, .int .i64 by1] 39)).alloc (.cells #[.int .i64 px, .int .i64 py] 37)) := (by repeat' (first | exact Below.refl _ _ | refine Below.drew ?_ | refine Below.drewN' ?_ | refine Below.setCell ?_ (by first | omega | (simp; done) | exact Below.size (by assumption) | (simp; omega)) _ | refine Below.alloc ?_ (by first | omega | (simp; done) | exact Below.size (by assumption) | (simp; omega)) _ | refine Below.trans ?_ (Below.mono (by assumption) ?_) | (first | omega | (simp; done) | exact Below.size (by assumption) | (simp; omega))))
    have H1 := row_past (o' := .cells #[.int .i64 px, .int .i64 py] 37) (row_new w (.cells #[.int .i64 ax, .int .i64 ay, .int .i64 bx, .int .i64 by1] 39))
    have H2 := row_new1 w (.cells #[.int .i64 ax, .int .i64 ay, .int .i64 bx, .int .i64 by1] 39) (.cells #[.int .i64 px, .int .i64 py] 37)
    generalize hw1 : (w.alloc (.cells #[.int .i64 ax, .int .i64 ay, .int .i64 bx, .int .i64 by1] 39)).alloc (.cells #[.int .i64 px, .int .i64 py] 37) = w1
    rw [hw1] at B1 H1 H2
    have H1 := Lib.hid H1
    have H2 := Lib.hid H2
    clear hw1
    refine (IS.out _).mono ?_
    rintro e w2 ⟨rfl, hb⟩
    have B2 := below_step B1 (Nat.le_refl _) hb
    replace H1 := Lib.hid (row_later hb H1.out)
    replace H2 := Lib.hid (row_later hb H2.out)
    clear hb B1
    have bz := lt_of_block H2.out
    have b0 := cell_of_row w2 _ 0 _ _ _ H2.out
    have b1 := cell_of_row w2 _ 1 _ _ _ H2.out
    simp only [List.getElem?_toArray, List.getElem?_cons_zero, List.getElem?_cons_succ] at b0 b1
    go_wp2_with fail
    refine (IP.out _).mono ?_
    rintro e w3 ⟨rfl, hb⟩
    have B3 := below_step B2 (Nat.le_refl _) hb
    clear b0 b1 bz
    replace H1 := Lib.hid (row_later hb H1.out)
    replace H2 := Lib.hid (row_later hb H2.out)
    clear hb B2
    have az := lt_of_block H1.out
    have a0 := cell_of_row w3 _ 0 _ _ _ H1.out
    have a1 := cell_of_row w3 _ 1 _ _ _ H1.out
    have a2 := cell_of_row w3 _ 2 _ _ _ H1.out
    have a3 := cell_of_row w3 _ 3 _ _ _ H1.out
    simp only [List.getElem?_toArray, List.getElem?_cons_zero, List.getElem?_cons_succ] at a0 a1 a2 a3
    have bz := lt_of_block H2.out
    have b0 := cell_of_row w3 _ 0 _ _ _ H2.out
    have b1 := cell_of_row w3 _ 1 _ _ _ H2.out
    simp only [List.getElem?_toArray, List.getElem?_cons_zero, List.getElem?_cons_succ] at b0 b1
    go_wp2_with fail
    go_wp2
    go_ret
    exact ⟨by rw [HE.out] <;> rfl, B3⟩
  have e4 : decide (py ≤ max ay by1) = true := decide_eq_true h4
  have HE := Lib.hid (show r = (n == 0) by rw [HQ.out, decide_eq_true ⟨h1, h2, h3, h4⟩, Bool.true_and, Bool.eq_iff_iff, decide_eq_true_eq, beq_iff_eq])
  clear h1 h2 h3 h4
  go_enter Tryz.func77, Tryz.ntmps77
  go_wp2_with fail
  have B1 : Below w.heap.size w ((w.alloc (.cells #[.int .i64 ax, .int .i64 ay, .int .i64 bx, .int .i64 by1] 39)).alloc (.cells #[.int .i64 px, .int .i64 py] 37)) := (by repeat' (first | exact Below.refl _ _ | refine Below.drew ?_ | refine Below.drewN' ?_ | refine Below.setCell ?_ (by first | omega | (simp; done) | exact Below.size (by assumption) | (simp; omega)) _ | refine Below.alloc ?_ (by first | omega | (simp; done) | exact Below.size (by assumption) | (simp; omega)) _ | refine Below.trans ?_ (Below.mono (by assumption) ?_) | (first | omega | (simp; done) | exact Below.size (by assumption) | (simp; omega))))
  have H1 := row_past (o' := .cells #[.int .i64 px, .int .i64 py] 37) (row_new w (.cells #[.int .i64 ax, .int .i64 ay, .int .i64 bx, .int .i64 by1] 39))
  have H2 := row_new1 w (.cells #[.int .i64 ax, .int .i64 ay, .int .i64 bx, .int .i64 by1] 39) (.cells #[.int .i64 px, .int .i64 py] 37)
  generalize hw1 : (w.alloc (.cells #[.int .i64 ax, .int .i64 ay, .int .i64 bx, .int .i64 by1] 39)).alloc (.cells #[.int .i64 px, .int .i64 py] 37) = w1
  rw [hw1] at B1 H1 H2
  have H1 := Lib.hid H1
  have H2 := Lib.hid H2
  clear hw1
  refine (IS.out _).mono ?_
  rintro e w2 ⟨rfl, hb⟩
  have B2 := below_step B1 (Nat.le_refl _) hb
  replace H1 := Lib.hid (row_later hb H1.out)
  replace H2 := Lib.hid (row_later hb H2.out)
  clear hb B1
  have bz := lt_of_block H2.out
  have b0 := cell_of_row w2 _ 0 _ _ _ H2.out
  have b1 := cell_of_row w2 _ 1 _ _ _ H2.out
  simp only [List.getElem?_toArray, List.getElem?_cons_zero, List.getElem?_cons_succ] at b0 b1
  go_wp2_with fail
  refine (IP.out _).mono ?_
  rintro e w3 ⟨rfl, hb⟩
  have B3 := below_step B2 (Nat.le_refl _) hb
  clear b0 b1 bz
  replace H1 := Lib.hid (row_later hb H1.out)
  replace H2 := Lib.hid (row_later hb H2.out)
  clear hb B2
  have az := lt_of_block H1.out
  have a0 := cell_of_row w3 _ 0 _ _ _ H1.out
  have a1 := cell_of_row w3 _ 1 _ _ _ H1.out
  have a2 := cell_of_row w3 _ 2 _ _ _ H1.out
  have a3 := cell_of_row w3 _ 3 _ _ _ H1.out
  simp only [List.getElem?_toArray, List.getElem?_cons_zero, List.getElem?_cons_succ] at a0 a1 a2 a3
  have bz := lt_of_block H2.out
  have b0 := cell_of_row w3 _ 0 _ _ _ H2.out
  have b1 := cell_of_row w3 _ 1 _ _ _ H2.out
  simp only [List.getElem?_toArray, List.getElem?_cons_zero, List.getElem?_cons_succ] at b0 b1
  go_wp2_with fail
  refine (CR.out _).mono ?_
  rintro e w4 ⟨rfl, hb⟩
  have B4 := below_step B3 (Nat.le_refl _) hb
  clear hb B3
  go_wp2
  go_ret
  exact ⟨by rw [HE.out] <;> rfl, B4⟩
end Go.Proofs.YtbkomdinchiffaaGreat
