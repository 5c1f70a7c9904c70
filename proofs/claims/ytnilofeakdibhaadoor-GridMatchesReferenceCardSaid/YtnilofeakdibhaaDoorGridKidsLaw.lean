/- GridKids: the walk. -/
import Derived.Test.YtnilofeakdibhaaDoorGridKids
namespace Go.Proofs.YtnilofeakdibhaaDoor
open Go.RowKit

theorem valid_pow {x y : Int} (k : Nat) (hv : validB k x y = true) : (0 ≤ x ∧ x < 2 ^ k) ∧ (0 ≤ y ∧ y < 2 ^ k) := by
  simp only [validB, decide_eq_true_eq, Int.toNat_natCast] at hv
  omega
theorem valid_of_pow {x y : Int} (k : Nat) (hk : k ≤ 17) (hx : 0 ≤ x ∧ x < 2 ^ k) (hy : 0 ≤ y ∧ y < 2 ^ k) : validB k x y = true := by
  simp only [validB, Int.toNat_natCast]
  rw [decide_eq_true_eq]
  omega

set_option maxRecDepth 100000 in
set_option maxHeartbeats 1000000 in
theorem kidsLaw_bad (z x y px py : Int) (hv : validB z x y = false) (w : World) (he : Env w) :
    Calls Tryd.prog 7 #[.agg #[.int .i64 z, .int .i64 x, .int .i64 y], .agg #[.int .i64 px, .int .i64 py]] w fun e w' => e = .returned (.bool true) ∧ Below w.heap.size w w' := by
  have HE := Lib.hid he
  have LV := Lib.hid hv
  clear hv he
  go_enter Tryd.func7, Tryd.ntmps7
  go_wp2_with fail
  refine (head_true _ (HE.out.later (by repeat' (first | exact Below.refl _ _ | refine Below.drew ?_ | refine Below.drewN' ?_ | refine Below.setCell ?_ (by first | omega | (simp; done) | exact Below.size (by assumption) | (simp; omega)) _ | refine Below.alloc ?_ (by first | omega | (simp; done) | exact Below.size (by assumption) | (simp; omega)) _ | refine Below.trans ?_ (Below.mono (by assumption) ?_) | (first | omega | (simp; done) | exact Below.size (by assumption) | (simp; omega)))))).mono ?_; rintro e w1 ⟨rfl, hb1⟩
  have B1 : Below w.heap.size w w1 := below_step (((Below.refl _ _).alloc (Nat.le_refl _) _).alloc (by simp) _) (Nat.le_refl _) hb1
  have S1 := hb1.size; simp at S1
  have HT := row_later hb1 (row_past (row_new w _))
  clear hb1
  have tz := lt_of_block HT
  have t0 := cell_of_row w1 _ 0 _ _ _ HT
  have t1 := cell_of_row w1 _ 1 _ _ _ HT
  have t2 := cell_of_row w1 _ 2 _ _ _ HT
  simp only [List.getElem?_toArray, List.getElem?_cons_zero, List.getElem?_cons_succ] at t0 t1 t2
  have HT' := Lib.hid HT
  clear HT
  go_wp2_with fail
  refine (box_arg _ _ _ LV.out _).mono ?_; rintro e w2 ⟨rfl, hb2⟩
  have B2 := below_step B1 (Nat.le_refl _) hb2
  clear hb2 B1 t0 t1 t2
  go_wp2
  go_ret
  refine ⟨rfl, ?_⟩
  repeat' (first | exact Below.refl _ _ | refine Below.drew ?_ | refine Below.drewN' ?_ | refine Below.setCell ?_ (by first | omega | (simp; done) | exact Below.size (by assumption) | (simp; omega)) _ | refine Below.alloc ?_ (by first | omega | (simp; done) | exact Below.size (by assumption) | (simp; omega)) _ | refine Below.trans ?_ (Below.mono (by assumption) ?_) | (first | omega | (simp; done) | exact Below.size (by assumption) | (simp; omega)))


set_option maxRecDepth 100000 in
set_option maxHeartbeats 1000000 in
theorem kidsLaw_top (x y px py : Int) (hv : validB 17 x y = true) (w : World) (he : Env w) :
    Calls Tryd.prog 7 #[.agg #[.int .i64 17, .int .i64 x, .int .i64 y], .agg #[.int .i64 px, .int .i64 py]] w fun e w' => e = .returned (.bool true) ∧ Below w.heap.size w w' := by
  have HE := Lib.hid he
  have hbd := valid_pow 17 hv
  have HBX := Lib.hid (fun w => box_ok x y 17 (by decide) hbd.1 hbd.2 w)
  have LV := Lib.hid hv
  clear hv he hbd
  go_enter Tryd.func7, Tryd.ntmps7
  go_wp2_with fail
  refine (head_true _ (HE.out.later (by repeat' (first | exact Below.refl _ _ | refine Below.drew ?_ | refine Below.drewN' ?_ | refine Below.setCell ?_ (by first | omega | (simp; done) | exact Below.size (by assumption) | (simp; omega)) _ | refine Below.alloc ?_ (by first | omega | (simp; done) | exact Below.size (by assumption) | (simp; omega)) _ | refine Below.trans ?_ (Below.mono (by assumption) ?_) | (first | omega | (simp; done) | exact Below.size (by assumption) | (simp; omega)))))).mono ?_; rintro e w1 ⟨rfl, hb1⟩
  have B1 : Below w.heap.size w w1 := below_step (((Below.refl _ _).alloc (Nat.le_refl _) _).alloc (by simp) _) (Nat.le_refl _) hb1
  have S1 := hb1.size; simp at S1
  have GT := Lib.hid (row_later hb1 (row_past (row_new w _)))
  have GP := Lib.hid (row_later hb1 (row_new1 w _ _))
  clear hb1
  have HT := GT.out
  have tz := lt_of_block HT
  have t0 := cell_of_row w1 _ 0 _ _ _ HT
  have t1 := cell_of_row w1 _ 1 _ _ _ HT
  have t2 := cell_of_row w1 _ 2 _ _ _ HT
  simp only [List.getElem?_toArray, List.getElem?_cons_zero, List.getElem?_cons_succ] at t0 t1 t2
  have HT' := Lib.hid HT
  clear HT
  clear HT'
  go_wp2_with fail
  refine (HBX.out _).mono ?_; rintro e w2 ⟨rfl, hb2⟩
  have B2 := below_step B1 (Nat.le_refl _) hb2
  have S2 := hb2.size
  have GT := Lib.hid (row_later hb2 GT.out)
  have GP := Lib.hid (row_later hb2 GP.out)
  clear hb2 B1 t0 t1 t2 tz
  have HT := GT.out
  have tz := lt_of_block HT
  have t0 := cell_of_row w2 _ 0 _ _ _ HT
  have t1 := cell_of_row w2 _ 1 _ _ _ HT
  have t2 := cell_of_row w2 _ 2 _ _ _ HT
  simp only [List.getElem?_toArray, List.getElem?_cons_zero, List.getElem?_cons_succ] at t0 t1 t2
  have HT' := Lib.hid HT
  clear HT
  clear HT'
  go_wp2_with fail
  refine (kids_none _ _ LV.out _).mono ?_; rintro e w3 ⟨rfl, hb3⟩
  have B3 := below_step (B2.alloc B2.size _) (Nat.le_refl _) hb3
  have HT := row_later hb3 (row_past GT.out)
  clear hb3 t0 t1 t2 tz
  have tz := lt_of_block HT
  have t0 := cell_of_row w3 _ 0 _ _ _ HT
  have t1 := cell_of_row w3 _ 1 _ _ _ HT
  have t2 := cell_of_row w3 _ 2 _ _ _ HT
  simp only [List.getElem?_toArray, List.getElem?_cons_zero, List.getElem?_cons_succ] at t0 t1 t2
  have HT' := Lib.hid HT
  clear HT
  go_wp2
  go_ret
  refine ⟨rfl, ?_⟩
  repeat' (first | exact Below.refl _ _ | refine Below.drew ?_ | refine Below.drewN' ?_ | refine Below.setCell ?_ (by first | omega | (simp; done) | exact Below.size (by assumption) | (simp; omega)) _ | refine Below.alloc ?_ (by first | omega | (simp; done) | exact Below.size (by assumption) | (simp; omega)) _ | refine Below.trans ?_ (Below.mono (by assumption) ?_) | (first | omega | (simp; done) | exact Below.size (by assumption) | (simp; omega)))

def cnt (b : Nat → Bool) : Nat → Int
  | 0 => 0
  | j + 1 => cnt b j + (if b j then 1 else 0)
theorem cnt_bd (b : Nat → Bool) : ∀ j, 0 ≤ cnt b j ∧ cnt b j ≤ j
  | 0 => by simp [cnt]
  | j + 1 => by have := cnt_bd b j; simp only [cnt]; split <;> omega
def kidX (x : Int) (j : Nat) : Int := 2 * x + (if j = 1 ∨ j = 3 then 1 else 0)
def kidY (y : Int) (j : Nat) : Int := 2 * y + (if j = 2 ∨ j = 3 then 1 else 0)
def kidB (k : Nat) (x y px py : Int) (j : Nat) : Bool :=
  hasB (kidX x j * side (k + 1)) (kidY y j * side (k + 1)) (kidX x j * side (k + 1) + side (k + 1) - 1) (kidY y j * side (k + 1) + side (k + 1) - 1) px py
theorem cnt_four (k : Nat) (hk : k < 17) (x y px py : Int) :
    cnt (kidB k x y px py) 4 = if hasB (x * side k) (y * side k) (x * side k + side k - 1) (y * side k + side k - 1) px py then 1 else 0 := by
  have hh := side_half k (by omega)
  have hs := side_bd (k + 1) (by omega)
  have e (a : Int) : a * side k = 2 * (a * side (k + 1)) := by rw [hh, ← Int.mul_assoc, Int.mul_comm _ 2]
  have e2 (a : Int) : 2 * a * side (k + 1) = 2 * (a * side (k + 1)) := by rw [Int.mul_assoc]
  have e3 (a : Int) : (2 * a + 1) * side (k + 1) = 2 * (a * side (k + 1)) + side (k + 1) := by rw [Int.add_mul, e2, Int.one_mul]
  have k0 : kidX x 0 = 2 * x ∧ kidX x 1 = 2 * x + 1 ∧ kidX x 2 = 2 * x ∧ kidX x 3 = 2 * x + 1 := by simp [kidX]
  have l0 : kidY y 0 = 2 * y ∧ kidY y 1 = 2 * y ∧ kidY y 2 = 2 * y + 1 ∧ kidY y 3 = 2 * y + 1 := by simp [kidY]
  simp only [cnt, kidB, hasB, k0.1, k0.2.1, k0.2.2.1, k0.2.2.2, l0.1, l0.2.1, l0.2.2.1, l0.2.2.2, e, e2, e3, decide_eq_true_eq]
  rw [hh]
  clear e e2 e3 k0 l0 hh
  generalize side (k + 1) = s at *
  generalize x * s = X
  generalize y * s = Y
  split <;> split <;> split <;> split <;> split <;> omega
theorem kid_up (k : Nat) (hk : k < 17) (x y kx ky : Int) (hv : validB k x y = true) (ex : kx / 2 = x) (ey : ky / 2 = y) (w : World) :
    Calls Tryd.prog 15 #[.agg #[.int .i64 ((k : Int) + 1), .int .i64 kx, .int .i64 ky]] w fun e w' => e = .returned (.tuple #[.agg #[.int .i64 k, .int .i64 x, .int .i64 y], .int .i64 0]) ∧ Below w.heap.size w w' := by
  have hp := valid_pow k hv
  have h2 : (2 : Int) ^ (k + 1) = 2 * 2 ^ k := by rw [Int.pow_succ, Int.mul_comm]
  have hb := pow_bd (k + 1) (by omega)
  have h := up_ok ((k + 1 : Nat) : Int) kx ky (valid_of_pow (k + 1) (by omega) (by omega) (by omega)) (by omega) (by omega) (by omega) (by omega) w
  rw [ex, ey, show ((k + 1 : Nat) : Int) - 1 = k by omega, show ((k + 1 : Nat) : Int) = (k : Int) + 1 by omega] at h
  exact h
theorem kid_box (k : Nat) (hk : k < 17) (x y kx ky : Int) (hv : validB k x y = true) (ex : kx / 2 = x) (ey : ky / 2 = y) (w : World) :
    Calls Tryd.prog 12 #[.agg #[.int .i64 ((k : Int) + 1), .int .i64 kx, .int .i64 ky]] w fun e w' => e = .returned (.tuple #[.agg #[.int .i64 (kx * side (k + 1)), .int .i64 (ky * side (k + 1)), .int .i64 (kx * side (k + 1) + side (k + 1) - 1), .int .i64 (ky * side (k + 1) + side (k + 1) - 1)], .int .i64 0]) ∧ Below w.heap.size w w' := by
  have hp := valid_pow k hv
  have h2 : (2 : Int) ^ (k + 1) = 2 * 2 ^ k := by rw [Int.pow_succ, Int.mul_comm]
  have h := box_ok kx ky (k + 1) (by omega) (by omega) (by omega) w
  rw [show ((k + 1 : Nat) : Int) = (k : Int) + 1 by omega] at h
  exact h

set_option maxRecDepth 100000 in
set_option maxHeartbeats 1000000 in
theorem kidsLaw_ok (x y px py : Int) (k : Nat) (hk : k < 17) (hv : validB k x y = true) (w : World) (he : Env w) :
    Calls Tryd.prog 7 #[.agg #[.int .i64 k, .int .i64 x, .int .i64 y], .agg #[.int .i64 px, .int .i64 py]] w fun e w' => e = .returned (.bool true) ∧ Below w.heap.size w w' := by
  have HE := Lib.hid he
  have hbd := valid_pow k hv
  have HBX := Lib.hid (fun w => box_ok x y k (by omega) hbd.1 hbd.2 w)
  have LV := Lib.hid hv
  clear hv he
  go_enter Tryd.func7, Tryd.ntmps7
  go_wp2_with fail
  refine (head_true _ (HE.out.later (by repeat' (first | exact Below.refl _ _ | refine Below.drew ?_ | refine Below.drewN' ?_ | refine Below.setCell ?_ (by first | omega | (simp; done) | exact Below.size (by assumption) | (simp; omega)) _ | refine Below.alloc ?_ (by first | omega | (simp; done) | exact Below.size (by assumption) | (simp; omega)) _ | refine Below.trans ?_ (Below.mono (by assumption) ?_) | (first | omega | (simp; done) | exact Below.size (by assumption) | (simp; omega)))))).mono ?_; rintro e w1 ⟨rfl, hb1⟩
  have B1 : Below w.heap.size w w1 := below_step (((Below.refl _ _).alloc (Nat.le_refl _) _).alloc (by simp) _) (Nat.le_refl _) hb1
  have S1 := hb1.size; simp at S1
  have GT := Lib.hid (row_later hb1 (row_past (row_new w _)))
  have GP := Lib.hid (row_later hb1 (row_new1 w _ _))
  clear hb1
  have HT := GT.out
  have tz := lt_of_block HT
  have t0 := cell_of_row w1 _ 0 _ _ _ HT
  have t1 := cell_of_row w1 _ 1 _ _ _ HT
  have t2 := cell_of_row w1 _ 2 _ _ _ HT
  simp only [List.getElem?_toArray, List.getElem?_cons_zero, List.getElem?_cons_succ] at t0 t1 t2
  have HT' := Lib.hid HT
  clear HT
  clear HT'
  go_wp2_with fail
  refine (HBX.out _).mono ?_; rintro e w2 ⟨rfl, hb2⟩
  have B2 := below_step B1 (Nat.le_refl _) hb2
  have S2 := hb2.size
  have GT := Lib.hid (row_later hb2 GT.out)
  have GP := Lib.hid (row_later hb2 GP.out)
  clear hb2 B1 t0 t1 t2 tz
  have HT := GT.out
  have tz := lt_of_block HT
  have t0 := cell_of_row w2 _ 0 _ _ _ HT
  have t1 := cell_of_row w2 _ 1 _ _ _ HT
  have t2 := cell_of_row w2 _ 2 _ _ _ HT
  simp only [List.getElem?_toArray, List.getElem?_cons_zero, List.getElem?_cons_succ] at t0 t1 t2
  have HT' := Lib.hid HT
  clear HT
  clear HT'
  go_wp2_with fail
  refine (kids_ok _ _ _ LV.out (by omega) _).mono ?_; rintro e w3 ⟨⟨v, rfl, HR⟩, hb3⟩
  obtain ⟨g, cap, cur, rfl, hg, hc⟩ := HR
  have B3 := below_step (B2.alloc B2.size _) (Nat.le_refl _) hb3
  have GT := Lib.hid (row_later hb3 (row_past GT.out))
  have GP := Lib.hid (row_later hb3 (row_past GP.out))
  have GB := Lib.hid (row_later hb3 (row_new w2 _))
  clear hb3 t0 t1 t2 tz
  go_wp2
  go_loopw [10, 11] (fun n i wr => ∃ j : Nat, j ≤ 4 ∧ n = .int .i64 (cnt (kidB k x y px py) j) ∧ i = .int .i64 j ∧ Below w3.heap.size w3 wr) (fun _ i _ => 4 - (intOf i).toNat)
  case atStart => exact ⟨0, by omega, rfl, rfl, Below.refl _ _⟩
  case round =>
    obtain ⟨j, hj, rfl, rfl, hbr⟩ := hrel
    by_cases hlt : j < 4
    · have HG0 := row_later hbr hg
      obtain rfl | rfl | rfl | rfl : j = 0 ∨ j = 1 ∨ j = 2 ∨ j = 3 := by omega
      case inl =>
        have HU := Lib.hid (fun w => kid_up k hk x y (2 * x) (2 * y) LV.out (by omega) (by omega) w)
        have HX := Lib.hid (fun w => kid_box k hk x y (2 * x) (2 * y) LV.out (by omega) (by omega) w)
        have GG := Lib.hid HG0
        have cz := lt_of_block HG0
        have c0 := (cell_of_row wr _ (3 * 0) _ _ _ HG0).trans (hc (3 * 0) _ rfl)
        have c1 := (cell_of_row wr _ (3 * 0 + 1) _ _ _ HG0).trans (hc (3 * 0 + 1) _ rfl)
        have c2 := (cell_of_row wr _ (3 * 0 + 2) _ _ _ HG0).trans (hc (3 * 0 + 2) _ rfl)
        simp only [Nat.reduceMul, Nat.reduceAdd] at c0 c1 c2
        clear HG0
        go_wp2_with fail
        refine (HU.out _).mono ?_; rintro e w4 ⟨rfl, hb4⟩
        have R4 := below_step hbr (Nat.le_refl _) hb4
        have HG := row_later hb4 GG.out
        clear c0 c1 c2 cz hb4
        have cz := lt_of_block HG
        have c0 := (cell_of_row w4 _ (3 * 0) _ _ _ HG).trans (hc (3 * 0) _ rfl)
        have c1 := (cell_of_row w4 _ (3 * 0 + 1) _ _ _ HG).trans (hc (3 * 0 + 1) _ rfl)
        have c2 := (cell_of_row w4 _ (3 * 0 + 2) _ _ _ HG).trans (hc (3 * 0 + 2) _ rfl)
        simp only [Nat.reduceMul, Nat.reduceAdd] at c0 c1 c2
        have GG4 := Lib.hid HG
        clear HG
        go_wp2_with fail
        refine (HX.out _).mono ?_; rintro e w5 ⟨rfl, hb5⟩
        have R5 := below_step (R4.alloc R4.size _) (Nat.le_refl _) hb5
        have HG := row_later hb5 (row_past GG4.out)
        have U5 := row_later hb5 (row_new w4 _)
        have HT := row_later R5 GT.out
        clear c0 c1 c2 cz hb5
        have SG := HG
        have cz := lt_of_block HG
        have c0 := (cell_of_row w5 _ (3 * 0) _ _ _ HG).trans (hc (3 * 0) _ rfl)
        have c1 := (cell_of_row w5 _ (3 * 0 + 1) _ _ _ HG).trans (hc (3 * 0 + 1) _ rfl)
        have c2 := (cell_of_row w5 _ (3 * 0 + 2) _ _ _ HG).trans (hc (3 * 0 + 2) _ rfl)
        simp only [Nat.reduceMul, Nat.reduceAdd] at c0 c1 c2
        clear HG
        have uz := lt_of_block U5
        have u0 := cell_of_row w5 _ 0 _ _ _ U5
        have u1 := cell_of_row w5 _ 1 _ _ _ U5
        have u2 := cell_of_row w5 _ 2 _ _ _ U5
        simp only [List.getElem?_toArray, List.getElem?_cons_zero, List.getElem?_cons_succ] at u0 u1 u2
        have U5' := Lib.hid U5
        clear U5
        have tz := lt_of_block HT
        have t0 := cell_of_row w5 _ 0 _ _ _ HT
        have t1 := cell_of_row w5 _ 1 _ _ _ HT
        have t2 := cell_of_row w5 _ 2 _ _ _ HT
        simp only [List.getElem?_toArray, List.getElem?_cons_zero, List.getElem?_cons_succ] at t0 t1 t2
        have HT' := Lib.hid HT
        clear HT
        go_wp2_with fail
        have E1 : ((k : Int) == (k : Int)) = true := by simp
        have E2 : (x == x) = true := by simp
        have E3 : (y == y) = true := by simp
        go_quiet (fail)
        clear c0 c1 c2 cz u0 u1 u2 uz t0 t1 t2 tz
        skip
        have W6 := Lib.hid (row_drewN (n := nq) (row_new w5 (.cells #[.int .i64 ((2 * x) * side (k + 1)), .int .i64 ((2 * y) * side (k + 1)), .int .i64 ((2 * x) * side (k + 1) + side (k + 1) - 1), .int .i64 ((2 * y) * side (k + 1) + side (k + 1) - 1)] 33)))
        have P6 := Lib.hid (row_drewN (n := nq) (row_past (o' := .cells #[.int .i64 ((2 * x) * side (k + 1)), .int .i64 ((2 * y) * side (k + 1)), .int .i64 ((2 * x) * side (k + 1) + side (k + 1) - 1), .int .i64 ((2 * y) * side (k + 1) + side (k + 1) - 1)] 33) (row_later R5 GP.out)))
        have R6 : Below w3.heap.size w3 ((w5.alloc (.cells #[.int .i64 ((2 * x) * side (k + 1)), .int .i64 ((2 * y) * side (k + 1)), .int .i64 ((2 * x) * side (k + 1) + side (k + 1) - 1), .int .i64 ((2 * y) * side (k + 1) + side (k + 1) - 1)] 33)).drewN nq) := (R5.alloc R5.size _).drewN'
        generalize hw6 : (w5.alloc (.cells #[.int .i64 ((2 * x) * side (k + 1)), .int .i64 ((2 * y) * side (k + 1)), .int .i64 ((2 * x) * side (k + 1) + side (k + 1) - 1), .int .i64 ((2 * y) * side (k + 1) + side (k + 1) - 1)] 33)).drewN nq = w6
        rw [hw6] at W6 P6 R6
        have HC := W6.out
        have HP := P6.out
        clear hw6
        have cz := lt_of_block HC
        have c0 := cell_of_row w6 _ 0 _ _ _ HC
        have c1 := cell_of_row w6 _ 1 _ _ _ HC
        have c2 := cell_of_row w6 _ 2 _ _ _ HC
        have c3 := cell_of_row w6 _ 3 _ _ _ HC
        simp only [List.getElem?_toArray, List.getElem?_cons_zero, List.getElem?_cons_succ] at c0 c1 c2 c3
        have HC' := Lib.hid HC
        clear HC
        have pz := lt_of_block HP
        have p0 := cell_of_row w6 _ 0 _ _ _ HP
        have p1 := cell_of_row w6 _ 1 _ _ _ HP
        simp only [List.getElem?_toArray, List.getElem?_cons_zero, List.getElem?_cons_succ] at p0 p1
        have HP' := Lib.hid HP
        clear HP
        go_wp2_with fail
        refine (has_any _ _ _ _ _ _ _).mono ?_; rintro e w7 ⟨rfl, hb7⟩
        have R7 := below_step R6 (Nat.le_refl _) hb7
        clear hb7 c0 c1 c2 c3 cz p0 p1 pz
        have HK : hasB ((2 * x) * side (k + 1)) ((2 * y) * side (k + 1)) ((2 * x) * side (k + 1) + side (k + 1) - 1) ((2 * y) * side (k + 1) + side (k + 1) - 1) px py = kidB k x y px py 0 := by simp [kidB, kidX, kidY]
        rw [HK]
        have CB := cnt_bd (kidB k x y px py) 0
        clear HK W6 P6 HC' HP' HU HX SG hc hg HT' U5' GG GG4 R4 R5
        cases hb : kidB k x y px py 0
        · have CS := Lib.hid (show cnt (kidB k x y px py) (0 + 1) = cnt (kidB k x y px py) 0 by simp [cnt, hb])
          clear hb
          go_wp2
          go_roundw
          case rel => exact ⟨0 + 1, by omega, by rw [CS.out], by go_num, R7⟩
          case measure => simp [intOf]
        · have CS := Lib.hid (show cnt (kidB k x y px py) (0 + 1) = cnt (kidB k x y px py) 0 + 1 by simp [cnt, hb])
          have WR : IntKind.i64.wrap (cnt (kidB k x y px py) 0 + 1) = cnt (kidB k x y px py) 0 + 1 := IntWalk.i64_in _ (by omega)
          clear hb
          go_wp2
          go_roundw
          case rel => exact ⟨0 + 1, by omega, by rw [CS.out], by go_num, R7⟩
          case measure => simp [intOf]
      case inr.inl =>
        have HU := Lib.hid (fun w => kid_up k hk x y (2 * x + 1) (2 * y) LV.out (by omega) (by omega) w)
        have HX := Lib.hid (fun w => kid_box k hk x y (2 * x + 1) (2 * y) LV.out (by omega) (by omega) w)
        have GG := Lib.hid HG0
        have cz := lt_of_block HG0
        have c0 := (cell_of_row wr _ (3 * 1) _ _ _ HG0).trans (hc (3 * 1) _ rfl)
        have c1 := (cell_of_row wr _ (3 * 1 + 1) _ _ _ HG0).trans (hc (3 * 1 + 1) _ rfl)
        have c2 := (cell_of_row wr _ (3 * 1 + 2) _ _ _ HG0).trans (hc (3 * 1 + 2) _ rfl)
        simp only [Nat.reduceMul, Nat.reduceAdd] at c0 c1 c2
        clear HG0
        go_wp2_with fail
        refine (HU.out _).mono ?_; rintro e w4 ⟨rfl, hb4⟩
        have R4 := below_step hbr (Nat.le_refl _) hb4
        have HG := row_later hb4 GG.out
        clear c0 c1 c2 cz hb4
        have cz := lt_of_block HG
        have c0 := (cell_of_row w4 _ (3 * 1) _ _ _ HG).trans (hc (3 * 1) _ rfl)
        have c1 := (cell_of_row w4 _ (3 * 1 + 1) _ _ _ HG).trans (hc (3 * 1 + 1) _ rfl)
        have c2 := (cell_of_row w4 _ (3 * 1 + 2) _ _ _ HG).trans (hc (3 * 1 + 2) _ rfl)
        simp only [Nat.reduceMul, Nat.reduceAdd] at c0 c1 c2
        have GG4 := Lib.hid HG
        clear HG
        go_wp2_with fail
        refine (HX.out _).mono ?_; rintro e w5 ⟨rfl, hb5⟩
        have R5 := below_step (R4.alloc R4.size _) (Nat.le_refl _) hb5
        have HG := row_later hb5 (row_past GG4.out)
        have U5 := row_later hb5 (row_new w4 _)
        have HT := row_later R5 GT.out
        clear c0 c1 c2 cz hb5
        have SG := HG
        have cz := lt_of_block HG
        have c0 := (cell_of_row w5 _ (3 * 1) _ _ _ HG).trans (hc (3 * 1) _ rfl)
        have c1 := (cell_of_row w5 _ (3 * 1 + 1) _ _ _ HG).trans (hc (3 * 1 + 1) _ rfl)
        have c2 := (cell_of_row w5 _ (3 * 1 + 2) _ _ _ HG).trans (hc (3 * 1 + 2) _ rfl)
        simp only [Nat.reduceMul, Nat.reduceAdd] at c0 c1 c2
        clear HG
        have uz := lt_of_block U5
        have u0 := cell_of_row w5 _ 0 _ _ _ U5
        have u1 := cell_of_row w5 _ 1 _ _ _ U5
        have u2 := cell_of_row w5 _ 2 _ _ _ U5
        simp only [List.getElem?_toArray, List.getElem?_cons_zero, List.getElem?_cons_succ] at u0 u1 u2
        have U5' := Lib.hid U5
        clear U5
        have tz := lt_of_block HT
        have t0 := cell_of_row w5 _ 0 _ _ _ HT
        have t1 := cell_of_row w5 _ 1 _ _ _ HT
        have t2 := cell_of_row w5 _ 2 _ _ _ HT
        simp only [List.getElem?_toArray, List.getElem?_cons_zero, List.getElem?_cons_succ] at t0 t1 t2
        have HT' := Lib.hid HT
        clear HT
        go_wp2_with fail
        have E1 : ((k : Int) == (k : Int)) = true := by simp
        have E2 : (x == x) = true := by simp
        have E3 : (y == y) = true := by simp
        have d0 := (cell_of_row w5 _ (3 * 0) _ _ _ SG).trans (hc (3 * 0) _ rfl)
        have d1 := (cell_of_row w5 _ (3 * 0 + 1) _ _ _ SG).trans (hc (3 * 0 + 1) _ rfl)
        have d2 := (cell_of_row w5 _ (3 * 0 + 2) _ _ _ SG).trans (hc (3 * 0 + 2) _ rfl)
        simp only [Nat.reduceMul, Nat.reduceAdd] at d0 d1 d2
        go_quiet (fail)
        clear c0 c1 c2 cz u0 u1 u2 uz t0 t1 t2 tz
        clear d0 d1 d2
        have W6 := Lib.hid (row_drewN (n := nq) (row_new w5 (.cells #[.int .i64 ((2 * x + 1) * side (k + 1)), .int .i64 ((2 * y) * side (k + 1)), .int .i64 ((2 * x + 1) * side (k + 1) + side (k + 1) - 1), .int .i64 ((2 * y) * side (k + 1) + side (k + 1) - 1)] 33)))
        have P6 := Lib.hid (row_drewN (n := nq) (row_past (o' := .cells #[.int .i64 ((2 * x + 1) * side (k + 1)), .int .i64 ((2 * y) * side (k + 1)), .int .i64 ((2 * x + 1) * side (k + 1) + side (k + 1) - 1), .int .i64 ((2 * y) * side (k + 1) + side (k + 1) - 1)] 33) (row_later R5 GP.out)))
        have R6 : Below w3.heap.size w3 ((w5.alloc (.cells #[.int .i64 ((2 * x + 1) * side (k + 1)), .int .i64 ((2 * y) * side (k + 1)), .int .i64 ((2 * x + 1) * side (k + 1) + side (k + 1) - 1), .int .i64 ((2 * y) * side (k + 1) + side (k + 1) - 1)] 33)).drewN nq) := (R5.alloc R5.size _).drewN'
        generalize hw6 : (w5.alloc (.cells #[.int .i64 ((2 * x + 1) * side (k + 1)), .int .i64 ((2 * y) * side (k + 1)), .int .i64 ((2 * x + 1) * side (k + 1) + side (k + 1) - 1), .int .i64 ((2 * y) * side (k + 1) + side (k + 1) - 1)] 33)).drewN nq = w6
        rw [hw6] at W6 P6 R6
        have HC := W6.out
        have HP := P6.out
        clear hw6
        have cz := lt_of_block HC
        have c0 := cell_of_row w6 _ 0 _ _ _ HC
        have c1 := cell_of_row w6 _ 1 _ _ _ HC
        have c2 := cell_of_row w6 _ 2 _ _ _ HC
        have c3 := cell_of_row w6 _ 3 _ _ _ HC
        simp only [List.getElem?_toArray, List.getElem?_cons_zero, List.getElem?_cons_succ] at c0 c1 c2 c3
        have HC' := Lib.hid HC
        clear HC
        have pz := lt_of_block HP
        have p0 := cell_of_row w6 _ 0 _ _ _ HP
        have p1 := cell_of_row w6 _ 1 _ _ _ HP
        simp only [List.getElem?_toArray, List.getElem?_cons_zero, List.getElem?_cons_succ] at p0 p1
        have HP' := Lib.hid HP
        clear HP
        go_wp2_with fail
        refine (has_any _ _ _ _ _ _ _).mono ?_; rintro e w7 ⟨rfl, hb7⟩
        have R7 := below_step R6 (Nat.le_refl _) hb7
        clear hb7 c0 c1 c2 c3 cz p0 p1 pz
        have HK : hasB ((2 * x + 1) * side (k + 1)) ((2 * y) * side (k + 1)) ((2 * x + 1) * side (k + 1) + side (k + 1) - 1) ((2 * y) * side (k + 1) + side (k + 1) - 1) px py = kidB k x y px py 1 := by simp [kidB, kidX, kidY]
        rw [HK]
        have CB := cnt_bd (kidB k x y px py) 1
        clear HK W6 P6 HC' HP' HU HX SG hc hg HT' U5' GG GG4 R4 R5
        cases hb : kidB k x y px py 1
        · have CS := Lib.hid (show cnt (kidB k x y px py) (1 + 1) = cnt (kidB k x y px py) 1 by simp [cnt, hb])
          clear hb
          go_wp2
          go_roundw
          case rel => exact ⟨1 + 1, by omega, by rw [CS.out], by go_num, R7⟩
          case measure => simp [intOf]
        · have CS := Lib.hid (show cnt (kidB k x y px py) (1 + 1) = cnt (kidB k x y px py) 1 + 1 by simp [cnt, hb])
          have WR : IntKind.i64.wrap (cnt (kidB k x y px py) 1 + 1) = cnt (kidB k x y px py) 1 + 1 := IntWalk.i64_in _ (by omega)
          clear hb
          go_wp2
          go_roundw
          case rel => exact ⟨1 + 1, by omega, by rw [CS.out], by go_num, R7⟩
          case measure => simp [intOf]
      case inr.inr.inl =>
        have HU := Lib.hid (fun w => kid_up k hk x y (2 * x) (2 * y + 1) LV.out (by omega) (by omega) w)
        have HX := Lib.hid (fun w => kid_box k hk x y (2 * x) (2 * y + 1) LV.out (by omega) (by omega) w)
        have GG := Lib.hid HG0
        have cz := lt_of_block HG0
        have c0 := (cell_of_row wr _ (3 * 2) _ _ _ HG0).trans (hc (3 * 2) _ rfl)
        have c1 := (cell_of_row wr _ (3 * 2 + 1) _ _ _ HG0).trans (hc (3 * 2 + 1) _ rfl)
        have c2 := (cell_of_row wr _ (3 * 2 + 2) _ _ _ HG0).trans (hc (3 * 2 + 2) _ rfl)
        simp only [Nat.reduceMul, Nat.reduceAdd] at c0 c1 c2
        clear HG0
        go_wp2_with fail
        refine (HU.out _).mono ?_; rintro e w4 ⟨rfl, hb4⟩
        have R4 := below_step hbr (Nat.le_refl _) hb4
        have HG := row_later hb4 GG.out
        clear c0 c1 c2 cz hb4
        have cz := lt_of_block HG
        have c0 := (cell_of_row w4 _ (3 * 2) _ _ _ HG).trans (hc (3 * 2) _ rfl)
        have c1 := (cell_of_row w4 _ (3 * 2 + 1) _ _ _ HG).trans (hc (3 * 2 + 1) _ rfl)
        have c2 := (cell_of_row w4 _ (3 * 2 + 2) _ _ _ HG).trans (hc (3 * 2 + 2) _ rfl)
        simp only [Nat.reduceMul, Nat.reduceAdd] at c0 c1 c2
        have GG4 := Lib.hid HG
        clear HG
        go_wp2_with fail
        refine (HX.out _).mono ?_; rintro e w5 ⟨rfl, hb5⟩
        have R5 := below_step (R4.alloc R4.size _) (Nat.le_refl _) hb5
        have HG := row_later hb5 (row_past GG4.out)
        have U5 := row_later hb5 (row_new w4 _)
        have HT := row_later R5 GT.out
        clear c0 c1 c2 cz hb5
        have SG := HG
        have cz := lt_of_block HG
        have c0 := (cell_of_row w5 _ (3 * 2) _ _ _ HG).trans (hc (3 * 2) _ rfl)
        have c1 := (cell_of_row w5 _ (3 * 2 + 1) _ _ _ HG).trans (hc (3 * 2 + 1) _ rfl)
        have c2 := (cell_of_row w5 _ (3 * 2 + 2) _ _ _ HG).trans (hc (3 * 2 + 2) _ rfl)
        simp only [Nat.reduceMul, Nat.reduceAdd] at c0 c1 c2
        clear HG
        have uz := lt_of_block U5
        have u0 := cell_of_row w5 _ 0 _ _ _ U5
        have u1 := cell_of_row w5 _ 1 _ _ _ U5
        have u2 := cell_of_row w5 _ 2 _ _ _ U5
        simp only [List.getElem?_toArray, List.getElem?_cons_zero, List.getElem?_cons_succ] at u0 u1 u2
        have U5' := Lib.hid U5
        clear U5
        have tz := lt_of_block HT
        have t0 := cell_of_row w5 _ 0 _ _ _ HT
        have t1 := cell_of_row w5 _ 1 _ _ _ HT
        have t2 := cell_of_row w5 _ 2 _ _ _ HT
        simp only [List.getElem?_toArray, List.getElem?_cons_zero, List.getElem?_cons_succ] at t0 t1 t2
        have HT' := Lib.hid HT
        clear HT
        go_wp2_with fail
        have E1 : ((k : Int) == (k : Int)) = true := by simp
        have E2 : (x == x) = true := by simp
        have E3 : (y == y) = true := by simp
        have d0 := (cell_of_row w5 _ (3 * 1) _ _ _ SG).trans (hc (3 * 1) _ rfl)
        have d1 := (cell_of_row w5 _ (3 * 1 + 1) _ _ _ SG).trans (hc (3 * 1 + 1) _ rfl)
        have d2 := (cell_of_row w5 _ (3 * 1 + 2) _ _ _ SG).trans (hc (3 * 1 + 2) _ rfl)
        simp only [Nat.reduceMul, Nat.reduceAdd] at d0 d1 d2
        have E4 : ((2 * y + 1) == (2 * y)) = false := by rw [beq_eq_false_iff_ne]; omega
        have E5 : ¬ (2 * y + 1 = 2 * y) := by omega
        have E6 : ¬ (2 * y + 1 < 2 * y) := by omega
        go_quiet (fail)
        clear c0 c1 c2 cz u0 u1 u2 uz t0 t1 t2 tz
        clear d0 d1 d2
        have W6 := Lib.hid (row_drewN (n := nq) (row_new w5 (.cells #[.int .i64 ((2 * x) * side (k + 1)), .int .i64 ((2 * y + 1) * side (k + 1)), .int .i64 ((2 * x) * side (k + 1) + side (k + 1) - 1), .int .i64 ((2 * y + 1) * side (k + 1) + side (k + 1) - 1)] 33)))
        have P6 := Lib.hid (row_drewN (n := nq) (row_past (o' := .cells #[.int .i64 ((2 * x) * side (k + 1)), .int .i64 ((2 * y + 1) * side (k + 1)), .int .i64 ((2 * x) * side (k + 1) + side (k + 1) - 1), .int .i64 ((2 * y + 1) * side (k + 1) + side (k + 1) - 1)] 33) (row_later R5 GP.out)))
        have R6 : Below w3.heap.size w3 ((w5.alloc (.cells #[.int .i64 ((2 * x) * side (k + 1)), .int .i64 ((2 * y + 1) * side (k + 1)), .int .i64 ((2 * x) * side (k + 1) + side (k + 1) - 1), .int .i64 ((2 * y + 1) * side (k + 1) + side (k + 1) - 1)] 33)).drewN nq) := (R5.alloc R5.size _).drewN'
        generalize hw6 : (w5.alloc (.cells #[.int .i64 ((2 * x) * side (k + 1)), .int .i64 ((2 * y + 1) * side (k + 1)), .int .i64 ((2 * x) * side (k + 1) + side (k + 1) - 1), .int .i64 ((2 * y + 1) * side (k + 1) + side (k + 1) - 1)] 33)).drewN nq = w6
        rw [hw6] at W6 P6 R6
        have HC := W6.out
        have HP := P6.out
        clear hw6
        have cz := lt_of_block HC
        have c0 := cell_of_row w6 _ 0 _ _ _ HC
        have c1 := cell_of_row w6 _ 1 _ _ _ HC
        have c2 := cell_of_row w6 _ 2 _ _ _ HC
        have c3 := cell_of_row w6 _ 3 _ _ _ HC
        simp only [List.getElem?_toArray, List.getElem?_cons_zero, List.getElem?_cons_succ] at c0 c1 c2 c3
        have HC' := Lib.hid HC
        clear HC
        have pz := lt_of_block HP
        have p0 := cell_of_row w6 _ 0 _ _ _ HP
        have p1 := cell_of_row w6 _ 1 _ _ _ HP
        simp only [List.getElem?_toArray, List.getElem?_cons_zero, List.getElem?_cons_succ] at p0 p1
        have HP' := Lib.hid HP
        clear HP
        go_wp2_with fail
        refine (has_any _ _ _ _ _ _ _).mono ?_; rintro e w7 ⟨rfl, hb7⟩
        have R7 := below_step R6 (Nat.le_refl _) hb7
        clear hb7 c0 c1 c2 c3 cz p0 p1 pz
        have HK : hasB ((2 * x) * side (k + 1)) ((2 * y + 1) * side (k + 1)) ((2 * x) * side (k + 1) + side (k + 1) - 1) ((2 * y + 1) * side (k + 1) + side (k + 1) - 1) px py = kidB k x y px py 2 := by simp [kidB, kidX, kidY]
        rw [HK]
        have CB := cnt_bd (kidB k x y px py) 2
        clear HK W6 P6 HC' HP' HU HX SG hc hg HT' U5' GG GG4 R4 R5
        cases hb : kidB k x y px py 2
        · have CS := Lib.hid (show cnt (kidB k x y px py) (2 + 1) = cnt (kidB k x y px py) 2 by simp [cnt, hb])
          clear hb
          go_wp2
          go_roundw
          case rel => exact ⟨2 + 1, by omega, by rw [CS.out], by go_num, R7⟩
          case measure => simp [intOf]
        · have CS := Lib.hid (show cnt (kidB k x y px py) (2 + 1) = cnt (kidB k x y px py) 2 + 1 by simp [cnt, hb])
          have WR : IntKind.i64.wrap (cnt (kidB k x y px py) 2 + 1) = cnt (kidB k x y px py) 2 + 1 := IntWalk.i64_in _ (by omega)
          clear hb
          go_wp2
          go_roundw
          case rel => exact ⟨2 + 1, by omega, by rw [CS.out], by go_num, R7⟩
          case measure => simp [intOf]
      case inr.inr.inr =>
        have HU := Lib.hid (fun w => kid_up k hk x y (2 * x + 1) (2 * y + 1) LV.out (by omega) (by omega) w)
        have HX := Lib.hid (fun w => kid_box k hk x y (2 * x + 1) (2 * y + 1) LV.out (by omega) (by omega) w)
        have GG := Lib.hid HG0
        have cz := lt_of_block HG0
        have c0 := (cell_of_row wr _ (3 * 3) _ _ _ HG0).trans (hc (3 * 3) _ rfl)
        have c1 := (cell_of_row wr _ (3 * 3 + 1) _ _ _ HG0).trans (hc (3 * 3 + 1) _ rfl)
        have c2 := (cell_of_row wr _ (3 * 3 + 2) _ _ _ HG0).trans (hc (3 * 3 + 2) _ rfl)
        simp only [Nat.reduceMul, Nat.reduceAdd] at c0 c1 c2
        clear HG0
        go_wp2_with fail
        refine (HU.out _).mono ?_; rintro e w4 ⟨rfl, hb4⟩
        have R4 := below_step hbr (Nat.le_refl _) hb4
        have HG := row_later hb4 GG.out
        clear c0 c1 c2 cz hb4
        have cz := lt_of_block HG
        have c0 := (cell_of_row w4 _ (3 * 3) _ _ _ HG).trans (hc (3 * 3) _ rfl)
        have c1 := (cell_of_row w4 _ (3 * 3 + 1) _ _ _ HG).trans (hc (3 * 3 + 1) _ rfl)
        have c2 := (cell_of_row w4 _ (3 * 3 + 2) _ _ _ HG).trans (hc (3 * 3 + 2) _ rfl)
        simp only [Nat.reduceMul, Nat.reduceAdd] at c0 c1 c2
        have GG4 := Lib.hid HG
        clear HG
        go_wp2_with fail
        refine (HX.out _).mono ?_; rintro e w5 ⟨rfl, hb5⟩
        have R5 := below_step (R4.alloc R4.size _) (Nat.le_refl _) hb5
        have HG := row_later hb5 (row_past GG4.out)
        have U5 := row_later hb5 (row_new w4 _)
        have HT := row_later R5 GT.out
        clear c0 c1 c2 cz hb5
        have SG := HG
        have cz := lt_of_block HG
        have c0 := (cell_of_row w5 _ (3 * 3) _ _ _ HG).trans (hc (3 * 3) _ rfl)
        have c1 := (cell_of_row w5 _ (3 * 3 + 1) _ _ _ HG).trans (hc (3 * 3 + 1) _ rfl)
        have c2 := (cell_of_row w5 _ (3 * 3 + 2) _ _ _ HG).trans (hc (3 * 3 + 2) _ rfl)
        simp only [Nat.reduceMul, Nat.reduceAdd] at c0 c1 c2
        clear HG
        have uz := lt_of_block U5
        have u0 := cell_of_row w5 _ 0 _ _ _ U5
        have u1 := cell_of_row w5 _ 1 _ _ _ U5
        have u2 := cell_of_row w5 _ 2 _ _ _ U5
        simp only [List.getElem?_toArray, List.getElem?_cons_zero, List.getElem?_cons_succ] at u0 u1 u2
        have U5' := Lib.hid U5
        clear U5
        have tz := lt_of_block HT
        have t0 := cell_of_row w5 _ 0 _ _ _ HT
        have t1 := cell_of_row w5 _ 1 _ _ _ HT
        have t2 := cell_of_row w5 _ 2 _ _ _ HT
        simp only [List.getElem?_toArray, List.getElem?_cons_zero, List.getElem?_cons_succ] at t0 t1 t2
        have HT' := Lib.hid HT
        clear HT
        go_wp2_with fail
        have E1 : ((k : Int) == (k : Int)) = true := by simp
        have E2 : (x == x) = true := by simp
        have E3 : (y == y) = true := by simp
        have d0 := (cell_of_row w5 _ (3 * 2) _ _ _ SG).trans (hc (3 * 2) _ rfl)
        have d1 := (cell_of_row w5 _ (3 * 2 + 1) _ _ _ SG).trans (hc (3 * 2 + 1) _ rfl)
        have d2 := (cell_of_row w5 _ (3 * 2 + 2) _ _ _ SG).trans (hc (3 * 2 + 2) _ rfl)
        simp only [Nat.reduceMul, Nat.reduceAdd] at d0 d1 d2
        go_quiet (fail)
        clear c0 c1 c2 cz u0 u1 u2 uz t0 t1 t2 tz
        clear d0 d1 d2
        have W6 := Lib.hid (row_drewN (n := nq) (row_new w5 (.cells #[.int .i64 ((2 * x + 1) * side (k + 1)), .int .i64 ((2 * y + 1) * side (k + 1)), .int .i64 ((2 * x + 1) * side (k + 1) + side (k + 1) - 1), .int .i64 ((2 * y + 1) * side (k + 1) + side (k + 1) - 1)] 33)))
        have P6 := Lib.hid (row_drewN (n := nq) (row_past (o' := .cells #[.int .i64 ((2 * x + 1) * side (k + 1)), .int .i64 ((2 * y + 1) * side (k + 1)), .int .i64 ((2 * x + 1) * side (k + 1) + side (k + 1) - 1), .int .i64 ((2 * y + 1) * side (k + 1) + side (k + 1) - 1)] 33) (row_later R5 GP.out)))
        have R6 : Below w3.heap.size w3 ((w5.alloc (.cells #[.int .i64 ((2 * x + 1) * side (k + 1)), .int .i64 ((2 * y + 1) * side (k + 1)), .int .i64 ((2 * x + 1) * side (k + 1) + side (k + 1) - 1), .int .i64 ((2 * y + 1) * side (k + 1) + side (k + 1) - 1)] 33)).drewN nq) := (R5.alloc R5.size _).drewN'
        generalize hw6 : (w5.alloc (.cells #[.int .i64 ((2 * x + 1) * side (k + 1)), .int .i64 ((2 * y + 1) * side (k + 1)), .int .i64 ((2 * x + 1) * side (k + 1) + side (k + 1) - 1), .int .i64 ((2 * y + 1) * side (k + 1) + side (k + 1) - 1)] 33)).drewN nq = w6
        rw [hw6] at W6 P6 R6
        have HC := W6.out
        have HP := P6.out
        clear hw6
        have cz := lt_of_block HC
        have c0 := cell_of_row w6 _ 0 _ _ _ HC
        have c1 := cell_of_row w6 _ 1 _ _ _ HC
        have c2 := cell_of_row w6 _ 2 _ _ _ HC
        have c3 := cell_of_row w6 _ 3 _ _ _ HC
        simp only [List.getElem?_toArray, List.getElem?_cons_zero, List.getElem?_cons_succ] at c0 c1 c2 c3
        have HC' := Lib.hid HC
        clear HC
        have pz := lt_of_block HP
        have p0 := cell_of_row w6 _ 0 _ _ _ HP
        have p1 := cell_of_row w6 _ 1 _ _ _ HP
        simp only [List.getElem?_toArray, List.getElem?_cons_zero, List.getElem?_cons_succ] at p0 p1
        have HP' := Lib.hid HP
        clear HP
        go_wp2_with fail
        refine (has_any _ _ _ _ _ _ _).mono ?_; rintro e w7 ⟨rfl, hb7⟩
        have R7 := below_step R6 (Nat.le_refl _) hb7
        clear hb7 c0 c1 c2 c3 cz p0 p1 pz
        have HK : hasB ((2 * x + 1) * side (k + 1)) ((2 * y + 1) * side (k + 1)) ((2 * x + 1) * side (k + 1) + side (k + 1) - 1) ((2 * y + 1) * side (k + 1) + side (k + 1) - 1) px py = kidB k x y px py 3 := by simp [kidB, kidX, kidY]
        rw [HK]
        have CB := cnt_bd (kidB k x y px py) 3
        clear HK W6 P6 HC' HP' HU HX SG hc hg HT' U5' GG GG4 R4 R5
        cases hb : kidB k x y px py 3
        · have CS := Lib.hid (show cnt (kidB k x y px py) (3 + 1) = cnt (kidB k x y px py) 3 by simp [cnt, hb])
          clear hb
          go_wp2
          go_roundw
          case rel => exact ⟨3 + 1, by omega, by rw [CS.out], by go_num, R7⟩
          case measure => simp [intOf]
        · have CS := Lib.hid (show cnt (kidB k x y px py) (3 + 1) = cnt (kidB k x y px py) 3 + 1 by simp [cnt, hb])
          have WR : IntKind.i64.wrap (cnt (kidB k x y px py) 3 + 1) = cnt (kidB k x y px py) 3 + 1 := IntWalk.i64_in _ (by omega)
          clear hb
          go_wp2
          go_roundw
          case rel => exact ⟨3 + 1, by omega, by rw [CS.out], by go_num, R7⟩
          case measure => simp [intOf]
    · obtain rfl : j = 4 := by omega
      have HT := row_later hbr GT.out
      have HB := row_later hbr GB.out
      have HP := row_later hbr GP.out
      have HC := Lib.hid (cnt_four k hk x y px py)
      clear hc hg
      have bz := lt_of_block HB
      have b0 := cell_of_row wr _ 0 _ _ _ HB
      have b1 := cell_of_row wr _ 1 _ _ _ HB
      have b2 := cell_of_row wr _ 2 _ _ _ HB
      have b3 := cell_of_row wr _ 3 _ _ _ HB
      simp only [List.getElem?_toArray, List.getElem?_cons_zero, List.getElem?_cons_succ] at b0 b1 b2 b3
      have HB' := Lib.hid HB
      clear HB
      have pz := lt_of_block HP
      have p0 := cell_of_row wr _ 0 _ _ _ HP
      have p1 := cell_of_row wr _ 1 _ _ _ HP
      simp only [List.getElem?_toArray, List.getElem?_cons_zero, List.getElem?_cons_succ] at p0 p1
      have HP' := Lib.hid HP
      clear HP
      go_wp2_with fail
      refine (has_any _ _ _ _ _ _ _).mono ?_; rintro e w7 ⟨rfl, hb7⟩
      have R7 := below_step hbr (Nat.le_refl _) hb7
      clear hb7 b0 b1 b2 b3 p0 p1
      rw [HC.out]
      cases hasB (x * side k) (y * side k) (x * side k + side k - 1) (y * side k + side k - 1) px py
      · simp only [Bool.false_eq_true, if_false]
        go_wp2
        go_ret
        exact ⟨rfl, below_step B3 (Nat.le_refl _) R7⟩
      · simp only [if_true]
        go_wp2
        go_ret
        exact ⟨rfl, below_step B3 (Nat.le_refl _) R7⟩

theorem gridKids_walk (z x y px py : Int) (w : World) (he : Env w) :
    Calls Tryd.prog 7 #[.agg #[.int .i64 z, .int .i64 x, .int .i64 y], .agg #[.int .i64 px, .int .i64 py]] w fun e w' => e = .returned (.bool true) ∧ Below w.heap.size w w' := by
  cases hv : validB z x y
  · exact kidsLaw_bad z x y px py hv w he
  · have hb := valid_bd hv
    obtain ⟨k, rfl⟩ : ∃ k : Nat, z = k := ⟨z.toNat, by omega⟩
    by_cases hk : k < 17
    · exact kidsLaw_ok x y px py k hk hv w he
    · obtain rfl : k = 17 := by omega
      exact kidsLaw_top x y px py hv w he
end Go.Proofs.YtnilofeakdibhaaDoor
