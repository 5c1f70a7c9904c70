/- Contracts of the reference of layer 7: Of, Box, Up, Pixel; the program and the reference side by side. -/
import Derived.Test.YtnilofeakdibhaaDoorGridRA
import Derived.Test.YtnilofeakdibhaaDoorGridD
import Derived.Test.YtnilofeakdibhaaDoorGridKidsLaw
namespace Go.Proofs.YtnilofeakdibhaaDoor
open Go.RowKit

theorem div_wrap (x s : Int) (h0 : 0 ≤ x) (h1 : x ≤ 1048576) (hs : 1 ≤ s) : IntKind.i64.wrap (x.tdiv s) = x / s := by
  rw [Int.tdiv_eq_ediv_of_nonneg h0]
  have a := Int.ediv_nonneg h0 (show 0 ≤ s by omega)
  have b := Int.ediv_le_self s h0
  exact IntWalk.i64_in _ (by omega)

set_option maxRecDepth 100000 in
set_option maxHeartbeats 1000000 in
theorem rof_ok (x y : Int) (k : Nat) (hk : k ≤ 17) (hi : 0 ≤ x ∧ 0 ≤ y ∧ x < 1048576 ∧ y < 1048576) (w : World) :
    Calls Tryd.prog 20 #[.agg #[.int .i64 x, .int .i64 y], .int .i64 k] w fun e w' => e = .returned (.tuple #[.agg #[.int .i64 k, .int .i64 (x / side k), .int .i64 (y / side k)], .int .i64 0]) ∧ Below w.heap.size w w' := by
  have LV := Lib.hid (show levelB k = true by simp only [levelB]; rw [decide_eq_true_eq]; omega)
  have HN := Lib.hid (show insideB x y = true by simp only [insideB]; rw [decide_eq_true_eq]; omega)
  have hb := side_bd k hk
  obtain ⟨hx0, hy0, hx1, hy1⟩ := hi
  have hnz : ¬ side k = 0 := by omega
  have hd1 : IntKind.i64.wrap (x.tdiv (side k)) = x / side k := div_wrap x (side k) hx0 (by omega) (by omega)
  have hd2 : IntKind.i64.wrap (y.tdiv (side k)) = y / side k := div_wrap y (side k) hy0 (by omega) (by omega)
  go_enter Tryd.func20, Tryd.ntmps20
  go_wp2_with fail
  refine (rlevel_any _ _).mono ?_; rintro e w' ⟨rfl, rfl⟩; rw [LV.out]
  go_wp2_with fail
  refine (rin_any _ _ _).mono ?_; rintro e w1 ⟨rfl, hb1⟩; rw [HN.out]
  have HA := row_later hb1 (row_past (row_new w _))
  have HR := row_later hb1 (row_new1 w _ _)
  have hs1 := hb1.size; simp at hs1
  have az := lt_of_block HA
  have a0 := cell_of_row w1 _ 0 _ _ _ HA
  have a1 := cell_of_row w1 _ 1 _ _ _ HA
  simp only [List.getElem?_toArray, List.getElem?_cons_zero, List.getElem?_cons_succ] at a0 a1
  have HA' := Lib.hid HA
  clear HA
  have rz := lt_of_block HR
  have r0 := cell_of_row w1 _ 0 _ _ _ HR
  have r1 := cell_of_row w1 _ 1 _ _ _ HR
  have r2 := cell_of_row w1 _ 2 _ _ _ HR
  have rf0 := frozen_of_row w1 _ 0 _ _ HR
  have rf1 := frozen_of_row w1 _ 1 _ _ HR
  have rf2 := frozen_of_row w1 _ 2 _ _ HR
  simp only [List.getElem?_toArray, List.getElem?_cons_zero, List.getElem?_cons_succ] at r0 r1 r2
  have HR' := Lib.hid HR
  clear HR
  go_wp2_with fail
  refine wp_region_still_tail 12 (by kernel_rfl) (by kernel_rfl) ?_
  simp only [List.take_succ_cons, List.take_zero, List.drop_succ_cons, List.drop_zero]
  repeat still_step
  still_call (rside_still k hk _)
  repeat still_step
  still_call (rside_still k hk _)
  repeat still_step
  refine wpStill_nil ?_
  go_wp2
  refine bodyPost_ret (v := .tuple #[.agg #[.int .i64 k, .int .i64 (x / side k), .int .i64 (y / side k)], .int .i64 0]) ?_ rfl ⟨rfl, ?_⟩
  · simp [results, Tryd.results20, go_sem, r0, r1, r2]
  · repeat' (first | exact Below.refl _ _ | refine Below.drew ?_ | refine Below.drewN' ?_ | refine Below.setCell ?_ (by first | omega | (simp; done) | exact Below.size (by assumption) | (simp; omega)) _ | refine Below.alloc ?_ (by first | omega | (simp; done) | exact Below.size (by assumption) | (simp; omega)) _ | refine Below.trans ?_ (Below.mono (by assumption) ?_) | (first | omega | (simp; done) | exact Below.size (by assumption) | (simp; omega)))

set_option maxHeartbeats 400000 in
theorem rof_arg (x y z : Int) (hz : ¬ (0 ≤ z ∧ z ≤ 17)) (w : World) :
    Calls Tryd.prog 20 #[.agg #[.int .i64 x, .int .i64 y], .int .i64 z] w fun e w' => e = .returned (.tuple #[.agg #[.int .i64 0, .int .i64 0, .int .i64 0], .int .i64 1]) ∧ Below w.heap.size w w' := by
  have LV := Lib.hid (show levelB z = false by simp only [levelB]; rw [decide_eq_false_iff_not]; omega)
  clear hz
  go_enter Tryd.func20, Tryd.ntmps20
  go_wp2_with fail
  refine (rlevel_any _ _).mono ?_; rintro e w' ⟨rfl, rfl⟩; rw [LV.out]
  go_wp2
  refine bodyPost_ret (v := .tuple #[.agg #[.int .i64 0, .int .i64 0, .int .i64 0], .int .i64 1]) ?_ rfl ⟨rfl, ?_⟩
  · simp [results, Tryd.results20, go_sem]
  · repeat' (first | exact Below.refl _ _ | refine Below.drew ?_ | refine Below.drewN' ?_ | refine Below.setCell ?_ (by first | omega | (simp; done) | exact Below.size (by assumption) | (simp; omega)) _ | refine Below.alloc ?_ (by first | omega | (simp; done) | exact Below.size (by assumption) | (simp; omega)) _ | refine Below.trans ?_ (Below.mono (by assumption) ?_) | (first | omega | (simp; done) | exact Below.size (by assumption) | (simp; omega)))

set_option maxHeartbeats 400000 in
theorem rof_range (x y z : Int) (hz : 0 ≤ z ∧ z ≤ 17) (hi : ¬ (0 ≤ x ∧ 0 ≤ y ∧ x < 1048576 ∧ y < 1048576)) (w : World) :
    Calls Tryd.prog 20 #[.agg #[.int .i64 x, .int .i64 y], .int .i64 z] w fun e w' => e = .returned (.tuple #[.agg #[.int .i64 0, .int .i64 0, .int .i64 0], .int .i64 10]) ∧ Below w.heap.size w w' := by
  have LV := Lib.hid (show levelB z = true by simp only [levelB]; rw [decide_eq_true_eq]; omega)
  have HN := Lib.hid (show insideB x y = false by simp only [insideB]; rw [decide_eq_false_iff_not]; omega)
  clear hz hi
  go_enter Tryd.func20, Tryd.ntmps20
  go_wp2_with fail
  refine (rlevel_any _ _).mono ?_; rintro e w' ⟨rfl, rfl⟩; rw [LV.out]
  go_wp2_with fail
  refine (rin_any _ _ _).mono ?_; rintro e w1 ⟨rfl, hb1⟩; rw [HN.out]
  have HR := row_later hb1 (row_new1 w _ _)
  have hs1 := hb1.size; simp at hs1
  have rz := lt_of_block HR
  have r0 := cell_of_row w1 _ 0 _ _ _ HR
  have r1 := cell_of_row w1 _ 1 _ _ _ HR
  have r2 := cell_of_row w1 _ 2 _ _ _ HR
  have rf0 := frozen_of_row w1 _ 0 _ _ HR
  have rf1 := frozen_of_row w1 _ 1 _ _ HR
  have rf2 := frozen_of_row w1 _ 2 _ _ HR
  simp only [List.getElem?_toArray, List.getElem?_cons_zero, List.getElem?_cons_succ] at r0 r1 r2
  have HR' := Lib.hid HR
  clear HR
  go_wp2
  refine bodyPost_ret (v := .tuple #[.agg #[.int .i64 0, .int .i64 0, .int .i64 0], .int .i64 10]) ?_ rfl ⟨rfl, ?_⟩
  · simp [results, Tryd.results20, go_sem, r0, r1, r2]
  · repeat' (first | exact Below.refl _ _ | refine Below.drew ?_ | refine Below.drewN' ?_ | refine Below.setCell ?_ (by first | omega | (simp; done) | exact Below.size (by assumption) | (simp; omega)) _ | refine Below.alloc ?_ (by first | omega | (simp; done) | exact Below.size (by assumption) | (simp; omega)) _ | refine Below.trans ?_ (Below.mono (by assumption) ?_) | (first | omega | (simp; done) | exact Below.size (by assumption) | (simp; omega)))

theorem of_both (x y z : Int) : ∃ Z X Y E : Int,
    (∀ w, Calls Tryd.prog 13 #[.agg #[.int .i64 x, .int .i64 y], .int .i64 z] w fun e w' => e = .returned (.tuple #[.agg #[.int .i64 Z, .int .i64 X, .int .i64 Y], .int .i64 E]) ∧ Below w.heap.size w w') ∧
    (∀ w, Calls Tryd.prog 20 #[.agg #[.int .i64 x, .int .i64 y], .int .i64 z] w fun e w' => e = .returned (.tuple #[.agg #[.int .i64 Z, .int .i64 X, .int .i64 Y], .int .i64 E]) ∧ Below w.heap.size w w') := by
  by_cases hz : 0 ≤ z ∧ z ≤ 17
  · by_cases hi : 0 ≤ x ∧ 0 ≤ y ∧ x < 1048576 ∧ y < 1048576
    · obtain ⟨k, rfl⟩ : ∃ k : Nat, z = k := ⟨z.toNat, by omega⟩
      exact ⟨_, _, _, _, of_ok x y k (by omega) hi, rof_ok x y k (by omega) hi⟩
    · exact ⟨_, _, _, _, of_range x y z hz hi, rof_range x y z hz hi⟩
  · exact ⟨_, _, _, _, of_arg x y z hz, rof_arg x y z hz⟩

set_option maxHeartbeats 1000000 in
theorem rbox_ok (x y : Int) (k : Nat) (hk : k ≤ 17) (hx : 0 ≤ x ∧ x < 2 ^ k) (hy : 0 ≤ y ∧ y < 2 ^ k) (w : World) :
    Calls Tryd.prog 21 #[.agg #[.int .i64 k, .int .i64 x, .int .i64 y]] w fun e w' => e = .returned (.tuple #[.agg #[.int .i64 (x * side k), .int .i64 (y * side k), .int .i64 (x * side k + side k - 1), .int .i64 (y * side k + side k - 1)], .int .i64 0]) ∧ Below w.heap.size w w' := by
  have LV := Lib.hid (show validB k x y = true by simp only [validB, Int.toNat_natCast]; rw [decide_eq_true_eq]; omega)
  have hb := side_bd k hk
  have hmx := mul_side k hk x hx.1 hx.2
  have hmy := mul_side k hk y hy.1 hy.2
  clear hx hy
  go_enter Tryd.func21, Tryd.ntmps21
  go_wp2_with fail
  refine (rvalid_below _ _ _ _).mono ?_; rintro e w1 ⟨rfl, hb1⟩; rw [LV.out]
  have HA := row_later hb1 (row_past (row_new w _))
  have HR := row_later hb1 (row_new1 w _ _)
  have hs1 := hb1.size; simp at hs1
  have az := lt_of_block HA
  have a0 := cell_of_row w1 _ 0 _ _ _ HA
  have a1 := cell_of_row w1 _ 1 _ _ _ HA
  have a2 := cell_of_row w1 _ 2 _ _ _ HA
  simp only [List.getElem?_toArray, List.getElem?_cons_zero, List.getElem?_cons_succ] at a0 a1 a2
  have HA' := Lib.hid HA
  clear HA
  have rz := lt_of_block HR
  have r0 := cell_of_row w1 _ 0 _ _ _ HR
  have r1 := cell_of_row w1 _ 1 _ _ _ HR
  have r2 := cell_of_row w1 _ 2 _ _ _ HR
  have r3 := cell_of_row w1 _ 3 _ _ _ HR
  have rf0 := frozen_of_row w1 _ 0 _ _ HR
  have rf1 := frozen_of_row w1 _ 1 _ _ HR
  have rf2 := frozen_of_row w1 _ 2 _ _ HR
  have rf3 := frozen_of_row w1 _ 3 _ _ HR
  simp only [List.getElem?_toArray, List.getElem?_cons_zero, List.getElem?_cons_succ] at r0 r1 r2 r3
  have HR' := Lib.hid HR
  clear HR
  go_wp2_with fail
  refine (rside_still k hk _).mono ?_; rintro e w' ⟨rfl, rfl⟩
  go_wp2
  refine bodyPost_ret (v := .tuple #[.agg #[.int .i64 (x * side k), .int .i64 (y * side k), .int .i64 (x * side k + side k - 1), .int .i64 (y * side k + side k - 1)], .int .i64 0]) ?_ rfl ⟨rfl, ?_⟩
  · simp [results, Tryd.results21, go_sem, r0, r1, r2, r3]
  · repeat' (first | exact Below.refl _ _ | refine Below.drew ?_ | refine Below.drewN' ?_ | refine Below.setCell ?_ (by first | omega | (simp; done) | exact Below.size (by assumption) | (simp; omega)) _ | refine Below.alloc ?_ (by first | omega | (simp; done) | exact Below.size (by assumption) | (simp; omega)) _ | refine Below.trans ?_ (Below.mono (by assumption) ?_) | (first | omega | (simp; done) | exact Below.size (by assumption) | (simp; omega)))

set_option maxHeartbeats 400000 in
theorem rbox_arg (z x y : Int) (hv : validB z x y = false) (w : World) :
    Calls Tryd.prog 21 #[.agg #[.int .i64 z, .int .i64 x, .int .i64 y]] w fun e w' => e = .returned (.tuple #[.agg #[.int .i64 0, .int .i64 0, .int .i64 0, .int .i64 0], .int .i64 1]) ∧ Below w.heap.size w w' := by
  have LV := Lib.hid hv
  clear hv
  go_enter Tryd.func21, Tryd.ntmps21
  go_wp2_with fail
  refine (rvalid_below _ _ _ _).mono ?_; rintro e w1 ⟨rfl, hb1⟩; rw [LV.out]
  have HR := row_later hb1 (row_new1 w _ _)
  have hs1 := hb1.size; simp at hs1
  have rz := lt_of_block HR
  have r0 := cell_of_row w1 _ 0 _ _ _ HR
  have r1 := cell_of_row w1 _ 1 _ _ _ HR
  have r2 := cell_of_row w1 _ 2 _ _ _ HR
  have r3 := cell_of_row w1 _ 3 _ _ _ HR
  have rf0 := frozen_of_row w1 _ 0 _ _ HR
  have rf1 := frozen_of_row w1 _ 1 _ _ HR
  have rf2 := frozen_of_row w1 _ 2 _ _ HR
  have rf3 := frozen_of_row w1 _ 3 _ _ HR
  simp only [List.getElem?_toArray, List.getElem?_cons_zero, List.getElem?_cons_succ] at r0 r1 r2 r3
  have HR' := Lib.hid HR
  clear HR
  go_wp2
  refine bodyPost_ret (v := .tuple #[.agg #[.int .i64 0, .int .i64 0, .int .i64 0, .int .i64 0], .int .i64 1]) ?_ rfl ⟨rfl, ?_⟩
  · simp [results, Tryd.results21, go_sem, r0, r1, r2, r3]
  · repeat' (first | exact Below.refl _ _ | refine Below.drew ?_ | refine Below.drewN' ?_ | refine Below.setCell ?_ (by first | omega | (simp; done) | exact Below.size (by assumption) | (simp; omega)) _ | refine Below.alloc ?_ (by first | omega | (simp; done) | exact Below.size (by assumption) | (simp; omega)) _ | refine Below.trans ?_ (Below.mono (by assumption) ?_) | (first | omega | (simp; done) | exact Below.size (by assumption) | (simp; omega)))

theorem box_both (z x y : Int) : ∃ A B C D E : Int,
    (∀ w, Calls Tryd.prog 12 #[.agg #[.int .i64 z, .int .i64 x, .int .i64 y]] w fun e w' => e = .returned (.tuple #[.agg #[.int .i64 A, .int .i64 B, .int .i64 C, .int .i64 D], .int .i64 E]) ∧ Below w.heap.size w w') ∧
    (∀ w, Calls Tryd.prog 21 #[.agg #[.int .i64 z, .int .i64 x, .int .i64 y]] w fun e w' => e = .returned (.tuple #[.agg #[.int .i64 A, .int .i64 B, .int .i64 C, .int .i64 D], .int .i64 E]) ∧ Below w.heap.size w w') := by
  cases hv : validB z x y
  · exact ⟨_, _, _, _, _, box_arg z x y hv, rbox_arg z x y hv⟩
  · have hb := valid_bd hv
    obtain ⟨k, rfl⟩ : ∃ k : Nat, z = k := ⟨z.toNat, by omega⟩
    have hp := valid_pow k hv
    exact ⟨_, _, _, _, _, box_ok x y k (by omega) hp.1 hp.2, rbox_ok x y k (by omega) hp.1 hp.2⟩

set_option maxHeartbeats 400000 in
theorem rup_arg (z x y : Int) (hv : validB z x y = false) (w : World) :
    Calls Tryd.prog 22 #[.agg #[.int .i64 z, .int .i64 x, .int .i64 y]] w fun e w' => e = .returned (.tuple #[.agg #[.int .i64 0, .int .i64 0, .int .i64 0], .int .i64 1]) ∧ Below w.heap.size w w' := by
  have LV := Lib.hid hv
  clear hv
  go_enter Tryd.func22, Tryd.ntmps22
  go_wp2_with fail
  refine (rvalid_below _ _ _ _).mono ?_; rintro e w1 ⟨rfl, hb1⟩; rw [LV.out]
  have HR := row_later hb1 (row_new1 w _ _)
  have hs1 := hb1.size; simp at hs1
  have rz := lt_of_block HR
  have r0 := cell_of_row w1 _ 0 _ _ _ HR
  have r1 := cell_of_row w1 _ 1 _ _ _ HR
  have r2 := cell_of_row w1 _ 2 _ _ _ HR
  have rf0 := frozen_of_row w1 _ 0 _ _ HR
  have rf1 := frozen_of_row w1 _ 1 _ _ HR
  have rf2 := frozen_of_row w1 _ 2 _ _ HR
  simp only [List.getElem?_toArray, List.getElem?_cons_zero, List.getElem?_cons_succ] at r0 r1 r2
  have HR' := Lib.hid HR
  clear HR
  go_wp2
  refine bodyPost_ret (v := .tuple #[.agg #[.int .i64 0, .int .i64 0, .int .i64 0], .int .i64 1]) ?_ rfl ⟨rfl, ?_⟩
  · simp [results, Tryd.results22, go_sem, r0, r1, r2]
  · repeat' (first | exact Below.refl _ _ | refine Below.drew ?_ | refine Below.drewN' ?_ | refine Below.setCell ?_ (by first | omega | (simp; done) | exact Below.size (by assumption) | (simp; omega)) _ | refine Below.alloc ?_ (by first | omega | (simp; done) | exact Below.size (by assumption) | (simp; omega)) _ | refine Below.trans ?_ (Below.mono (by assumption) ?_) | (first | omega | (simp; done) | exact Below.size (by assumption) | (simp; omega)))

set_option maxHeartbeats 400000 in
theorem rup_none (x y : Int) (hv : validB 0 x y = true) (w : World) :
    Calls Tryd.prog 22 #[.agg #[.int .i64 0, .int .i64 x, .int .i64 y]] w fun e w' => e = .returned (.tuple #[.agg #[.int .i64 0, .int .i64 0, .int .i64 0], .int .i64 11]) ∧ Below w.heap.size w w' := by
  have LV := Lib.hid hv
  clear hv
  go_enter Tryd.func22, Tryd.ntmps22
  go_wp2_with fail
  refine (rvalid_below _ _ _ _).mono ?_; rintro e w1 ⟨rfl, hb1⟩; rw [LV.out]
  have HA := row_later hb1 (row_past (row_new w _))
  have HR := row_later hb1 (row_new1 w _ _)
  have hs1 := hb1.size; simp at hs1
  have az := lt_of_block HA
  have a0 := cell_of_row w1 _ 0 _ _ _ HA
  have a1 := cell_of_row w1 _ 1 _ _ _ HA
  have a2 := cell_of_row w1 _ 2 _ _ _ HA
  simp only [List.getElem?_toArray, List.getElem?_cons_zero, List.getElem?_cons_succ] at a0 a1 a2
  have HA' := Lib.hid HA
  clear HA
  have rz := lt_of_block HR
  have r0 := cell_of_row w1 _ 0 _ _ _ HR
  have r1 := cell_of_row w1 _ 1 _ _ _ HR
  have r2 := cell_of_row w1 _ 2 _ _ _ HR
  have rf0 := frozen_of_row w1 _ 0 _ _ HR
  have rf1 := frozen_of_row w1 _ 1 _ _ HR
  have rf2 := frozen_of_row w1 _ 2 _ _ HR
  simp only [List.getElem?_toArray, List.getElem?_cons_zero, List.getElem?_cons_succ] at r0 r1 r2
  have HR' := Lib.hid HR
  clear HR
  go_wp2
  refine bodyPost_ret (v := .tuple #[.agg #[.int .i64 0, .int .i64 0, .int .i64 0], .int .i64 11]) ?_ rfl ⟨rfl, ?_⟩
  · simp [results, Tryd.results22, go_sem, r0, r1, r2]
  · repeat' (first | exact Below.refl _ _ | refine Below.drew ?_ | refine Below.drewN' ?_ | refine Below.setCell ?_ (by first | omega | (simp; done) | exact Below.size (by assumption) | (simp; omega)) _ | refine Below.alloc ?_ (by first | omega | (simp; done) | exact Below.size (by assumption) | (simp; omega)) _ | refine Below.trans ?_ (Below.mono (by assumption) ?_) | (first | omega | (simp; done) | exact Below.size (by assumption) | (simp; omega)))

set_option maxHeartbeats 400000 in
theorem rup_ok (z x y : Int) (hv : validB z x y = true) (h0 : 1 ≤ z) (h1 : z ≤ 17) (hx : 0 ≤ x ∧ x < 131072) (hy : 0 ≤ y ∧ y < 131072) (w : World) :
    Calls Tryd.prog 22 #[.agg #[.int .i64 z, .int .i64 x, .int .i64 y]] w fun e w' => e = .returned (.tuple #[.agg #[.int .i64 (z - 1), .int .i64 (x / 2), .int .i64 (y / 2)], .int .i64 0]) ∧ Below w.heap.size w w' := by
  have LV := Lib.hid hv
  clear hv
  have hz : (z == 0) = false := by simp; omega
  go_enter Tryd.func22, Tryd.ntmps22
  go_wp2_with fail
  refine (rvalid_below _ _ _ _).mono ?_; rintro e w1 ⟨rfl, hb1⟩; rw [LV.out]
  have HA := row_later hb1 (row_past (row_new w _))
  have HR := row_later hb1 (row_new1 w _ _)
  have hs1 := hb1.size; simp at hs1
  have az := lt_of_block HA
  have a0 := cell_of_row w1 _ 0 _ _ _ HA
  have a1 := cell_of_row w1 _ 1 _ _ _ HA
  have a2 := cell_of_row w1 _ 2 _ _ _ HA
  simp only [List.getElem?_toArray, List.getElem?_cons_zero, List.getElem?_cons_succ] at a0 a1 a2
  have HA' := Lib.hid HA
  clear HA
  have rz := lt_of_block HR
  have r0 := cell_of_row w1 _ 0 _ _ _ HR
  have r1 := cell_of_row w1 _ 1 _ _ _ HR
  have r2 := cell_of_row w1 _ 2 _ _ _ HR
  have rf0 := frozen_of_row w1 _ 0 _ _ HR
  have rf1 := frozen_of_row w1 _ 1 _ _ HR
  have rf2 := frozen_of_row w1 _ 2 _ _ HR
  simp only [List.getElem?_toArray, List.getElem?_cons_zero, List.getElem?_cons_succ] at r0 r1 r2
  have HR' := Lib.hid HR
  clear HR
  go_wp2
  refine bodyPost_ret (v := .tuple #[.agg #[.int .i64 (z - 1), .int .i64 (x / 2), .int .i64 (y / 2)], .int .i64 0]) ?_ rfl ⟨rfl, ?_⟩
  · simp [results, Tryd.results22, go_sem, r0, r1, r2]
  · repeat' (first | exact Below.refl _ _ | refine Below.drew ?_ | refine Below.drewN' ?_ | refine Below.setCell ?_ (by first | omega | (simp; done) | exact Below.size (by assumption) | (simp; omega)) _ | refine Below.alloc ?_ (by first | omega | (simp; done) | exact Below.size (by assumption) | (simp; omega)) _ | refine Below.trans ?_ (Below.mono (by assumption) ?_) | (first | omega | (simp; done) | exact Below.size (by assumption) | (simp; omega)))

theorem up_both (z x y : Int) : ∃ Z X Y E : Int,
    (∀ w, Calls Tryd.prog 15 #[.agg #[.int .i64 z, .int .i64 x, .int .i64 y]] w fun e w' => e = .returned (.tuple #[.agg #[.int .i64 Z, .int .i64 X, .int .i64 Y], .int .i64 E]) ∧ Below w.heap.size w w') ∧
    (∀ w, Calls Tryd.prog 22 #[.agg #[.int .i64 z, .int .i64 x, .int .i64 y]] w fun e w' => e = .returned (.tuple #[.agg #[.int .i64 Z, .int .i64 X, .int .i64 Y], .int .i64 E]) ∧ Below w.heap.size w w') := by
  cases hv : validB z x y
  · exact ⟨_, _, _, _, up_arg z x y hv, rup_arg z x y hv⟩
  · have hb := valid_bd hv
    by_cases h0 : z = 0
    · subst h0
      exact ⟨_, _, _, _, up_none x y hv, rup_none x y hv⟩
    · exact ⟨_, _, _, _, up_ok z x y hv (by omega) (by omega) (by omega) (by omega), rup_ok z x y hv (by omega) (by omega) (by omega) (by omega)⟩

set_option maxHeartbeats 400000 in
theorem rpixel_arg (z x y px py : Int) (hv : validB z x y = false) (w : World) :
    Calls Tryd.prog 26 #[.agg #[.int .i64 z, .int .i64 x, .int .i64 y], .agg #[.int .i64 px, .int .i64 py]] w fun e w' => e = .returned (.tuple #[.agg #[.int .i64 0, .int .i64 0], .int .i64 1]) ∧ Below w.heap.size w w' := by
  have HV := Lib.hid hv
  clear hv
  go_enter Tryd.func26, Tryd.ntmps26
  go_wp2_with fail
  refine (rbox_arg _ _ _ HV.out _).mono ?_; rintro e w1 ⟨rfl, hb1⟩
  have HR := row_later hb1 (row_new2 w _ _ _)
  have hs1 := hb1.size; simp at hs1
  have rz := lt_of_block HR
  have r0 := cell_of_row w1 _ 0 _ _ _ HR
  have r1 := cell_of_row w1 _ 1 _ _ _ HR
  have rf0 := frozen_of_row w1 _ 0 _ _ HR
  have rf1 := frozen_of_row w1 _ 1 _ _ HR
  simp only [List.getElem?_toArray, List.getElem?_cons_zero, List.getElem?_cons_succ] at r0 r1
  have HR' := Lib.hid HR
  clear HR
  go_wp2
  refine bodyPost_ret (v := .tuple #[.agg #[.int .i64 0, .int .i64 0], .int .i64 1]) ?_ rfl ⟨rfl, ?_⟩
  · simp [results, Tryd.results26, go_sem, rz, r0, r1]
  · repeat' (first | exact Below.refl _ _ | refine Below.drew ?_ | refine Below.drewN' ?_ | refine Below.setCell ?_ (by first | omega | (simp; done) | exact Below.size (by assumption) | (simp; omega)) _ | refine Below.alloc ?_ (by first | omega | (simp; done) | exact Below.size (by assumption) | (simp; omega)) _ | refine Below.trans ?_ (Below.mono (by assumption) ?_) | (first | omega | (simp; done) | exact Below.size (by assumption) | (simp; omega)))

theorem near_far (px py : Int) : nearB px py = (!farB px && !farB py) := by
  simp only [nearB, farB]
  rw [Bool.eq_iff_iff]
  simp
  omega


set_option maxHeartbeats 1000000 in
theorem rpixel_range (x y px py : Int) (k : Nat) (hk : k ≤ 17) (hx : 0 ≤ x ∧ x < 2 ^ k) (hy : 0 ≤ y ∧ y < 2 ^ k) (hn : nearB px py = false) (w : World) :
    Calls Tryd.prog 26 #[.agg #[.int .i64 k, .int .i64 x, .int .i64 y], .agg #[.int .i64 px, .int .i64 py]] w fun e w' => e = .returned (.tuple #[.agg #[.int .i64 0, .int .i64 0], .int .i64 10]) ∧ Below w.heap.size w w' := by
  rw [near_far] at hn
  cases hf : farB px
  · have hf2 : farB py = true := by rw [hf] at hn; simpa using hn
    have F1 := Lib.hid hf
    have F2 := Lib.hid hf2
    clear hn hf hf2
    go_enter Tryd.func26, Tryd.ntmps26
    go_wp2_with fail
    refine (rbox_ok _ _ _ hk hx hy _).mono ?_; rintro e w1 ⟨rfl, hb1⟩
    have HA := row_later hb1 (row_past (row_past (row_new w _)))
    have HP := row_later hb1 (row_past (row_new1 w _ _))
    have HR := row_later hb1 (row_new2 w _ _ _)
    have hs1 := hb1.size; simp at hs1
    have rz := lt_of_block HR
    have r0 := cell_of_row w1 _ 0 _ _ _ HR
    have r1 := cell_of_row w1 _ 1 _ _ _ HR
    have rf0 := frozen_of_row w1 _ 0 _ _ HR
    have rf1 := frozen_of_row w1 _ 1 _ _ HR
    simp only [List.getElem?_toArray, List.getElem?_cons_zero, List.getElem?_cons_succ] at r0 r1
    have HR' := Lib.hid HR
    clear HR
    have pz := lt_of_block HP
    have p0 := cell_of_row w1 _ 0 _ _ _ HP
    have p1 := cell_of_row w1 _ 1 _ _ _ HP
    simp only [List.getElem?_toArray, List.getElem?_cons_zero, List.getElem?_cons_succ] at p0 p1
    have HP' := Lib.hid HP
    clear HP
    have az := lt_of_block HA
    have a0 := cell_of_row w1 _ 0 _ _ _ HA
    have a1 := cell_of_row w1 _ 1 _ _ _ HA
    have a2 := cell_of_row w1 _ 2 _ _ _ HA
    simp only [List.getElem?_toArray, List.getElem?_cons_zero, List.getElem?_cons_succ] at a0 a1 a2
    have HA' := Lib.hid HA
    clear HA
    clear hx hy
    go_wp2_with fail
    refine (far_any _ _).mono ?_; rintro e w' ⟨rfl, rfl⟩
    rw [F1.out]
    go_wp2_with fail
    refine (far_any _ _).mono ?_; rintro e w' ⟨rfl, rfl⟩
    rw [F2.out]
    go_wp2
    refine bodyPost_ret (v := .tuple #[.agg #[.int .i64 0, .int .i64 0], .int .i64 10]) ?_ rfl ⟨rfl, ?_⟩
    · simp [results, Tryd.results26, go_sem, rz, r0, r1]
    · repeat' (first | exact Below.refl _ _ | refine Below.drew ?_ | refine Below.drewN' ?_ | refine Below.setCell ?_ (by first | omega | (simp; done) | exact Below.size (by assumption) | (simp; omega)) _ | refine Below.alloc ?_ (by first | omega | (simp; done) | exact Below.size (by assumption) | (simp; omega)) _ | refine Below.trans ?_ (Below.mono (by assumption) ?_) | (first | omega | (simp; done) | exact Below.size (by assumption) | (simp; omega)))
  · have F1 := Lib.hid hf
    clear hn hf
    go_enter Tryd.func26, Tryd.ntmps26
    go_wp2_with fail
    refine (rbox_ok _ _ _ hk hx hy _).mono ?_; rintro e w1 ⟨rfl, hb1⟩
    have HA := row_later hb1 (row_past (row_past (row_new w _)))
    have HP := row_later hb1 (row_past (row_new1 w _ _))
    have HR := row_later hb1 (row_new2 w _ _ _)
    have hs1 := hb1.size; simp at hs1
    have rz := lt_of_block HR
    have r0 := cell_of_row w1 _ 0 _ _ _ HR
    have r1 := cell_of_row w1 _ 1 _ _ _ HR
    have rf0 := frozen_of_row w1 _ 0 _ _ HR
    have rf1 := frozen_of_row w1 _ 1 _ _ HR
    simp only [List.getElem?_toArray, List.getElem?_cons_zero, List.getElem?_cons_succ] at r0 r1
    have HR' := Lib.hid HR
    clear HR
    have pz := lt_of_block HP
    have p0 := cell_of_row w1 _ 0 _ _ _ HP
    have p1 := cell_of_row w1 _ 1 _ _ _ HP
    simp only [List.getElem?_toArray, List.getElem?_cons_zero, List.getElem?_cons_succ] at p0 p1
    have HP' := Lib.hid HP
    clear HP
    have az := lt_of_block HA
    have a0 := cell_of_row w1 _ 0 _ _ _ HA
    have a1 := cell_of_row w1 _ 1 _ _ _ HA
    have a2 := cell_of_row w1 _ 2 _ _ _ HA
    simp only [List.getElem?_toArray, List.getElem?_cons_zero, List.getElem?_cons_succ] at a0 a1 a2
    have HA' := Lib.hid HA
    clear HA
    clear hx hy
    go_wp2_with fail
    refine (far_any _ _).mono ?_; rintro e w' ⟨rfl, rfl⟩
    rw [F1.out]
    go_wp2
    refine bodyPost_ret (v := .tuple #[.agg #[.int .i64 0, .int .i64 0], .int .i64 10]) ?_ rfl ⟨rfl, ?_⟩
    · simp [results, Tryd.results26, go_sem, rz, r0, r1]
    · repeat' (first | exact Below.refl _ _ | refine Below.drew ?_ | refine Below.drewN' ?_ | refine Below.setCell ?_ (by first | omega | (simp; done) | exact Below.size (by assumption) | (simp; omega)) _ | refine Below.alloc ?_ (by first | omega | (simp; done) | exact Below.size (by assumption) | (simp; omega)) _ | refine Below.trans ?_ (Below.mono (by assumption) ?_) | (first | omega | (simp; done) | exact Below.size (by assumption) | (simp; omega)))

theorem side_two (k : Nat) (h : k ≤ 17) : (2 : Int) ^ (20 - k) = side k := by
  have : ∀ z : Fin 18, (2 : Int) ^ (20 - z.val) = side z.val := by decide
  exact this ⟨k, by omega⟩
theorem rfloor_still (n m b : Int) (e : m = n) (hn : -1073741824 ≤ n ∧ n ≤ 1073741824) (hb : 1 ≤ b ∧ b ≤ 1048576) (w : World) :
    Calls Tryd.prog 44 #[.int .i64 m, .int .i64 b] w fun e w' => e = .returned (.int .i64 (n / b)) ∧ w' = w := by
  subst e
  exact (floor_any _ b hn hb w).mono fun _ _ h => ⟨h.1, h.2.symm⟩

set_option maxRecDepth 100000 in
set_option maxHeartbeats 1000000 in
theorem rpixel_ok (x y px py : Int) (k : Nat) (hk : k ≤ 17) (hx : 0 ≤ x ∧ x < 2 ^ k) (hy : 0 ≤ y ∧ y < 2 ^ k) (hn : nearB px py = true) (w : World) :
    Calls Tryd.prog 26 #[.agg #[.int .i64 k, .int .i64 x, .int .i64 y], .agg #[.int .i64 px, .int .i64 py]] w fun e w' => e = .returned (.tuple #[.agg #[.int .i64 ((px - x * side k) * 256 / 2 ^ (20 - k)), .int .i64 ((py - y * side k) * 256 / 2 ^ (20 - k))], .int .i64 0]) ∧ Below w.heap.size w w' := by
  rw [side_two k hk]
  have hn' := hn
  rw [near_far] at hn'
  simp only [nearB, decide_eq_true_eq] at hn
  obtain ⟨hn1, hn2, hn3, hn4⟩ := hn
  have F1 := Lib.hid (show farB px = false by simp at hn'; exact hn'.1)
  have F2 := Lib.hid (show farB py = false by simp at hn'; exact hn'.2)
  clear hn'
  have hb := side_bd k hk
  have hmx := mul_side k hk x hx.1 hx.2
  have hmy := mul_side k hk y hy.1 hy.2
  go_enter Tryd.func26, Tryd.ntmps26
  go_wp2_with fail
  refine (rbox_ok _ _ _ hk hx hy _).mono ?_; rintro e w1 ⟨rfl, hb1⟩
  have HA := row_later hb1 (row_past (row_past (row_new w _)))
  have HP := row_later hb1 (row_past (row_new1 w _ _))
  have HR := row_later hb1 (row_new2 w _ _ _)
  have hs1 := hb1.size; simp at hs1
  have rz := lt_of_block HR
  have r0 := cell_of_row w1 _ 0 _ _ _ HR
  have r1 := cell_of_row w1 _ 1 _ _ _ HR
  have rf0 := frozen_of_row w1 _ 0 _ _ HR
  have rf1 := frozen_of_row w1 _ 1 _ _ HR
  simp only [List.getElem?_toArray, List.getElem?_cons_zero, List.getElem?_cons_succ] at r0 r1
  have HR' := Lib.hid HR
  clear HR
  have pz := lt_of_block HP
  have p0 := cell_of_row w1 _ 0 _ _ _ HP
  have p1 := cell_of_row w1 _ 1 _ _ _ HP
  simp only [List.getElem?_toArray, List.getElem?_cons_zero, List.getElem?_cons_succ] at p0 p1
  have HP' := Lib.hid HP
  clear HP
  have az := lt_of_block HA
  have a0 := cell_of_row w1 _ 0 _ _ _ HA
  have a1 := cell_of_row w1 _ 1 _ _ _ HA
  have a2 := cell_of_row w1 _ 2 _ _ _ HA
  simp only [List.getElem?_toArray, List.getElem?_cons_zero, List.getElem?_cons_succ] at a0 a1 a2
  have HA' := Lib.hid HA
  clear HA
  clear hx hy
  go_wp2_with fail
  refine (far_any _ _).mono ?_; rintro e w' ⟨rfl, rfl⟩
  rw [F1.out]
  go_wp2_with fail
  refine (far_any _ _).mono ?_; rintro e w' ⟨rfl, rfl⟩
  rw [F2.out]
  go_wp2_with fail
  refine (rside_still k hk _).mono ?_; rintro e w' ⟨rfl, rfl⟩
  go_wp2_with fail
  have hw1 : IntKind.i64.wrap (px - x * side k) = px - x * side k := IntWalk.i64_in _ (by omega)
  have hw2 : IntKind.i64.wrap (py - y * side k) = py - y * side k := IntWalk.i64_in _ (by omega)
  have hw3 : IntKind.i64.wrap ((px - x * side k) * 256) = (px - x * side k) * 256 := IntWalk.i64_in _ (by omega)
  have hw4 : IntKind.i64.wrap ((py - y * side k) * 256) = (py - y * side k) * 256 := IntWalk.i64_in _ (by omega)
  refine wp_region_still_tail 19 (by kernel_rfl) (by kernel_rfl) ?_
  generalize hW : World.mk _ _ _ _ _ = w3
  have hW3 : w3 = (w1.alloc _).drew := hW.symm
  clear hW
  have hb3 : Below w1.heap.size w1 w3 := by rw [hW3]; exact ((Below.refl _ _).alloc (Nat.le_refl _) _).drew
  have hs3 : w1.heap.size + 1 ≤ w3.heap.size := by rw [hW3]; simp [go_sem]
  have HB := (congrArg (fun u : World => u.heap[w1.heap.size]?) hW3).trans (row_drew (row_new w1 _))
  have HA := row_later hb3 HA'.out
  have HP := row_later hb3 HP'.out
  have HR := row_later hb3 HR'.out
  clear hW3 HA' HP' HR' a0 a1 a2 p0 p1 r0 r1 rf0 rf1
  have rz := lt_of_block HR
  have r0 := cell_of_row w3 _ 0 _ _ _ HR
  have r1 := cell_of_row w3 _ 1 _ _ _ HR
  have rf0 := frozen_of_row w3 _ 0 _ _ HR
  have rf1 := frozen_of_row w3 _ 1 _ _ HR
  simp only [List.getElem?_toArray, List.getElem?_cons_zero, List.getElem?_cons_succ] at r0 r1
  have HR' := Lib.hid HR
  clear HR
  have pz := lt_of_block HP
  have p0 := cell_of_row w3 _ 0 _ _ _ HP
  have p1 := cell_of_row w3 _ 1 _ _ _ HP
  simp only [List.getElem?_toArray, List.getElem?_cons_zero, List.getElem?_cons_succ] at p0 p1
  have HP' := Lib.hid HP
  clear HP
  have az := lt_of_block HA
  have a0 := cell_of_row w3 _ 0 _ _ _ HA
  have a1 := cell_of_row w3 _ 1 _ _ _ HA
  have a2 := cell_of_row w3 _ 2 _ _ _ HA
  simp only [List.getElem?_toArray, List.getElem?_cons_zero, List.getElem?_cons_succ] at a0 a1 a2
  have HA' := Lib.hid HA
  clear HA
  have bz := lt_of_block HB
  have b0 := cell_of_row w3 _ 0 _ _ _ HB
  have b1 := cell_of_row w3 _ 1 _ _ _ HB
  have b2 := cell_of_row w3 _ 2 _ _ _ HB
  have b3 := cell_of_row w3 _ 3 _ _ _ HB
  simp only [List.getElem?_toArray, List.getElem?_cons_zero, List.getElem?_cons_succ] at b0 b1 b2 b3
  have HB' := Lib.hid HB
  clear HB
  simp only [List.take_succ_cons, List.take_zero, List.drop_succ_cons, List.drop_zero]
  repeat still_step
  still_call (rfloor_still _ _ _ rfl ⟨by omega, by omega⟩ ⟨by omega, by omega⟩ _)
  repeat still_step
  still_call (rfloor_still _ _ _ rfl ⟨by omega, by omega⟩ ⟨by omega, by omega⟩ _)
  repeat still_step
  refine wpStill_nil ?_
  go_wp2
  refine bodyPost_ret (v := .tuple #[.agg #[.int .i64 ((px - x * side k) * 256 / side k), .int .i64 ((py - y * side k) * 256 / side k)], .int .i64 0]) ?_ rfl ⟨rfl, ?_⟩
  · simp [results, Tryd.results26, go_sem, r0, r1]
  · repeat' (first | exact Below.refl _ _ | refine Below.drew ?_ | refine Below.drewN' ?_ | refine Below.setCell ?_ (by first | omega | (simp; done) | exact Below.size (by assumption) | (simp; omega)) _ | refine Below.alloc ?_ (by first | omega | (simp; done) | exact Below.size (by assumption) | (simp; omega)) _ | refine Below.trans ?_ (Below.mono (by assumption) ?_) | (first | omega | (simp; done) | exact Below.size (by assumption) | (simp; omega)))

theorem pixel_both (z x y px py : Int) : ∃ X Y E : Int,
    (∀ w, Calls Tryd.prog 16 #[.agg #[.int .i64 z, .int .i64 x, .int .i64 y], .agg #[.int .i64 px, .int .i64 py]] w fun e w' => e = .returned (.tuple #[.agg #[.int .i64 X, .int .i64 Y], .int .i64 E]) ∧ Below w.heap.size w w') ∧
    (∀ w, Calls Tryd.prog 26 #[.agg #[.int .i64 z, .int .i64 x, .int .i64 y], .agg #[.int .i64 px, .int .i64 py]] w fun e w' => e = .returned (.tuple #[.agg #[.int .i64 X, .int .i64 Y], .int .i64 E]) ∧ Below w.heap.size w w') := by
  cases hv : validB z x y
  · exact ⟨_, _, _, pixel_arg z x y px py hv, rpixel_arg z x y px py hv⟩
  · have hb := valid_bd hv
    obtain ⟨k, rfl⟩ : ∃ k : Nat, z = k := ⟨z.toNat, by omega⟩
    have hp := valid_pow k hv
    cases hn : nearB px py
    · exact ⟨_, _, _, pixel_range x y px py k (by omega) hp.1 hp.2 hn, rpixel_range x y px py k (by omega) hp.1 hp.2 hn⟩
    · exact ⟨_, _, _, pixel_ok x y px py k (by omega) hp.1 hp.2 hn, rpixel_ok x y px py k (by omega) hp.1 hp.2 hn⟩
end Go.Proofs.YtnilofeakdibhaaDoor
