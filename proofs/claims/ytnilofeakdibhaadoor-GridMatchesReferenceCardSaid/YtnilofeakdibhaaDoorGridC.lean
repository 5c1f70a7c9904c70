/- Contracts of package grid: Box's error, Up; and of the law's has and half. -/
import Derived.Test.YtnilofeakdibhaaDoorGridB
namespace Go.Proofs.YtnilofeakdibhaaDoor
open Go.RowKit

set_option maxHeartbeats 400000 in
theorem box_arg (z x y : Int) (hv : validB z x y = false) (w : World) :
    Calls Tryd.prog 12 #[.agg #[.int .i64 z, .int .i64 x, .int .i64 y]] w fun e w' => e = .returned (.tuple #[.agg #[.int .i64 0, .int .i64 0, .int .i64 0, .int .i64 0], .int .i64 1]) ∧ Below w.heap.size w w' := by
  have LV := Lib.hid hv
  clear hv
  go_enter Tryd.func12, Tryd.ntmps12
  go_wp2_with fail
  refine (valid_below _ _ _ _).mono ?_; rintro e w1 ⟨rfl, hb1⟩; rw [LV.out]
  have HR := row_later hb1 (row_new1 w _ _)
  have hs1 := hb1.size; simp at hs1
  have rz := lt_of_block HR
  have r0 := cell_of_row w1 _ 0 _ _ _ HR
  have r1 := cell_of_row w1 _ 1 _ _ _ HR
  have r2 := cell_of_row w1 _ 2 _ _ _ HR
  have r3 := cell_of_row w1 _ 3 _ _ _ HR
  have rf0 := frozen_of_row w1 _ 0 _ _ HR
  have rf1 := frozen_of_row w1 _ 1 _ _ HR
  have rf2 := frozen_of_row w1 _ 2 _ _ HR
  have rf3 := frozen_of_row w1 _ 3 _ _ HR
  simp only [List.getElem?_toArray, List.getElem?_cons_zero, List.getElem?_cons_succ] at r0 r1 r2 r3
  have HR' := Lib.hid HR
  clear HR
  go_wp2
  refine bodyPost_ret (v := .tuple #[.agg #[.int .i64 0, .int .i64 0, .int .i64 0, .int .i64 0], .int .i64 1]) ?_ rfl ⟨rfl, ?_⟩
  · simp [results, Tryd.results12, go_sem, r0, r1, r2, r3]
  · repeat' (first | exact Below.refl _ _ | refine Below.drew ?_ | refine Below.drewN' ?_ | refine Below.setCell ?_ (by first | omega | (simp; done) | exact Below.size (by assumption) | (simp; omega)) _ | refine Below.alloc ?_ (by first | omega | (simp; done) | exact Below.size (by assumption) | (simp; omega)) _ | refine Below.trans ?_ (Below.mono (by assumption) ?_) | (first | omega | (simp; done) | exact Below.size (by assumption) | (simp; omega)))

set_option maxHeartbeats 400000 in
theorem up_arg (z x y : Int) (hv : validB z x y = false) (w : World) :
    Calls Tryd.prog 15 #[.agg #[.int .i64 z, .int .i64 x, .int .i64 y]] w fun e w' => e = .returned (.tuple #[.agg #[.int .i64 0, .int .i64 0, .int .i64 0], .int .i64 1]) ∧ Below w.heap.size w w' := by
  have LV := Lib.hid hv
  clear hv
  go_enter Tryd.func15, Tryd.ntmps15
  go_wp2_with fail
  refine (valid_below _ _ _ _).mono ?_; rintro e w1 ⟨rfl, hb1⟩; rw [LV.out]
  have HR := row_later hb1 (row_new1 w _ _)
  have hs1 := hb1.size; simp at hs1
  have rz := lt_of_block HR
  have r0 := cell_of_row w1 _ 0 _ _ _ HR
  have r1 := cell_of_row w1 _ 1 _ _ _ HR
  have r2 := cell_of_row w1 _ 2 _ _ _ HR
  have rf0 := frozen_of_row w1 _ 0 _ _ HR
  have rf1 := frozen_of_row w1 _ 1 _ _ HR
  have rf2 := frozen_of_row w1 _ 2 _ _ HR
  simp only [List.getElem?_toArray, List.getElem?_cons_zero, List.getElem?_cons_succ] at r0 r1 r2
  have HR' := Lib.hid HR
  clear HR
  go_wp2
  refine bodyPost_ret (v := .tuple #[.agg #[.int .i64 0, .int .i64 0, .int .i64 0], .int .i64 1]) ?_ rfl ⟨rfl, ?_⟩
  · simp [results, Tryd.results15, go_sem, r0, r1, r2]
  · repeat' (first | exact Below.refl _ _ | refine Below.drew ?_ | refine Below.drewN' ?_ | refine Below.setCell ?_ (by first | omega | (simp; done) | exact Below.size (by assumption) | (simp; omega)) _ | refine Below.alloc ?_ (by first | omega | (simp; done) | exact Below.size (by assumption) | (simp; omega)) _ | refine Below.trans ?_ (Below.mono (by assumption) ?_) | (first | omega | (simp; done) | exact Below.size (by assumption) | (simp; omega)))

set_option maxHeartbeats 400000 in
theorem up_none (x y : Int) (hv : validB 0 x y = true) (w : World) :
    Calls Tryd.prog 15 #[.agg #[.int .i64 0, .int .i64 x, .int .i64 y]] w fun e w' => e = .returned (.tuple #[.agg #[.int .i64 0, .int .i64 0, .int .i64 0], .int .i64 11]) ∧ Below w.heap.size w w' := by
  have LV := Lib.hid hv
  clear hv
  go_enter Tryd.func15, Tryd.ntmps15
  go_wp2_with fail
  refine (valid_below _ _ _ _).mono ?_; rintro e w1 ⟨rfl, hb1⟩; rw [LV.out]
  have HA := row_later hb1 (row_past (row_new w _))
  have HR := row_later hb1 (row_new1 w _ _)
  have hs1 := hb1.size; simp at hs1
  have az := lt_of_block HA
  have a0 := cell_of_row w1 _ 0 _ _ _ HA
  have a1 := cell_of_row w1 _ 1 _ _ _ HA
  have a2 := cell_of_row w1 _ 2 _ _ _ HA
  simp only [List.getElem?_toArray, List.getElem?_cons_zero, List.getElem?_cons_succ] at a0 a1 a2
  have HA' := Lib.hid HA
  clear HA
  have rz := lt_of_block HR
  have r0 := cell_of_row w1 _ 0 _ _ _ HR
  have r1 := cell_of_row w1 _ 1 _ _ _ HR
  have r2 := cell_of_row w1 _ 2 _ _ _ HR
  have rf0 := frozen_of_row w1 _ 0 _ _ HR
  have rf1 := frozen_of_row w1 _ 1 _ _ HR
  have rf2 := frozen_of_row w1 _ 2 _ _ HR
  simp only [List.getElem?_toArray, List.getElem?_cons_zero, List.getElem?_cons_succ] at r0 r1 r2
  have HR' := Lib.hid HR
  clear HR
  go_wp2
  refine bodyPost_ret (v := .tuple #[.agg #[.int .i64 0, .int .i64 0, .int .i64 0], .int .i64 11]) ?_ rfl ⟨rfl, ?_⟩
  · simp [results, Tryd.results15, go_sem, r0, r1, r2]
  · repeat' (first | exact Below.refl _ _ | refine Below.drew ?_ | refine Below.drewN' ?_ | refine Below.setCell ?_ (by first | omega | (simp; done) | exact Below.size (by assumption) | (simp; omega)) _ | refine Below.alloc ?_ (by first | omega | (simp; done) | exact Below.size (by assumption) | (simp; omega)) _ | refine Below.trans ?_ (Below.mono (by assumption) ?_) | (first | omega | (simp; done) | exact Below.size (by assumption) | (simp; omega)))

set_option maxHeartbeats 400000 in
theorem up_ok (z x y : Int) (hv : validB z x y = true) (h0 : 1 ≤ z) (h1 : z ≤ 17) (hx : 0 ≤ x ∧ x < 131072) (hy : 0 ≤ y ∧ y < 131072) (w : World) :
    Calls Tryd.prog 15 #[.agg #[.int .i64 z, .int .i64 x, .int .i64 y]] w fun e w' => e = .returned (.tuple #[.agg #[.int .i64 (z - 1), .int .i64 (x / 2), .int .i64 (y / 2)], .int .i64 0]) ∧ Below w.heap.size w w' := by
  have LV := Lib.hid hv
  clear hv
  have hz : (z == 0) = false := by simp; omega
  go_enter Tryd.func15, Tryd.ntmps15
  go_wp2_with fail
  refine (valid_below _ _ _ _).mono ?_; rintro e w1 ⟨rfl, hb1⟩; rw [LV.out]
  have HA := row_later hb1 (row_past (row_new w _))
  have HR := row_later hb1 (row_new1 w _ _)
  have hs1 := hb1.size; simp at hs1
  have az := lt_of_block HA
  have a0 := cell_of_row w1 _ 0 _ _ _ HA
  have a1 := cell_of_row w1 _ 1 _ _ _ HA
  have a2 := cell_of_row w1 _ 2 _ _ _ HA
  simp only [List.getElem?_toArray, List.getElem?_cons_zero, List.getElem?_cons_succ] at a0 a1 a2
  have HA' := Lib.hid HA
  clear HA
  have rz := lt_of_block HR
  have r0 := cell_of_row w1 _ 0 _ _ _ HR
  have r1 := cell_of_row w1 _ 1 _ _ _ HR
  have r2 := cell_of_row w1 _ 2 _ _ _ HR
  have rf0 := frozen_of_row w1 _ 0 _ _ HR
  have rf1 := frozen_of_row w1 _ 1 _ _ HR
  have rf2 := frozen_of_row w1 _ 2 _ _ HR
  simp only [List.getElem?_toArray, List.getElem?_cons_zero, List.getElem?_cons_succ] at r0 r1 r2
  have HR' := Lib.hid HR
  clear HR
  go_wp2
  refine bodyPost_ret (v := .tuple #[.agg #[.int .i64 (z - 1), .int .i64 (x / 2), .int .i64 (y / 2)], .int .i64 0]) ?_ rfl ⟨rfl, ?_⟩
  · simp [results, Tryd.results15, go_sem, r0, r1, r2]
  · repeat' (first | exact Below.refl _ _ | refine Below.drew ?_ | refine Below.drewN' ?_ | refine Below.setCell ?_ (by first | omega | (simp; done) | exact Below.size (by assumption) | (simp; omega)) _ | refine Below.alloc ?_ (by first | omega | (simp; done) | exact Below.size (by assumption) | (simp; omega)) _ | refine Below.trans ?_ (Below.mono (by assumption) ?_) | (first | omega | (simp; done) | exact Below.size (by assumption) | (simp; omega)))

def hasB (a b c d x y : Int) : Bool := decide (a ≤ x ∧ x ≤ c ∧ b ≤ y ∧ y ≤ d)
set_option maxHeartbeats 1000000 in
theorem has_any (a b c d x y : Int) (w : World) :
    Calls Tryd.prog 14 #[.agg #[.int .i64 a, .int .i64 b, .int .i64 c, .int .i64 d], .agg #[.int .i64 x, .int .i64 y]] w fun e w' => e = .returned (.bool (hasB a b c d x y)) ∧ Below w.heap.size w w' := by
  go_enter Tryd.func14, Tryd.ntmps14
  by_cases h1 : a ≤ x
  · by_cases h2 : x ≤ c
    · by_cases h3 : b ≤ y
      · go_wp2
        go_ret
        refine ⟨ret_bool (by simp only [hasB]; rw [decide_eq_decide]; omega), ?_⟩
        repeat' (first | exact Below.refl _ _ | refine Below.drew ?_ | refine Below.drewN' ?_ | refine Below.setCell ?_ (by first | omega | (simp; done) | exact Below.size (by assumption) | (simp; omega)) _ | refine Below.alloc ?_ (by first | omega | (simp; done) | exact Below.size (by assumption) | (simp; omega)) _ | refine Below.trans ?_ (Below.mono (by assumption) ?_) | (first | omega | (simp; done) | exact Below.size (by assumption) | (simp; omega)))
      · go_wp2
        go_ret
        refine ⟨ret_bool (by simp only [hasB]; symm; rw [decide_eq_false_iff_not]; omega), ?_⟩
        repeat' (first | exact Below.refl _ _ | refine Below.drew ?_ | refine Below.drewN' ?_ | refine Below.setCell ?_ (by first | omega | (simp; done) | exact Below.size (by assumption) | (simp; omega)) _ | refine Below.alloc ?_ (by first | omega | (simp; done) | exact Below.size (by assumption) | (simp; omega)) _ | refine Below.trans ?_ (Below.mono (by assumption) ?_) | (first | omega | (simp; done) | exact Below.size (by assumption) | (simp; omega)))
    · go_wp2
      go_ret
      refine ⟨ret_bool (by simp only [hasB]; symm; rw [decide_eq_false_iff_not]; omega), ?_⟩
      repeat' (first | exact Below.refl _ _ | refine Below.drew ?_ | refine Below.drewN' ?_ | refine Below.setCell ?_ (by first | omega | (simp; done) | exact Below.size (by assumption) | (simp; omega)) _ | refine Below.alloc ?_ (by first | omega | (simp; done) | exact Below.size (by assumption) | (simp; omega)) _ | refine Below.trans ?_ (Below.mono (by assumption) ?_) | (first | omega | (simp; done) | exact Below.size (by assumption) | (simp; omega)))
  · go_wp2
    go_ret
    refine ⟨ret_bool (by simp only [hasB]; symm; rw [decide_eq_false_iff_not]; omega), ?_⟩
    repeat' (first | exact Below.refl _ _ | refine Below.drew ?_ | refine Below.drewN' ?_ | refine Below.setCell ?_ (by first | omega | (simp; done) | exact Below.size (by assumption) | (simp; omega)) _ | refine Below.alloc ?_ (by first | omega | (simp; done) | exact Below.size (by assumption) | (simp; omega)) _ | refine Below.trans ?_ (Below.mono (by assumption) ?_) | (first | omega | (simp; done) | exact Below.size (by assumption) | (simp; omega)))

theorem half_any (n : Int) (w : World) :
    Calls Tryd.prog 17 #[.int .i64 n] w fun e w' => e = .returned (.int .i64 (n / 2)) ∧ w = w' := by
  go_enter Tryd.func17, Tryd.ntmps17
  go_wp2
  go_ret
  exact ⟨ret_int rfl, rfl⟩
end Go.Proofs.YtnilofeakdibhaaDoor
