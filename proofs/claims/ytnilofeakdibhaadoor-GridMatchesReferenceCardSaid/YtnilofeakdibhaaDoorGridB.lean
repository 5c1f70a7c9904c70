/- Contracts of package grid: Of, Box, Up, Pixel. -/
import Derived.Test.YtnilofeakdibhaaDoorGridA
namespace Go.Proofs.YtnilofeakdibhaaDoor
open Go.RowKit

theorem side_bd (k : Nat) (h : k ≤ 17) : 8 ≤ side k ∧ side k ≤ 1048576 := by
  have : ∀ z : Fin 18, 8 ≤ side z.val ∧ side z.val ≤ 1048576 := by decide
  exact this ⟨k, by omega⟩
theorem tab_at (k : Nat) (h : k ≤ 17) : sidesA[k]? = some (.int .i64 (side k)) := by simp [sidesA, tab, show k < 18 by omega]

theorem index_sides (k : Nat) (hk : k ≤ 17) (w : World) : (Instr.index 62 (.agg sidesA) (.int .i64 k)).run Tryd.prog w = .ok (.int .i64 (side k)) w := by
  simp only [Instr.index, asIntOf, Sem.run_bind, Sem.run_pure, Result.andThen_ok, run_underlying Tryd.underlying62]
  rw [if_pos (by omega)]
  simp [part, go_sem, tab_at k hk]
def tile (z x y : Int) : Value := .agg #[.int .i64 z, .int .i64 x, .int .i64 y]
def point (x y : Int) : Value := .agg #[.int .i64 x, .int .i64 y]

set_option maxHeartbeats 400000 in
theorem of_ok (x y : Int) (k : Nat) (hk : k ≤ 17) (hi : 0 ≤ x ∧ 0 ≤ y ∧ x < 1048576 ∧ y < 1048576) (w : World) :
    Calls Tryd.prog 13 #[.agg #[.int .i64 x, .int .i64 y], .int .i64 k] w fun e w' => e = .returned (.tuple #[.agg #[.int .i64 k, .int .i64 (x / side k), .int .i64 (y / side k)], .int .i64 0]) ∧ Below w.heap.size w w' := by
  have LV := Lib.hid (show levelB k = true by simp only [levelB]; rw [decide_eq_true_eq]; omega)
  have HN := Lib.hid (show insideB x y = true by simp only [insideB]; rw [decide_eq_true_eq]; omega)
  have hb := side_bd k hk
  have hx := index_sides k hk
  go_enter Tryd.func13, Tryd.ntmps13
  go_wp2_with fail
  refine (level_any _ _).mono ?_; rintro e w' ⟨rfl, rfl⟩; rw [LV.out]
  go_wp2_with fail
  refine (inside_any _ _ _).mono ?_; rintro e w1 ⟨rfl, hb1⟩; rw [HN.out]
  go_wp2_with fail
  refine (sides_any _).mono ?_; rintro e w2 ⟨rfl, hb2⟩
  have HA := row_later hb2 (row_later hb1 (row_past (row_new w _)))
  have HR := row_later hb2 (row_later hb1 (row_new1 w _ _))
  have hs1 := hb1.size; simp at hs1
  have hs2 := hb2.size
  have az := lt_of_block HA
  have a0 := cell_of_row w2 _ 0 _ _ _ HA
  have a1 := cell_of_row w2 _ 1 _ _ _ HA
  simp only [List.getElem?_toArray, List.getElem?_cons_zero, List.getElem?_cons_succ] at a0 a1
  have HA' := Lib.hid HA
  clear HA
  have rz := lt_of_block HR
  have r0 := cell_of_row w2 _ 0 _ _ _ HR
  have r1 := cell_of_row w2 _ 1 _ _ _ HR
  have r2 := cell_of_row w2 _ 2 _ _ _ HR
  have rf0 := frozen_of_row w2 _ 0 _ _ HR
  have rf1 := frozen_of_row w2 _ 1 _ _ HR
  have rf2 := frozen_of_row w2 _ 2 _ _ HR
  simp only [List.getElem?_toArray, List.getElem?_cons_zero, List.getElem?_cons_succ] at r0 r1 r2
  have HR' := Lib.hid HR
  clear HR
  go_wp2_with fail
  go_region
  go_wp2
  refine bodyPost_ret (v := .tuple #[.agg #[.int .i64 k, .int .i64 (x / side k), .int .i64 (y / side k)], .int .i64 0]) ?_ rfl ⟨rfl, ?_⟩
  · simp [results, Tryd.results13, go_sem, r0, r1, r2]
  · repeat' (first | exact Below.refl _ _ | refine Below.drew ?_ | refine Below.drewN' ?_ | refine Below.setCell ?_ (by first | omega | (simp; done) | exact Below.size (by assumption) | (simp; omega)) _ | refine Below.alloc ?_ (by first | omega | (simp; done) | exact Below.size (by assumption) | (simp; omega)) _ | refine Below.trans ?_ (Below.mono (by assumption) ?_) | (first | omega | (simp; done) | exact Below.size (by assumption) | (simp; omega)))

set_option maxHeartbeats 400000 in
theorem of_arg (x y z : Int) (hz : ¬ (0 ≤ z ∧ z ≤ 17)) (w : World) :
    Calls Tryd.prog 13 #[.agg #[.int .i64 x, .int .i64 y], .int .i64 z] w fun e w' => e = .returned (.tuple #[.agg #[.int .i64 0, .int .i64 0, .int .i64 0], .int .i64 1]) ∧ Below w.heap.size w w' := by
  have LV := Lib.hid (show levelB z = false by simp only [levelB]; rw [decide_eq_false_iff_not]; omega)
  clear hz
  go_enter Tryd.func13, Tryd.ntmps13
  go_wp2_with fail
  refine (level_any _ _).mono ?_; rintro e w' ⟨rfl, rfl⟩; rw [LV.out]
  go_wp2
  refine bodyPost_ret (v := .tuple #[.agg #[.int .i64 0, .int .i64 0, .int .i64 0], .int .i64 1]) ?_ rfl ⟨rfl, ?_⟩
  · simp [results, Tryd.results13, go_sem]
  · repeat' (first | exact Below.refl _ _ | refine Below.drew ?_ | refine Below.drewN' ?_ | refine Below.setCell ?_ (by first | omega | (simp; done) | exact Below.size (by assumption) | (simp; omega)) _ | refine Below.alloc ?_ (by first | omega | (simp; done) | exact Below.size (by assumption) | (simp; omega)) _ | refine Below.trans ?_ (Below.mono (by assumption) ?_) | (first | omega | (simp; done) | exact Below.size (by assumption) | (simp; omega)))

set_option maxHeartbeats 400000 in
theorem of_range (x y z : Int) (hz : 0 ≤ z ∧ z ≤ 17) (hi : ¬ (0 ≤ x ∧ 0 ≤ y ∧ x < 1048576 ∧ y < 1048576)) (w : World) :
    Calls Tryd.prog 13 #[.agg #[.int .i64 x, .int .i64 y], .int .i64 z] w fun e w' => e = .returned (.tuple #[.agg #[.int .i64 0, .int .i64 0, .int .i64 0], .int .i64 10]) ∧ Below w.heap.size w w' := by
  have LV := Lib.hid (show levelB z = true by simp only [levelB]; rw [decide_eq_true_eq]; omega)
  have HN := Lib.hid (show insideB x y = false by simp only [insideB]; rw [decide_eq_false_iff_not]; omega)
  clear hz hi
  go_enter Tryd.func13, Tryd.ntmps13
  go_wp2_with fail
  refine (level_any _ _).mono ?_; rintro e w' ⟨rfl, rfl⟩; rw [LV.out]
  go_wp2_with fail
  refine (inside_any _ _ _).mono ?_; rintro e w1 ⟨rfl, hb1⟩; rw [HN.out]
  have HR := row_later hb1 (row_new1 w _ _)
  have hs1 := hb1.size; simp at hs1
  have rz := lt_of_block HR
  have r0 := cell_of_row w1 _ 0 _ _ _ HR
  have r1 := cell_of_row w1 _ 1 _ _ _ HR
  have r2 := cell_of_row w1 _ 2 _ _ _ HR
  have rf0 := frozen_of_row w1 _ 0 _ _ HR
  have rf1 := frozen_of_row w1 _ 1 _ _ HR
  have rf2 := frozen_of_row w1 _ 2 _ _ HR
  simp only [List.getElem?_toArray, List.getElem?_cons_zero, List.getElem?_cons_succ] at r0 r1 r2
  have HR' := Lib.hid HR
  clear HR
  go_wp2
  refine bodyPost_ret (v := .tuple #[.agg #[.int .i64 0, .int .i64 0, .int .i64 0], .int .i64 10]) ?_ rfl ⟨rfl, ?_⟩
  · simp [results, Tryd.results13, go_sem, r0, r1, r2]
  · repeat' (first | exact Below.refl _ _ | refine Below.drew ?_ | refine Below.drewN' ?_ | refine Below.setCell ?_ (by first | omega | (simp; done) | exact Below.size (by assumption) | (simp; omega)) _ | refine Below.alloc ?_ (by first | omega | (simp; done) | exact Below.size (by assumption) | (simp; omega)) _ | refine Below.trans ?_ (Below.mono (by assumption) ?_) | (first | omega | (simp; done) | exact Below.size (by assumption) | (simp; omega)))

theorem valid_below (z x y : Int) (w : World) :
    Calls Tryd.prog 29 #[.agg #[.int .i64 z, .int .i64 x, .int .i64 y]] w fun e w' => e = .returned (.bool (validB z x y)) ∧ Below w.heap.size w w' := by
  refine (valid_any z x y w).mono ?_
  rintro e w' ⟨he, n, rfl⟩
  exact ⟨he, ((Below.refl _ _).alloc (Nat.le_refl _) _).drewN'⟩

theorem side_pow (k : Nat) (h : k ≤ 17) : (2 : Int) ^ k * side k = 1048576 := by
  have : ∀ z : Fin 18, (2 : Int) ^ z.val * side z.val = 1048576 := by decide
  exact this ⟨k, by omega⟩
theorem mul_side (k : Nat) (h : k ≤ 17) (x : Int) (h0 : 0 ≤ x) (h1 : x < 2 ^ k) : 0 ≤ x * side k ∧ x * side k + side k ≤ 1048576 := by
  have hs := side_bd k h
  have hp := side_pow k h
  refine ⟨Int.mul_nonneg h0 (by omega), ?_⟩
  have : (x + 1) * side k ≤ 2 ^ k * side k := Int.mul_le_mul_of_nonneg_right (by omega) (by omega)
  rw [hp, Int.add_mul] at this
  omega

set_option maxHeartbeats 1000000 in
theorem box_ok (x y : Int) (k : Nat) (hk : k ≤ 17) (hx : 0 ≤ x ∧ x < 2 ^ k) (hy : 0 ≤ y ∧ y < 2 ^ k) (w : World) :
    Calls Tryd.prog 12 #[.agg #[.int .i64 k, .int .i64 x, .int .i64 y]] w fun e w' => e = .returned (.tuple #[.agg #[.int .i64 (x * side k), .int .i64 (y * side k), .int .i64 (x * side k + side k - 1), .int .i64 (y * side k + side k - 1)], .int .i64 0]) ∧ Below w.heap.size w w' := by
  have LV := Lib.hid (show validB k x y = true by simp only [validB, Int.toNat_natCast]; rw [decide_eq_true_eq]; omega)
  have hb := side_bd k hk
  have hi := index_sides k hk
  have hmx := mul_side k hk x hx.1 hx.2
  have hmy := mul_side k hk y hy.1 hy.2
  clear hx hy
  go_enter Tryd.func12, Tryd.ntmps12
  go_wp2_with fail
  refine (valid_below _ _ _ _).mono ?_; rintro e w1 ⟨rfl, hb1⟩; rw [LV.out]
  have HA := row_later hb1 (row_past (row_new w _))
  have HR := row_later hb1 (row_new1 w _ _)
  have hs1 := hb1.size; simp at hs1
  have HA2 := HA
  have HR2 := HR
  have az := lt_of_block HA
  have a0 := cell_of_row w1 _ 0 _ _ _ HA
  have a1 := cell_of_row w1 _ 1 _ _ _ HA
  have a2 := cell_of_row w1 _ 2 _ _ _ HA
  simp only [List.getElem?_toArray, List.getElem?_cons_zero, List.getElem?_cons_succ] at a0 a1 a2
  have HA' := Lib.hid HA
  clear HA
  have rz := lt_of_block HR
  have r0 := cell_of_row w1 _ 0 _ _ _ HR
  have r1 := cell_of_row w1 _ 1 _ _ _ HR
  have r2 := cell_of_row w1 _ 2 _ _ _ HR
  have r3 := cell_of_row w1 _ 3 _ _ _ HR
  have rf0 := frozen_of_row w1 _ 0 _ _ HR
  have rf1 := frozen_of_row w1 _ 1 _ _ HR
  have rf2 := frozen_of_row w1 _ 2 _ _ HR
  have rf3 := frozen_of_row w1 _ 3 _ _ HR
  simp only [List.getElem?_toArray, List.getElem?_cons_zero, List.getElem?_cons_succ] at r0 r1 r2 r3
  have HR' := Lib.hid HR
  clear HR
  have GA := Lib.hid HA2; have GR := Lib.hid HR2; clear HA2 HR2
  go_wp2_with fail
  go_region_held3 (fun w' => w'.cell? ⟨w.heap.size, 0, none⟩ = some (.int .i64 k) ∧ Below w1.heap.size w1 w')
    (first | exact ⟨a0, (Below.refl _ _).drew⟩ | assumption | exact ⟨cell_later hb2 (And.left ‹_ ∧ Below w1.heap.size w1 _›), below_step (And.right ‹_ ∧ Below w1.heap.size w1 _›) (Nat.le_refl _) hb2⟩)
    (first
      | (go_at_call 34; refine (sides_any _).mono ?_; rintro e w2 ⟨rfl, hb2⟩))
  obtain ⟨-, hb3⟩ := ‹_ ∧ Below w1.heap.size w1 _›
  clear hb2 a0 a1 a2 r0 r1 r2 r3 rf0 rf1 rf2 rf3 hi
  have hs2 := hb3.size
  have HA := row_later hb3 GA.out
  have HR := row_later hb3 GR.out
  clear HA' HR' GA GR
  have az := lt_of_block HA
  have a0 := cell_of_row w2 _ 0 _ _ _ HA
  have a1 := cell_of_row w2 _ 1 _ _ _ HA
  have a2 := cell_of_row w2 _ 2 _ _ _ HA
  simp only [List.getElem?_toArray, List.getElem?_cons_zero, List.getElem?_cons_succ] at a0 a1 a2
  have HA' := Lib.hid HA
  clear HA
  have rz := lt_of_block HR
  have r0 := cell_of_row w2 _ 0 _ _ _ HR
  have r1 := cell_of_row w2 _ 1 _ _ _ HR
  have r2 := cell_of_row w2 _ 2 _ _ _ HR
  have r3 := cell_of_row w2 _ 3 _ _ _ HR
  have rf0 := frozen_of_row w2 _ 0 _ _ HR
  have rf1 := frozen_of_row w2 _ 1 _ _ HR
  have rf2 := frozen_of_row w2 _ 2 _ _ HR
  have rf3 := frozen_of_row w2 _ 3 _ _ HR
  simp only [List.getElem?_toArray, List.getElem?_cons_zero, List.getElem?_cons_succ] at r0 r1 r2 r3
  have HR' := Lib.hid HR
  clear HR
  go_wp2
  refine bodyPost_ret (v := .tuple #[.agg #[.int .i64 (x * side k), .int .i64 (y * side k), .int .i64 (x * side k + side k - 1), .int .i64 (y * side k + side k - 1)], .int .i64 0]) ?_ rfl ⟨rfl, ?_⟩
  · simp [results, Tryd.results12, go_sem, rz, r0, r1, r2, r3]
  · repeat' (first | exact Below.refl _ _ | refine Below.drew ?_ | refine Below.drewN' ?_ | refine Below.setCell ?_ (by first | omega | (simp; done) | exact Below.size (by assumption) | (simp; omega)) _ | refine Below.alloc ?_ (by first | omega | (simp; done) | exact Below.size (by assumption) | (simp; omega)) _ | refine Below.trans ?_ (Below.mono (by assumption) ?_) | (first | omega | (simp; done) | exact Below.size (by assumption) | (simp; omega)))
end Go.Proofs.YtnilofeakdibhaaDoor
