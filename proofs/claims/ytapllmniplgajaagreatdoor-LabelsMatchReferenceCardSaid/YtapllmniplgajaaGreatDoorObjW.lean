/- Contracts of package object: word, least, on; of the reference of layer 11: Word, On. -/
import Derived.Test.YtapllmniplgajaaGreatDoorObjT
namespace Go.Proofs.YtapllmniplgajaaGreatDoor
open Go.RowKit

/-- The word of a kind. -/
def wordK (k : Int) : ByteArray :=
  if k = 1 then ⟨#[110, 111, 100, 101]⟩ else if k = 2 then ⟨#[119, 97, 121]⟩ else if k = 3 then ⟨#[97, 114, 101, 97]⟩ else if k = 4 then ⟨#[114, 111, 117, 116, 101]⟩ else if k = 5 then ⟨#[116, 117, 114, 110]⟩ else ⟨#[]⟩
def leastK (k : Int) : Int := if k = 1 then 0 else if k = 2 then 2 else if k = 3 then 3 else if k = 4 then 1 else 3
def onB (x y : Int) : Bool := decide (0 ≤ x ∧ x < 1048576 ∧ 0 ≤ y ∧ y < 1048576)

set_option maxHeartbeats 1000000 in
theorem word_any (k : Int) (w : World) :
    Calls Tryz.prog 80 #[.int .i64 k] w fun e w' => e = .returned (.string (wordK k)) ∧ Below w.heap.size w w' := by
  by_cases h0 : k < 0
  · have e : wordK k = ⟨#[]⟩ := by simp only [wordK]; rw [if_neg (by omega), if_neg (by omega), if_neg (by omega), if_neg (by omega), if_neg (by omega)]
    rw [e]
    go_enter Tryz.func80, Tryz.ntmps80
    go_wp2
    go_ret
    refine ⟨rfl, ?_⟩
    repeat' (first | exact Below.refl _ _ | refine Below.drew ?_ | refine Below.drewN' ?_ | refine Below.setCell ?_ (by first | omega | (simp; done) | exact Below.size (by assumption) | (simp; omega)) _ | refine Below.alloc ?_ (by first | omega | (simp; done) | exact Below.size (by assumption) | (simp; omega)) _ | refine Below.trans ?_ (Below.mono (by assumption) ?_) | (first | omega | (simp; done) | exact Below.size (by assumption) | (simp; omega)))
  by_cases h5 : 5 < k
  · have e : wordK k = ⟨#[]⟩ := by simp only [wordK]; rw [if_neg (by omega), if_neg (by omega), if_neg (by omega), if_neg (by omega), if_neg (by omega)]
    rw [e]
    go_enter Tryz.func80, Tryz.ntmps80
    go_wp2
    go_ret
    refine ⟨rfl, ?_⟩
    repeat' (first | exact Below.refl _ _ | refine Below.drew ?_ | refine Below.drewN' ?_ | refine Below.setCell ?_ (by first | omega | (simp; done) | exact Below.size (by assumption) | (simp; omega)) _ | refine Below.alloc ?_ (by first | omega | (simp; done) | exact Below.size (by assumption) | (simp; omega)) _ | refine Below.trans ?_ (Below.mono (by assumption) ?_) | (first | omega | (simp; done) | exact Below.size (by assumption) | (simp; omega)))
  obtain rfl | rfl | rfl | rfl | rfl | rfl : k = 0 ∨ k = 1 ∨ k = 2 ∨ k = 3 ∨ k = 4 ∨ k = 5 := by omega
  all_goals
    go_enter Tryz.func80, Tryz.ntmps80
    go_wp2
    go_ret
    refine ⟨rfl, ?_⟩
    repeat' (first | exact Below.refl _ _ | refine Below.drew ?_ | refine Below.drewN' ?_ | refine Below.setCell ?_ (by first | omega | (simp; done) | exact Below.size (by assumption) | (simp; omega)) _ | refine Below.alloc ?_ (by first | omega | (simp; done) | exact Below.size (by assumption) | (simp; omega)) _ | refine Below.trans ?_ (Below.mono (by assumption) ?_) | (first | omega | (simp; done) | exact Below.size (by assumption) | (simp; omega)))

set_option maxHeartbeats 1000000 in
theorem least_any (k : Int) (h0 : 1 ≤ k) (h5 : k ≤ 5) (w : World) :
    Calls Tryz.prog 82 #[.int .i64 k] w fun e w' => e = .returned (.int .i64 (leastK k)) ∧ w = w' := by
  have i1 : ∀ w, (Instr.index 134 (.agg #[.int .i64 0, .int .i64 0, .int .i64 2, .int .i64 3, .int .i64 1, .int .i64 3]) (.int .i64 1)).run Tryz.prog w = .ok (.int .i64 0) w := fun _ => by kernel_rfl
  have i2 : ∀ w, (Instr.index 134 (.agg #[.int .i64 0, .int .i64 0, .int .i64 2, .int .i64 3, .int .i64 1, .int .i64 3]) (.int .i64 2)).run Tryz.prog w = .ok (.int .i64 2) w := fun _ => by kernel_rfl
  have i3 : ∀ w, (Instr.index 134 (.agg #[.int .i64 0, .int .i64 0, .int .i64 2, .int .i64 3, .int .i64 1, .int .i64 3]) (.int .i64 3)).run Tryz.prog w = .ok (.int .i64 3) w := fun _ => by kernel_rfl
  have i4 : ∀ w, (Instr.index 134 (.agg #[.int .i64 0, .int .i64 0, .int .i64 2, .int .i64 3, .int .i64 1, .int .i64 3]) (.int .i64 4)).run Tryz.prog w = .ok (.int .i64 1) w := fun _ => by kernel_rfl
  have i5 : ∀ w, (Instr.index 134 (.agg #[.int .i64 0, .int .i64 0, .int .i64 2, .int .i64 3, .int .i64 1, .int .i64 3]) (.int .i64 5)).run Tryz.prog w = .ok (.int .i64 3) w := fun _ => by kernel_rfl
  obtain rfl | rfl | rfl | rfl | rfl : k = 1 ∨ k = 2 ∨ k = 3 ∨ k = 4 ∨ k = 5 := by omega
  all_goals
    go_enter Tryz.func82, Tryz.ntmps82
    go_wp2
    go_ret
    exact ⟨rfl, rfl⟩


set_option maxHeartbeats 1000000 in
theorem on_any (x y : Int) (w : World) :
    Calls Tryz.prog 85 #[.agg #[.int .i64 x, .int .i64 y]] w fun e w' => e = .returned (.bool (onB x y)) ∧ Below w.heap.size w w' := by
  go_enter Tryz.func85, Tryz.ntmps85
  by_cases h1 : 0 ≤ x
  case neg =>
    go_wp2
    go_ret
    refine ⟨ret_bool (by simp only [onB]; symm; rw [decide_eq_false_iff_not]; omega), ?_⟩
    repeat' (first | exact Below.refl _ _ | refine Below.drew ?_ | refine Below.drewN' ?_ | refine Below.setCell ?_ (by first | omega | (simp; done) | exact Below.size (by assumption) | (simp; omega)) _ | refine Below.alloc ?_ (by first | omega | (simp; done) | exact Below.size (by assumption) | (simp; omega)) _ | refine Below.trans ?_ (Below.mono (by assumption) ?_) | (first | omega | (simp; done) | exact Below.size (by assumption) | (simp; omega)))
  by_cases h2 : x < 1048576
  case neg =>
    go_wp2
    go_ret
    refine ⟨ret_bool (by simp only [onB]; symm; rw [decide_eq_false_iff_not]; omega), ?_⟩
    repeat' (first | exact Below.refl _ _ | refine Below.drew ?_ | refine Below.drewN' ?_ | refine Below.setCell ?_ (by first | omega | (simp; done) | exact Below.size (by assumption) | (simp; omega)) _ | refine Below.alloc ?_ (by first | omega | (simp; done) | exact Below.size (by assumption) | (simp; omega)) _ | refine Below.trans ?_ (Below.mono (by assumption) ?_) | (first | omega | (simp; done) | exact Below.size (by assumption) | (simp; omega)))
  by_cases h3 : 0 ≤ y
  case neg =>
    go_wp2
    go_ret
    refine ⟨ret_bool (by simp only [onB]; symm; rw [decide_eq_false_iff_not]; omega), ?_⟩
    repeat' (first | exact Below.refl _ _ | refine Below.drew ?_ | refine Below.drewN' ?_ | refine Below.setCell ?_ (by first | omega | (simp; done) | exact Below.size (by assumption) | (simp; omega)) _ | refine Below.alloc ?_ (by first | omega | (simp; done) | exact Below.size (by assumption) | (simp; omega)) _ | refine Below.trans ?_ (Below.mono (by assumption) ?_) | (first | omega | (simp; done) | exact Below.size (by assumption) | (simp; omega)))
  go_wp2
  go_ret
  refine ⟨ret_bool (by simp only [onB]; rw [decide_eq_decide]; omega), ?_⟩
  repeat' (first | exact Below.refl _ _ | refine Below.drew ?_ | refine Below.drewN' ?_ | refine Below.setCell ?_ (by first | omega | (simp; done) | exact Below.size (by assumption) | (simp; omega)) _ | refine Below.alloc ?_ (by first | omega | (simp; done) | exact Below.size (by assumption) | (simp; omega)) _ | refine Below.trans ?_ (Below.mono (by assumption) ?_) | (first | omega | (simp; done) | exact Below.size (by assumption) | (simp; omega)))
set_option maxHeartbeats 1000000 in
theorem ron_any (x y : Int) (w : World) :
    Calls Tryz.prog 101 #[.agg #[.int .i64 x, .int .i64 y]] w fun e w' => e = .returned (.bool (onB x y)) ∧ Below w.heap.size w w' := by
  go_enter Tryz.func101, Tryz.ntmps101
  by_cases h1 : 0 ≤ x
  case neg =>
    go_wp2
    go_ret
    refine ⟨ret_bool (by simp only [onB]; symm; rw [decide_eq_false_iff_not]; omega), ?_⟩
    repeat' (first | exact Below.refl _ _ | refine Below.drew ?_ | refine Below.drewN' ?_ | refine Below.setCell ?_ (by first | omega | (simp; done) | exact Below.size (by assumption) | (simp; omega)) _ | refine Below.alloc ?_ (by first | omega | (simp; done) | exact Below.size (by assumption) | (simp; omega)) _ | refine Below.trans ?_ (Below.mono (by assumption) ?_) | (first | omega | (simp; done) | exact Below.size (by assumption) | (simp; omega)))
  by_cases h2 : x < 1048576
  case neg =>
    go_wp2
    go_ret
    refine ⟨ret_bool (by simp only [onB]; symm; rw [decide_eq_false_iff_not]; omega), ?_⟩
    repeat' (first | exact Below.refl _ _ | refine Below.drew ?_ | refine Below.drewN' ?_ | refine Below.setCell ?_ (by first | omega | (simp; done) | exact Below.size (by assumption) | (simp; omega)) _ | refine Below.alloc ?_ (by first | omega | (simp; done) | exact Below.size (by assumption) | (simp; omega)) _ | refine Below.trans ?_ (Below.mono (by assumption) ?_) | (first | omega | (simp; done) | exact Below.size (by assumption) | (simp; omega)))
  by_cases h3 : 0 ≤ y
  case neg =>
    go_wp2
    go_ret
    refine ⟨ret_bool (by simp only [onB]; symm; rw [decide_eq_false_iff_not]; omega), ?_⟩
    repeat' (first | exact Below.refl _ _ | refine Below.drew ?_ | refine Below.drewN' ?_ | refine Below.setCell ?_ (by first | omega | (simp; done) | exact Below.size (by assumption) | (simp; omega)) _ | refine Below.alloc ?_ (by first | omega | (simp; done) | exact Below.size (by assumption) | (simp; omega)) _ | refine Below.trans ?_ (Below.mono (by assumption) ?_) | (first | omega | (simp; done) | exact Below.size (by assumption) | (simp; omega)))
  go_wp2
  go_ret
  refine ⟨ret_bool (by simp only [onB]; rw [decide_eq_decide]; omega), ?_⟩
  repeat' (first | exact Below.refl _ _ | refine Below.drew ?_ | refine Below.drewN' ?_ | refine Below.setCell ?_ (by first | omega | (simp; done) | exact Below.size (by assumption) | (simp; omega)) _ | refine Below.alloc ?_ (by first | omega | (simp; done) | exact Below.size (by assumption) | (simp; omega)) _ | refine Below.trans ?_ (Below.mono (by assumption) ?_) | (first | omega | (simp; done) | exact Below.size (by assumption) | (simp; omega)))

set_option maxHeartbeats 1000000 in
theorem rword2_any (k : Int) (w : World) :
    Calls Tryz.prog 103 #[.int .i64 k] w fun e w' => e = .returned (.string (wordK k)) ∧ Below w.heap.size w w' := by
  by_cases h0 : k < 1
  · have e : wordK k = ⟨#[]⟩ := by simp only [wordK]; rw [if_neg (by omega), if_neg (by omega), if_neg (by omega), if_neg (by omega), if_neg (by omega)]
    rw [e]
    go_enter Tryz.func103, Tryz.ntmps103
    go_wp2
    go_ret
    refine ⟨rfl, ?_⟩
    repeat' (first | exact Below.refl _ _ | refine Below.drew ?_ | refine Below.drewN' ?_ | refine Below.setCell ?_ (by first | omega | (simp; done) | exact Below.size (by assumption) | (simp; omega)) _ | refine Below.alloc ?_ (by first | omega | (simp; done) | exact Below.size (by assumption) | (simp; omega)) _ | refine Below.trans ?_ (Below.mono (by assumption) ?_) | (first | omega | (simp; done) | exact Below.size (by assumption) | (simp; omega)))
  by_cases h5 : 5 < k
  · have e : wordK k = ⟨#[]⟩ := by simp only [wordK]; rw [if_neg (by omega), if_neg (by omega), if_neg (by omega), if_neg (by omega), if_neg (by omega)]
    rw [e]
    go_enter Tryz.func103, Tryz.ntmps103
    go_wp2
    go_ret
    refine ⟨rfl, ?_⟩
    repeat' (first | exact Below.refl _ _ | refine Below.drew ?_ | refine Below.drewN' ?_ | refine Below.setCell ?_ (by first | omega | (simp; done) | exact Below.size (by assumption) | (simp; omega)) _ | refine Below.alloc ?_ (by first | omega | (simp; done) | exact Below.size (by assumption) | (simp; omega)) _ | refine Below.trans ?_ (Below.mono (by assumption) ?_) | (first | omega | (simp; done) | exact Below.size (by assumption) | (simp; omega)))
  obtain rfl | rfl | rfl | rfl | rfl : k = 1 ∨ k = 2 ∨ k = 3 ∨ k = 4 ∨ k = 5 := by omega
  all_goals
    go_enter Tryz.func103, Tryz.ntmps103
    go_wp2
    go_ret
    refine ⟨rfl, ?_⟩
    repeat' (first | exact Below.refl _ _ | refine Below.drew ?_ | refine Below.drewN' ?_ | refine Below.setCell ?_ (by first | omega | (simp; done) | exact Below.size (by assumption) | (simp; omega)) _ | refine Below.alloc ?_ (by first | omega | (simp; done) | exact Below.size (by assumption) | (simp; omega)) _ | refine Below.trans ?_ (Below.mono (by assumption) ?_) | (first | omega | (simp; done) | exact Below.size (by assumption) | (simp; omega)))
end Go.Proofs.YtapllmniplgajaaGreatDoor
