/- Contracts of the reference of layer 7: Level, In, Side, Valid, far, floor. -/
import Derived.Test.YtnilofeakdibhaaDoorGridC
namespace Go.Proofs.YtnilofeakdibhaaDoor
open Go.RowKit

set_option maxHeartbeats 400000 in
theorem rlevel_any (z : Int) (w : World) :
    Calls Tryd.prog 39 #[.int .i64 z] w fun e w' => e = .returned (.bool (levelB z)) ∧ w = w' := by
  by_cases h0 : 0 ≤ z
  · by_cases h1 : z ≤ 17
    · have e : levelB z = true := by simp [levelB, h0, h1]
      rw [e]
      go_enter Tryd.func39, Tryd.ntmps39
      go_wp2
      go_ret
      exact ⟨rfl, rfl⟩
    · have e : levelB z = false := by simp [levelB, h0, h1]
      rw [e]
      go_enter Tryd.func39, Tryd.ntmps39
      go_wp2
      go_ret
      exact ⟨rfl, rfl⟩
  · have e : levelB z = false := by simp [levelB, h0]
    rw [e]
    go_enter Tryd.func39, Tryd.ntmps39
    go_wp2
    go_ret
    exact ⟨rfl, rfl⟩

set_option maxHeartbeats 1000000 in
theorem rin_any (x y : Int) (w : World) :
    Calls Tryd.prog 40 #[.agg #[.int .i64 x, .int .i64 y]] w fun e w' => e = .returned (.bool (insideB x y)) ∧ Below w.heap.size w w' := by
  go_enter Tryd.func40, Tryd.ntmps40
  by_cases h1 : 0 ≤ x
  case neg =>
    go_wp2
    go_ret
    refine ⟨ret_bool (by simp only [insideB]; symm; rw [decide_eq_false_iff_not]; omega), ?_⟩
    repeat' (first | exact Below.refl _ _ | refine Below.drew ?_ | refine Below.drewN' ?_ | refine Below.setCell ?_ (by first | omega | (simp; done) | exact Below.size (by assumption) | (simp; omega)) _ | refine Below.alloc ?_ (by first | omega | (simp; done) | exact Below.size (by assumption) | (simp; omega)) _ | refine Below.trans ?_ (Below.mono (by assumption) ?_) | (first | omega | (simp; done) | exact Below.size (by assumption) | (simp; omega)))
  by_cases h2 : x < 1048576
  case neg =>
    go_wp2
    go_ret
    refine ⟨ret_bool (by simp only [insideB]; symm; rw [decide_eq_false_iff_not]; omega), ?_⟩
    repeat' (first | exact Below.refl _ _ | refine Below.drew ?_ | refine Below.drewN' ?_ | refine Below.setCell ?_ (by first | omega | (simp; done) | exact Below.size (by assumption) | (simp; omega)) _ | refine Below.alloc ?_ (by first | omega | (simp; done) | exact Below.size (by assumption) | (simp; omega)) _ | refine Below.trans ?_ (Below.mono (by assumption) ?_) | (first | omega | (simp; done) | exact Below.size (by assumption) | (simp; omega)))
  by_cases h3 : 0 ≤ y
  case neg =>
    go_wp2
    go_ret
    refine ⟨ret_bool (by simp only [insideB]; symm; rw [decide_eq_false_iff_not]; omega), ?_⟩
    repeat' (first | exact Below.refl _ _ | refine Below.drew ?_ | refine Below.drewN' ?_ | refine Below.setCell ?_ (by first | omega | (simp; done) | exact Below.size (by assumption) | (simp; omega)) _ | refine Below.alloc ?_ (by first | omega | (simp; done) | exact Below.size (by assumption) | (simp; omega)) _ | refine Below.trans ?_ (Below.mono (by assumption) ?_) | (first | omega | (simp; done) | exact Below.size (by assumption) | (simp; omega)))
  go_wp2
  go_ret
  refine ⟨ret_bool (by simp only [insideB]; rw [decide_eq_decide]; omega), ?_⟩
  repeat' (first | exact Below.refl _ _ | refine Below.drew ?_ | refine Below.drewN' ?_ | refine Below.setCell ?_ (by first | omega | (simp; done) | exact Below.size (by assumption) | (simp; omega)) _ | refine Below.alloc ?_ (by first | omega | (simp; done) | exact Below.size (by assumption) | (simp; omega)) _ | refine Below.trans ?_ (Below.mono (by assumption) ?_) | (first | omega | (simp; done) | exact Below.size (by assumption) | (simp; omega)))

theorem side_step (k : Nat) (h : k < 17) : side k / 2 = side (k + 1) := by
  have : ∀ z : Fin 17, side z.val / 2 = side (z.val + 1) := by decide
  exact this ⟨k, h⟩

set_option maxHeartbeats 400000 in
theorem rside_any (k : Nat) (hk : k ≤ 17) (w : World) :
    Calls Tryd.prog 41 #[.int .i64 k] w fun e w' => e = .returned (.int .i64 (side k)) ∧ w = w' := by
  go_enter Tryd.func41, Tryd.ntmps41
  go_wp2
  go_loop [3, 4] (fun n i => ∃ j : Nat, j ≤ k ∧ n = .int .i64 (side j) ∧ i = .int .i64 j) (fun _ i => k - (intOf i).toNat)
  case atStart => exact ⟨0, by omega, rfl, rfl⟩
  case round =>
    obtain ⟨j, hj, rfl, rfl⟩ := hrel
    have hb := side_bd j (by omega)
    by_cases hlt : j < k
    · have hs := Lib.hid (side_step j (by omega))
      go_wp2
      go_round
      case rel => exact ⟨j + 1, by omega, by rw [hs.out], by go_num⟩
      case measure => simp [intOf]; omega
    · obtain rfl : j = k := by omega
      go_wp2
      go_ret
      exact ⟨rfl, rfl⟩

theorem rside_still (k : Nat) (hk : k ≤ 17) (w : World) :
    Calls Tryd.prog 41 #[.int .i64 k] w fun e w' => e = .returned (.int .i64 (side k)) ∧ w' = w :=
  (rside_any k hk w).mono fun _ _ h => ⟨h.1, h.2.symm⟩
theorem grid_div (k : Nat) (h : k ≤ 17) : (1048576 : Int) / side k = 2 ^ k := by
  have : ∀ z : Fin 18, (1048576 : Int) / side z.val = 2 ^ z.val := by decide
  exact this ⟨k, by omega⟩


set_option maxHeartbeats 1000000 in
theorem rvalid_any (z x y : Int) (w : World) :
    Calls Tryd.prog 42 #[.agg #[.int .i64 z, .int .i64 x, .int .i64 y]] w fun e w' => e = .returned (.bool (validB z x y)) ∧ ∃ n, w' = (w.alloc (.cells #[.int .i64 z, .int .i64 x, .int .i64 y] 23)).drewN n := by
  have lv : ∀ w, Calls Tryd.prog 39 #[.int .i64 z] w fun e w' => e = .returned (.bool (levelB z)) ∧ w' = w := fun w => (rlevel_any z w).mono fun e w' h => ⟨h.1, h.2.symm⟩
  by_cases h0 : 0 ≤ z ∧ z ≤ 17
  · have hl : levelB z = true := by simp [levelB, h0]
    rw [hl] at lv
    obtain ⟨k, rfl⟩ := Int.eq_ofNat_of_zero_le h0.1
    have hk : k ≤ 17 := by omega
    have hp := pow_bd k hk
    have hb := side_bd k hk
    have hd := Lib.hid (grid_div k hk)
    clear hl h0
    by_cases hx : 0 ≤ x
    case neg =>
      have hx' : decide (0 ≤ x) = false := by simpa using hx
      go_enter Tryd.func42, Tryd.ntmps42
      go_wp2
      go_quiet ((first | (go_at_call 39; exact Calls.quiet_of_same (lv _)) | (go_at_call 41; exact Calls.quiet_of_same (rside_still k hk _))))
      go_wp2
      go_ret
      exact ⟨ret_bool (by simp only [validB, Int.toNat_natCast]; symm; rw [decide_eq_false_iff_not]; omega), _, rfl⟩
    have hx' : decide (0 ≤ x) = true := by simpa using hx
    by_cases hy : 0 ≤ y
    case neg =>
      have hy' : decide (0 ≤ y) = false := by simpa using hy
      go_enter Tryd.func42, Tryd.ntmps42
      go_wp2
      go_quiet ((first | (go_at_call 39; exact Calls.quiet_of_same (lv _)) | (go_at_call 41; exact Calls.quiet_of_same (rside_still k hk _))))
      go_wp2
      go_ret
      exact ⟨ret_bool (by simp only [validB, Int.toNat_natCast]; symm; rw [decide_eq_false_iff_not]; omega), _, rfl⟩
    have hy' : decide (0 ≤ y) = true := by simpa using hy
    by_cases hx2 : x < 1048576 / side k
    case neg =>
      have hx2' : decide (x < 1048576 / side k) = false := by simpa using hx2
      go_enter Tryd.func42, Tryd.ntmps42
      go_wp2
      go_quiet ((first | (go_at_call 39; exact Calls.quiet_of_same (lv _)) | (go_at_call 41; exact Calls.quiet_of_same (rside_still k hk _))))
      go_wp2
      go_ret
      rw [hd.out] at hx2
      exact ⟨ret_bool (by simp only [validB, Int.toNat_natCast]; symm; rw [decide_eq_false_iff_not]; omega), _, rfl⟩
    have hx2' : decide (x < 1048576 / side k) = true := by simpa using hx2
    go_enter Tryd.func42, Tryd.ntmps42
    go_wp2
    go_quiet ((first | (go_at_call 39; exact Calls.quiet_of_same (lv _)) | (go_at_call 41; exact Calls.quiet_of_same (rside_still k hk _))))
    go_wp2
    go_ret
    rw [hd.out] at hx2 ⊢
    exact ⟨ret_bool (by simp only [validB, Int.toNat_natCast]; rw [decide_eq_decide]; omega), _, rfl⟩
  · have hl : levelB z = false := by simp [levelB]; omega
    rw [hl] at lv
    have hv : validB z x y = false := by simp only [validB]; rw [decide_eq_false_iff_not]; omega
    clear hl h0
    go_enter Tryd.func42, Tryd.ntmps42
    go_wp2
    go_quiet ((go_at_call 39; exact Calls.quiet_of_same (lv _)))
    go_wp2
    go_ret
    exact ⟨ret_bool hv.symm, _, rfl⟩
theorem rvalid_below (z x y : Int) (w : World) :
    Calls Tryd.prog 42 #[.agg #[.int .i64 z, .int .i64 x, .int .i64 y]] w fun e w' => e = .returned (.bool (validB z x y)) ∧ Below w.heap.size w w' := by
  refine (rvalid_any z x y w).mono ?_
  rintro e w' ⟨he, n, rfl⟩
  exact ⟨he, ((Below.refl _ _).alloc (Nat.le_refl _) _).drewN'⟩

def farB (n : Int) : Bool := decide (n < -2097152 ∨ 2097152 < n)
set_option maxHeartbeats 400000 in
theorem far_any (n : Int) (w : World) :
    Calls Tryd.prog 43 #[.int .i64 n] w fun e w' => e = .returned (.bool (farB n)) ∧ w = w' := by
  by_cases h0 : n < -2097152
  · have e : farB n = true := by simp [farB, h0]
    rw [e]
    go_enter Tryd.func43, Tryd.ntmps43
    go_wp2
    go_ret
    exact ⟨rfl, rfl⟩
  · by_cases h1 : 2097152 < n
    · have e : farB n = true := by simp [farB, h1]
      rw [e]
      go_enter Tryd.func43, Tryd.ntmps43
      go_wp2
      go_ret
      exact ⟨rfl, rfl⟩
    · have e : farB n = false := by simp [farB, h0, h1]
      rw [e]
      go_enter Tryd.func43, Tryd.ntmps43
      go_wp2
      go_ret
      exact ⟨rfl, rfl⟩

theorem tdiv_floor (n b : Int) (hb : 0 < b) : (n < n.tdiv b * b → n / b = n.tdiv b - 1) ∧ (¬ n < n.tdiv b * b → n / b = n.tdiv b) ∧ -(b - 1) ≤ n - n.tdiv b * b ∧ n - n.tdiv b * b ≤ b - 1 := by
  have key : ∀ q r : Int, n.tdiv b = q → n = q * b + r → -(b-1) ≤ r → r ≤ b-1 → (n < n.tdiv b * b → n / b = n.tdiv b - 1) ∧ (¬ n < n.tdiv b * b → n / b = n.tdiv b) ∧ -(b - 1) ≤ n - n.tdiv b * b ∧ n - n.tdiv b * b ≤ b - 1 := by
    intro q r hq hn h1 h2
    rw [hq]
    refine ⟨fun h => ?_, fun h => ?_, by omega, by omega⟩
    · have e : n = b * (q - 1) + (b + r) := by rw [Int.mul_sub, Int.mul_one, Int.mul_comm b q]; omega
      rw [e, Int.mul_add_ediv_left _ _ (by omega), Int.ediv_eq_zero_of_lt (by omega) (by omega)]
      omega
    · have e : n = b * q + r := by rw [Int.mul_comm b q]; omega
      rw [e, Int.mul_add_ediv_left _ _ (by omega), Int.ediv_eq_zero_of_lt (by omega) (by omega)]
      omega
  rcases Int.lt_or_le n 0 with h | h
  · obtain ⟨m, rfl⟩ : ∃ m : Int, n = -m := ⟨-n, by omega⟩
    have h1 := Int.mul_ediv_add_emod m b
    have h2 := Int.emod_nonneg m (show b ≠ 0 by omega)
    have h3 := Int.emod_lt_of_pos m hb
    refine key (-(m / b)) (-(m % b)) ?_ ?_ (by omega) (by omega)
    · rw [Int.neg_tdiv, Int.tdiv_eq_ediv_of_nonneg (by omega)]
    · rw [Int.neg_mul, Int.mul_comm (m / b)]; omega
  · have h1 := Int.mul_ediv_add_emod n b
    have h2 := Int.emod_nonneg n (show b ≠ 0 by omega)
    have h3 := Int.emod_lt_of_pos n hb
    refine key (n / b) (n % b) (Int.tdiv_eq_ediv_of_nonneg h) ?_ (by omega) (by omega)
    rw [Int.mul_comm (n / b)]; omega
set_option maxHeartbeats 400000 in
theorem floor_any (n b : Int) (hn : -1073741824 ≤ n ∧ n ≤ 1073741824) (hb : 1 ≤ b ∧ b ≤ 1048576) (w : World) :
    Calls Tryd.prog 44 #[.int .i64 n, .int .i64 b] w fun e w' => e = .returned (.int .i64 (n / b)) ∧ w = w' := by
  obtain ⟨h1, h2, h3, h4⟩ := tdiv_floor n b (by omega)
  have H1 := Lib.hid h1
  have H2 := Lib.hid h2
  have WR : IntKind.i64.wrap (n.tdiv b * b) = n.tdiv b * b := IntWalk.i64_in _ (by omega)
  have hq : -1073741824 ≤ n.tdiv b ∧ n.tdiv b ≤ 1073741824 := by
    have h := Int.natAbs_tdiv n b
    have h' : (n.tdiv b).natAbs ≤ n.natAbs := by rw [h]; exact Nat.div_le_self _ _
    omega
  obtain ⟨hq1, hq2⟩ := hq
  clear h1 h2
  go_enter Tryd.func44, Tryd.ntmps44
  go_wp2
  · go_ret
    exact ⟨ret_int (H1.out (by assumption)).symm, rfl⟩
  · go_ret
    have hc : n.tdiv b * b ≤ n := by assumption
    exact ⟨ret_int (H2.out (by omega)).symm, rfl⟩
end Go.Proofs.YtnilofeakdibhaaDoor
