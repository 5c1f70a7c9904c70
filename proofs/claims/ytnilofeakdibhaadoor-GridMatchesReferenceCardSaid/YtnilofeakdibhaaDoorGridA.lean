/- Contracts of the small functions of package grid: level, inside, sides, valid. -/
import Derived.Test.YtnilofeakdibhaaDoorRows
import Derived.Test.YtnilofeakdibhaaDoorKit
namespace Go.Proofs.YtnilofeakdibhaaDoor
open Go.RowKit

def levelB (z : Int) : Bool := decide (0 ≤ z ∧ z ≤ 17)

set_option maxHeartbeats 400000 in
theorem level_any (z : Int) (w : World) :
    Calls Tryd.prog 35 #[.int .i64 z] w fun e w' => e = .returned (.bool (levelB z)) ∧ w = w' := by
  by_cases h0 : 0 ≤ z
  · by_cases h1 : z ≤ 17
    · have e : levelB z = true := by simp [levelB, h0, h1]
      rw [e]
      go_enter Tryd.func35, Tryd.ntmps35
      go_wp2
      go_ret
      exact ⟨rfl, rfl⟩
    · have e : levelB z = false := by simp [levelB, h0, h1]
      rw [e]
      go_enter Tryd.func35, Tryd.ntmps35
      go_wp2
      go_ret
      exact ⟨rfl, rfl⟩
  · have e : levelB z = false := by simp [levelB, h0]
    rw [e]
    go_enter Tryd.func35, Tryd.ntmps35
    go_wp2
    go_ret
    exact ⟨rfl, rfl⟩

def insideB (x y : Int) : Bool := decide (0 ≤ x ∧ 0 ≤ y ∧ x < 1048576 ∧ y < 1048576)

set_option maxHeartbeats 400000 in
theorem inside_any (x y : Int) (w : World) :
    Calls Tryd.prog 36 #[.agg #[.int .i64 x, .int .i64 y]] w fun e w' => e = .returned (.bool (insideB x y)) ∧ Below w.heap.size w w' := by
  go_enter Tryd.func36, Tryd.ntmps36
  go_wp2
  all_goals
    go_ret
    refine ⟨?_, (Below.refl _ _).alloc (Nat.le_refl _) _⟩
    refine ret_bool ?_
    simp only [insideB]
    first | (rw [decide_eq_decide]; omega) | (symm; rw [decide_eq_true_eq]; omega) | (symm; rw [decide_eq_false_iff_not]; omega)

/-- The side of a zoom level. -/
def side (z : Nat) : Int := 1048576 / 2 ^ z
/-- The table of sides after k rounds. -/
def tab (k : Nat) : Array Value := ((List.range 18).map fun i => Value.int .i64 (if i < k then side i else 0)).toArray
theorem tab_size (k : Nat) : (tab k).size = 18 := by simp [tab]
theorem tab_zero : tab 0 = #[Value.int .i64 0, Value.int .i64 0, Value.int .i64 0, Value.int .i64 0, Value.int .i64 0, Value.int .i64 0, Value.int .i64 0, Value.int .i64 0, Value.int .i64 0, Value.int .i64 0, Value.int .i64 0, Value.int .i64 0, Value.int .i64 0, Value.int .i64 0, Value.int .i64 0, Value.int .i64 0, Value.int .i64 0, Value.int .i64 0] := by simp [tab, List.range, List.range.loop]
theorem tab_get (k : Nat) (h : k < 18) : (tab k)[k]? = some (.int .i64 0) := by simp [tab, h]
theorem tab_lit : tab 18 = #[Value.int .i64 1048576, Value.int .i64 524288, Value.int .i64 262144, Value.int .i64 131072, Value.int .i64 65536, Value.int .i64 32768, Value.int .i64 16384, Value.int .i64 8192, Value.int .i64 4096, Value.int .i64 2048, Value.int .i64 1024, Value.int .i64 512, Value.int .i64 256, Value.int .i64 128, Value.int .i64 64, Value.int .i64 32, Value.int .i64 16, Value.int .i64 8] := by simp [tab, side, List.range, List.range.loop]
theorem tab_one : (tab 18).all (·.oneCell') = true := by simp [tab, Value.oneCell']
theorem tab_succ (k : Nat) (h : k < 18) : (tab k).setIfInBounds k (.int .i64 (side k)) = tab (k + 1) := by
  apply Array.ext
  · simp [tab]
  · intro i h1 h2
    simp only [tab, List.setIfInBounds_toArray, List.getElem_toArray, List.getElem_set, List.getElem_map, List.getElem_range]
    split
    · subst_vars; simp
    · rename_i hne
      congr 1
      by_cases hi : i < k
      · simp [hi, show i < k + 1 by omega]
      · simp [hi, show ¬ i < k + 1 by omega]

/-- The table of all sides. -/
def sidesA : Array Value := tab 18
set_option maxHeartbeats 1000000 in
theorem sides_tab (w : World) :
    Calls Tryd.prog 34 #[] w fun e w' => e = .returned (.agg (tab 18)) ∧ Below w.heap.size w w' := by
  go_enter Tryd.func34, Tryd.ntmps34
  go_wp2
  go_loopw [2, 3] (fun _ i wr => ∃ k : Nat, k ≤ 18 ∧ i = .int .i64 k ∧ wr = (w.alloc (.cells (tab 0) 62)).alloc (.cells (tab k) 62)) (fun _ i _ => 18 - (intOf i).toNat)
  case atStart => exact ⟨0, by omega, rfl, by rw [tab_zero]⟩
  case round =>
    obtain ⟨k, hk, rfl, rfl⟩ := hrel
    by_cases hlt : k < 18
    · have hs := tab_size k
      have hg : (tab k)[k]? = some (.int .i64 0) := tab_get k hlt
      have hsucc := Lib.hid (tab_succ k hlt)
      go_wp2
      go_roundw
      case rel => exact ⟨k + 1, by omega, by go_num, by rw [← hsucc.out]; rfl⟩
      case measure => simp [intOf]; omega
    · obtain rfl : k = 18 := by omega
      clear hlt hk
      have hsz : (Tryd.prog.info? 62).map (·.size) = some (tab 18).size := by rw [tab_size]; kernel_rfl
      go_wp2_with (first
        | (refine wpList_load_row rfl 62 (.tmp 1) rfl (w.heap.size + 1) rfl 62 (tab 18) (0, 0) _ (heap_alloc2_new w _ _) Tryd.underlying62 rfl hsz ?_)
        | (refine wpList_store_row rfl 62 (.tmp 0) (.tmp 11) rfl w.heap.size (tab 18) rfl rfl 62 (tab 0) (heap_alloc2_old w _ _) hsz (by rw [tab_size, tab_size]) tab_one ?_))
      refine bodyPost_ret (v := .agg (tab 18)) ?_ rfl ⟨rfl, ?_⟩
      · exact results_cell_row (p := 0) rfl _ _ w.heap.size 62 (tab 18) (0, 0) _ rfl (setRow_heap _ _ (tab 0) _ _ _ (heap_alloc2_old w _ _)) Tryd.underlying62 rfl hsz
      · exact below_setRow' (((Below.refl _ _).alloc (Nat.le_refl _) _).alloc (by simp) _) (Nat.le_refl _) _

theorem sides_any (w : World) :
    Calls Tryd.prog 34 #[] w fun e w' => e = .returned (.agg sidesA) ∧ Below w.heap.size w w' := sides_tab w

theorem pow_bd (z : Nat) (h : z ≤ 17) : (1 : Int) ≤ 2 ^ z ∧ (2 : Int) ^ z ≤ 131072 := by
  have : ∀ z : Fin 18, (1 : Int) ≤ 2 ^ z.val ∧ (2 : Int) ^ z.val ≤ 131072 := by decide
  exact this ⟨z, by omega⟩

def validB (z x y : Int) : Bool := decide (0 ≤ z ∧ z ≤ 17 ∧ 0 ≤ x ∧ 0 ≤ y ∧ x < 2 ^ z.toNat ∧ y < 2 ^ z.toNat)

set_option maxHeartbeats 400000 in
theorem valid_any (z x y : Int) (w : World) :
    Calls Tryd.prog 29 #[.agg #[.int .i64 z, .int .i64 x, .int .i64 y]] w fun e w' => e = .returned (.bool (validB z x y)) ∧ ∃ n, w' = (w.alloc (.cells #[.int .i64 z, .int .i64 x, .int .i64 y] 23)).drewN n := by
  have lv : ∀ w, Calls Tryd.prog 35 #[.int .i64 z] w fun e w' => e = .returned (.bool (levelB z)) ∧ w' = w := fun w => (level_any z w).mono fun e w' h => ⟨h.1, h.2.symm⟩
  by_cases h0 : 0 ≤ z ∧ z ≤ 17
  · have hl : levelB z = true := by simp [levelB, h0]
    rw [hl] at lv
    obtain ⟨k, rfl⟩ := Int.eq_ofNat_of_zero_le h0.1
    obtain ⟨_, h1⟩ := h0
    have hp := pow_bd k (by omega)
    clear hl
    rcases Int.lt_trichotomy x y with hxy | rfl | hxy
    · by_cases hx : 0 ≤ x
      · go_enter Tryd.func29, Tryd.ntmps29
        go_wp2
        go_quiet ((go_at_call 35; exact Calls.quiet_of_same (lv _)))
        go_wp2
        go_ret
        exact ⟨ret_bool (by simp only [validB, Int.toNat_natCast]; rw [decide_eq_decide]; omega), _, rfl⟩
      · have hx' : decide (0 ≤ x) = false := by simpa using hx
        go_enter Tryd.func29, Tryd.ntmps29
        go_wp2
        go_quiet ((go_at_call 35; exact Calls.quiet_of_same (lv _)))
        go_wp2
        go_ret
        exact ⟨ret_bool (by simp only [validB, Int.toNat_natCast]; symm; rw [decide_eq_false_iff_not]; omega), _, rfl⟩
    · by_cases hx : 0 ≤ x
      · go_enter Tryd.func29, Tryd.ntmps29
        go_wp2
        go_quiet ((go_at_call 35; exact Calls.quiet_of_same (lv _)))
        go_wp2
        go_ret
        exact ⟨ret_bool (by simp only [validB, Int.toNat_natCast]; rw [decide_eq_decide]; omega), _, rfl⟩
      · have hx' : decide (0 ≤ x) = false := by simpa using hx
        go_enter Tryd.func29, Tryd.ntmps29
        go_wp2
        go_quiet ((go_at_call 35; exact Calls.quiet_of_same (lv _)))
        go_wp2
        go_ret
        exact ⟨ret_bool (by simp only [validB, Int.toNat_natCast]; symm; rw [decide_eq_false_iff_not]; omega), _, rfl⟩
    · by_cases hx : 0 ≤ y
      · go_enter Tryd.func29, Tryd.ntmps29
        go_wp2
        go_quiet ((go_at_call 35; exact Calls.quiet_of_same (lv _)))
        go_wp2
        go_ret
        exact ⟨ret_bool (by simp only [validB, Int.toNat_natCast]; rw [decide_eq_decide]; omega), _, rfl⟩
      · have hx' : decide (0 ≤ y) = false := by simpa using hx
        go_enter Tryd.func29, Tryd.ntmps29
        go_wp2
        go_quiet ((go_at_call 35; exact Calls.quiet_of_same (lv _)))
        go_wp2
        go_ret
        exact ⟨ret_bool (by simp only [validB, Int.toNat_natCast]; symm; rw [decide_eq_false_iff_not]; omega), _, rfl⟩
  · have hl : levelB z = false := by simp [levelB]; omega
    rw [hl] at lv
    have hv : validB z x y = false := by simp only [validB]; rw [decide_eq_false_iff_not]; omega
    clear hl h0
    go_enter Tryd.func29, Tryd.ntmps29
    go_wp2
    go_quiet ((go_at_call 35; exact Calls.quiet_of_same (lv _)))
    go_wp2
    go_ret
    exact ⟨ret_bool hv.symm, _, rfl⟩
end Go.Proofs.YtnilofeakdibhaaDoor
