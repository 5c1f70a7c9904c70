/- Contracts of package grid, as far as label needs them: Pixel at a valid tile and a near point. -/
import Derived.Test.YtapllmniplgajaaGreatDoorKit
import Derived.Test.YtapllmniplgajaaGreatDoorProg
namespace Go.Proofs.YtapllmniplgajaaGreatDoor
open Go.RowKit

def levelB (z : Int) : Bool := decide (0 ≤ z ∧ z ≤ 17)

set_option maxHeartbeats 400000 in
theorem glevel_any (z : Int) (w : World) :
    Calls Tryz.prog 125 #[.int .i64 z] w fun e w' => e = .returned (.bool (levelB z)) ∧ w = w' := by
  by_cases h0 : 0 ≤ z
  · by_cases h1 : z ≤ 17
    · have e : levelB z = true := by simp [levelB, h0, h1]
      rw [e]
      go_enter Tryz.func125, Tryz.ntmps125
      go_wp2
      go_ret
      exact ⟨rfl, rfl⟩
    · have e : levelB z = false := by simp [levelB, h0, h1]
      rw [e]
      go_enter Tryz.func125, Tryz.ntmps125
      go_wp2
      go_ret
      exact ⟨rfl, rfl⟩
  · have e : levelB z = false := by simp [levelB, h0]
    rw [e]
    go_enter Tryz.func125, Tryz.ntmps125
    go_wp2
    go_ret
    exact ⟨rfl, rfl⟩

/-- The side of a zoom level. -/
def side (z : Nat) : Int := 1048576 / 2 ^ z
/-- The table of sides after k rounds. -/
def tab (k : Nat) : Array Value := ((List.range 18).map fun i => Value.int .i64 (if i < k then side i else 0)).toArray
theorem tab_size (k : Nat) : (tab k).size = 18 := by simp [tab]
theorem tab_zero : tab 0 = #[Value.int .i64 0, Value.int .i64 0, Value.int .i64 0, Value.int .i64 0, Value.int .i64 0, Value.int .i64 0, Value.int .i64 0, Value.int .i64 0, Value.int .i64 0, Value.int .i64 0, Value.int .i64 0, Value.int .i64 0, Value.int .i64 0, Value.int .i64 0, Value.int .i64 0, Value.int .i64 0, Value.int .i64 0, Value.int .i64 0] := by simp [tab, List.range, List.range.loop]
theorem tab_get (k : Nat) (h : k < 18) : (tab k)[k]? = some (.int .i64 0) := by simp [tab, h]
theorem tab_lit : tab 18 = #[Value.int .i64 1048576, Value.int .i64 524288, Value.int .i64 262144, Value.int .i64 131072, Value.int .i64 65536, Value.int .i64 32768, Value.int .i64 16384, Value.int .i64 8192, Value.int .i64 4096, Value.int .i64 2048, Value.int .i64 1024, Value.int .i64 512, Value.int .i64 256, Value.int .i64 128, Value.int .i64 64, Value.int .i64 32, Value.int .i64 16, Value.int .i64 8] := by simp [tab, side, List.range, List.range.loop]
theorem tab_one : (tab 18).all (·.oneCell') = true := by simp [tab, Value.oneCell']
theorem tab_succ (k : Nat) (h : k < 18) : (tab k).setIfInBounds k (.int .i64 (side k)) = tab (k + 1) := by
  apply Array.ext
  · simp [tab]
  · intro i h1 h2
    simp only [tab, List.setIfInBounds_toArray, List.getElem_toArray, List.getElem_set, List.getElem_map, List.getElem_range]
    split
    · subst_vars; simp
    · rename_i hne
      congr 1
      by_cases hi : i < k
      · simp [hi, show i < k + 1 by omega]
      · simp [hi, show ¬ i < k + 1 by omega]

/-- The table of all sides. -/
def sidesA : Array Value := tab 18
set_option maxHeartbeats 1000000 in
theorem sides_tab (w : World) :
    Calls Tryz.prog 100 #[] w fun e w' => e = .returned (.agg (tab 18)) ∧ Below w.heap.size w w' := by
  go_enter Tryz.func100, Tryz.ntmps100
  go_wp2
  go_loopw [2, 3] (fun _ i wr => ∃ k : Nat, k ≤ 18 ∧ i = .int .i64 k ∧ wr = (w.alloc (.cells (tab 0) 129)).alloc (.cells (tab k) 129)) (fun _ i _ => 18 - (intOf i).toNat)
  case atStart => exact ⟨0, by omega, rfl, by rw [tab_zero]⟩
  case round =>
    obtain ⟨k, hk, rfl, rfl⟩ := hrel
    by_cases hlt : k < 18
    · have hs := tab_size k
      have hg : (tab k)[k]? = some (.int .i64 0) := tab_get k hlt
      have hsucc := Lib.hid (tab_succ k hlt)
      go_wp2
      go_roundw
      case rel => exact ⟨k + 1, by omega, by go_num, by rw [← hsucc.out]; rfl⟩
      case measure => simp [intOf]; omega
    · obtain rfl : k = 18 := by omega
      clear hlt hk
      have hsz : (Tryz.prog.info? 129).map (·.size) = some (tab 18).size := by rw [tab_size]; kernel_rfl
      go_wp2_with (first
        | (refine wpList_load_row rfl 129 (.tmp 1) rfl (w.heap.size + 1) rfl 129 (tab 18) (0, 0) _ (heap_alloc2_new w _ _) Tryz.underlying129 rfl hsz ?_)
        | (refine wpList_store_row rfl 129 (.tmp 0) (.tmp 11) rfl w.heap.size (tab 18) rfl rfl 129 (tab 0) (heap_alloc2_old w _ _) hsz (by rw [tab_size, tab_size]) tab_one ?_))
      refine bodyPost_ret (v := .agg (tab 18)) ?_ rfl ⟨rfl, ?_⟩
      · exact results_cell_row (p := 0) rfl _ _ w.heap.size 129 (tab 18) (0, 0) _ rfl (setRow_heap _ _ (tab 0) _ _ _ (heap_alloc2_old w _ _)) Tryz.underlying129 rfl hsz
      · exact below_setRow' (((Below.refl _ _).alloc (Nat.le_refl _) _).alloc (by simp) _) (Nat.le_refl _) _

theorem sides_any (w : World) :
    Calls Tryz.prog 100 #[] w fun e w' => e = .returned (.agg sidesA) ∧ Below w.heap.size w w' := sides_tab w

theorem pow_bd (z : Nat) (h : z ≤ 17) : (1 : Int) ≤ 2 ^ z ∧ (2 : Int) ^ z ≤ 131072 := by
  have : ∀ z : Fin 18, (1 : Int) ≤ 2 ^ z.val ∧ (2 : Int) ^ z.val ≤ 131072 := by decide
  exact this ⟨z, by omega⟩

def validB (z x y : Int) : Bool := decide (0 ≤ z ∧ z ≤ 17 ∧ 0 ≤ x ∧ 0 ≤ y ∧ x < 2 ^ z.toNat ∧ y < 2 ^ z.toNat)

set_option maxHeartbeats 400000 in
theorem gvalid_any (z x y : Int) (w : World) :
    Calls Tryz.prog 99 #[.agg #[.int .i64 z, .int .i64 x, .int .i64 y]] w fun e w' => e = .returned (.bool (validB z x y)) ∧ ∃ n, w' = (w.alloc (.cells #[.int .i64 z, .int .i64 x, .int .i64 y] 83)).drewN n := by
  have lv : ∀ w, Calls Tryz.prog 125 #[.int .i64 z] w fun e w' => e = .returned (.bool (levelB z)) ∧ w' = w := fun w => (glevel_any z w).mono fun e w' h => ⟨h.1, h.2.symm⟩
  by_cases h0 : 0 ≤ z ∧ z ≤ 17
  · have hl : levelB z = true := by simp [levelB, h0]
    rw [hl] at lv
    obtain ⟨k, rfl⟩ := Int.eq_ofNat_of_zero_le h0.1
    obtain ⟨_, h1⟩ := h0
    have hp := pow_bd k (by omega)
    clear hl
    rcases Int.lt_trichotomy x y with hxy | rfl | hxy
    · by_cases hx : 0 ≤ x
      · go_enter Tryz.func99, Tryz.ntmps99
        go_wp2
        go_quiet ((go_at_call 125; exact Calls.quiet_of_same (lv _)))
        go_wp2
        go_ret
        exact ⟨ret_bool (by simp only [validB, Int.toNat_natCast]; rw [decide_eq_decide]; omega), _, rfl⟩
      · have hx' : decide (0 ≤ x) = false := by simpa using hx
        go_enter Tryz.func99, Tryz.ntmps99
        go_wp2
        go_quiet ((go_at_call 125; exact Calls.quiet_of_same (lv _)))
        go_wp2
        go_ret
        exact ⟨ret_bool (by simp only [validB, Int.toNat_natCast]; symm; rw [decide_eq_false_iff_not]; omega), _, rfl⟩
    · by_cases hx : 0 ≤ x
      · go_enter Tryz.func99, Tryz.ntmps99
        go_wp2
        go_quiet ((go_at_call 125; exact Calls.quiet_of_same (lv _)))
        go_wp2
        go_ret
        exact ⟨ret_bool (by simp only [validB, Int.toNat_natCast]; rw [decide_eq_decide]; omega), _, rfl⟩
      · have hx' : decide (0 ≤ x) = false := by simpa using hx
        go_enter Tryz.func99, Tryz.ntmps99
        go_wp2
        go_quiet ((go_at_call 125; exact Calls.quiet_of_same (lv _)))
        go_wp2
        go_ret
        exact ⟨ret_bool (by simp only [validB, Int.toNat_natCast]; symm; rw [decide_eq_false_iff_not]; omega), _, rfl⟩
    · by_cases hx : 0 ≤ y
      · go_enter Tryz.func99, Tryz.ntmps99
        go_wp2
        go_quiet ((go_at_call 125; exact Calls.quiet_of_same (lv _)))
        go_wp2
        go_ret
        exact ⟨ret_bool (by simp only [validB, Int.toNat_natCast]; rw [decide_eq_decide]; omega), _, rfl⟩
      · have hx' : decide (0 ≤ y) = false := by simpa using hx
        go_enter Tryz.func99, Tryz.ntmps99
        go_wp2
        go_quiet ((go_at_call 125; exact Calls.quiet_of_same (lv _)))
        go_wp2
        go_ret
        exact ⟨ret_bool (by simp only [validB, Int.toNat_natCast]; symm; rw [decide_eq_false_iff_not]; omega), _, rfl⟩
  · have hl : levelB z = false := by simp [levelB]; omega
    rw [hl] at lv
    have hv : validB z x y = false := by simp only [validB]; rw [decide_eq_false_iff_not]; omega
    clear hl h0
    go_enter Tryz.func99, Tryz.ntmps99
    go_wp2
    go_quiet ((go_at_call 125; exact Calls.quiet_of_same (lv _)))
    go_wp2
    go_ret
    exact ⟨ret_bool hv.symm, _, rfl⟩
theorem side_bd (k : Nat) (h : k ≤ 17) : 8 ≤ side k ∧ side k ≤ 1048576 := by
  have : ∀ z : Fin 18, 8 ≤ side z.val ∧ side z.val ≤ 1048576 := by decide
  exact this ⟨k, by omega⟩
theorem tab_at (k : Nat) (h : k ≤ 17) : sidesA[k]? = some (.int .i64 (side k)) := by simp [sidesA, tab, show k < 18 by omega]

theorem index_sides (k : Nat) (hk : k ≤ 17) (w : World) : (Instr.index 129 (.agg sidesA) (.int .i64 k)).run Tryz.prog w = .ok (.int .i64 (side k)) w := by
  simp only [Instr.index, asIntOf, Sem.run_bind, Sem.run_pure, Result.andThen_ok, run_underlying Tryz.underlying129]
  rw [if_pos (by omega)]
  simp [part, go_sem, tab_at k hk]
theorem gvalid_below (z x y : Int) (w : World) :
    Calls Tryz.prog 99 #[.agg #[.int .i64 z, .int .i64 x, .int .i64 y]] w fun e w' => e = .returned (.bool (validB z x y)) ∧ Below w.heap.size w w' := by
  refine (gvalid_any z x y w).mono ?_
  rintro e w' ⟨he, n, rfl⟩
  exact ⟨he, ((Below.refl _ _).alloc (Nat.le_refl _) _).drewN'⟩

theorem side_pow (k : Nat) (h : k ≤ 17) : (2 : Int) ^ k * side k = 1048576 := by
  have : ∀ z : Fin 18, (2 : Int) ^ z.val * side z.val = 1048576 := by decide
  exact this ⟨k, by omega⟩
theorem mul_side (k : Nat) (h : k ≤ 17) (x : Int) (h0 : 0 ≤ x) (h1 : x < 2 ^ k) : 0 ≤ x * side k ∧ x * side k + side k ≤ 1048576 := by
  have hs := side_bd k h
  have hp := side_pow k h
  refine ⟨Int.mul_nonneg h0 (by omega), ?_⟩
  have : (x + 1) * side k ≤ 2 ^ k * side k := Int.mul_le_mul_of_nonneg_right (by omega) (by omega)
  rw [hp, Int.add_mul] at this
  omega

set_option maxHeartbeats 1000000 in
theorem box_ok (x y : Int) (k : Nat) (hk : k ≤ 17) (hx : 0 ≤ x ∧ x < 2 ^ k) (hy : 0 ≤ y ∧ y < 2 ^ k) (w : World) :
    Calls Tryz.prog 70 #[.agg #[.int .i64 k, .int .i64 x, .int .i64 y]] w fun e w' => e = .returned (.tuple #[.agg #[.int .i64 (x * side k), .int .i64 (y * side k), .int .i64 (x * side k + side k - 1), .int .i64 (y * side k + side k - 1)], .int .i64 0]) ∧ Below w.heap.size w w' := by
  have LV := Lib.hid (show validB k x y = true by simp only [validB, Int.toNat_natCast]; rw [decide_eq_true_eq]; omega)
  have hb := side_bd k hk
  have hi := index_sides k hk
  have hmx := mul_side k hk x hx.1 hx.2
  have hmy := mul_side k hk y hy.1 hy.2
  clear hx hy
  go_enter Tryz.func70, Tryz.ntmps70
  go_wp2_with fail
  refine (gvalid_below _ _ _ _).mono ?_; rintro e w1 ⟨rfl, hb1⟩; rw [LV.out]
  have HA := row_later hb1 (row_past (row_new w _))
  have HR := row_later hb1 (row_new1 w _ _)
  have hs1 := hb1.size; simp at hs1
  have HA2 := HA
  have HR2 := HR
  have az := lt_of_block HA
  have a0 := cell_of_row w1 _ 0 _ _ _ HA
  have a1 := cell_of_row w1 _ 1 _ _ _ HA
  have a2 := cell_of_row w1 _ 2 _ _ _ HA
  simp only [List.getElem?_toArray, List.getElem?_cons_zero, List.getElem?_cons_succ] at a0 a1 a2
  have HA' := Lib.hid HA
  clear HA
  have rz := lt_of_block HR
  have r0 := cell_of_row w1 _ 0 _ _ _ HR
  have r1 := cell_of_row w1 _ 1 _ _ _ HR
  have r2 := cell_of_row w1 _ 2 _ _ _ HR
  have r3 := cell_of_row w1 _ 3 _ _ _ HR
  have rf0 := frozen_of_row w1 _ 0 _ _ HR
  have rf1 := frozen_of_row w1 _ 1 _ _ HR
  have rf2 := frozen_of_row w1 _ 2 _ _ HR
  have rf3 := frozen_of_row w1 _ 3 _ _ HR
  simp only [List.getElem?_toArray, List.getElem?_cons_zero, List.getElem?_cons_succ] at r0 r1 r2 r3
  have HR' := Lib.hid HR
  clear HR
  have GA := Lib.hid HA2; have GR := Lib.hid HR2; clear HA2 HR2
  go_wp2_with fail
  go_region_held3 (fun w' => w'.cell? ⟨w.heap.size, 0, none⟩ = some (.int .i64 k) ∧ Below w1.heap.size w1 w')
    (first | exact ⟨a0, (Below.refl _ _).drew⟩ | assumption | exact ⟨cell_later hb2 (And.left ‹_ ∧ Below w1.heap.size w1 _›), below_step (And.right ‹_ ∧ Below w1.heap.size w1 _›) (Nat.le_refl _) hb2⟩)
    (first
      | (go_at_call 100; refine (sides_any _).mono ?_; rintro e w2 ⟨rfl, hb2⟩))
  obtain ⟨-, hb3⟩ := ‹_ ∧ Below w1.heap.size w1 _›
  clear hb2 a0 a1 a2 r0 r1 r2 r3 rf0 rf1 rf2 rf3 hi
  have hs2 := hb3.size
  have HA := row_later hb3 GA.out
  have HR := row_later hb3 GR.out
  clear HA' HR' GA GR
  have az := lt_of_block HA
  have a0 := cell_of_row w2 _ 0 _ _ _ HA
  have a1 := cell_of_row w2 _ 1 _ _ _ HA
  have a2 := cell_of_row w2 _ 2 _ _ _ HA
  simp only [List.getElem?_toArray, List.getElem?_cons_zero, List.getElem?_cons_succ] at a0 a1 a2
  have HA' := Lib.hid HA
  clear HA
  have rz := lt_of_block HR
  have r0 := cell_of_row w2 _ 0 _ _ _ HR
  have r1 := cell_of_row w2 _ 1 _ _ _ HR
  have r2 := cell_of_row w2 _ 2 _ _ _ HR
  have r3 := cell_of_row w2 _ 3 _ _ _ HR
  have rf0 := frozen_of_row w2 _ 0 _ _ HR
  have rf1 := frozen_of_row w2 _ 1 _ _ HR
  have rf2 := frozen_of_row w2 _ 2 _ _ HR
  have rf3 := frozen_of_row w2 _ 3 _ _ HR
  simp only [List.getElem?_toArray, List.getElem?_cons_zero, List.getElem?_cons_succ] at r0 r1 r2 r3
  have HR' := Lib.hid HR
  clear HR
  go_wp2
  refine bodyPost_ret (v := .tuple #[.agg #[.int .i64 (x * side k), .int .i64 (y * side k), .int .i64 (x * side k + side k - 1), .int .i64 (y * side k + side k - 1)], .int .i64 0]) ?_ rfl ⟨rfl, ?_⟩
  · simp [results, Tryz.results70, go_sem, rz, r0, r1, r2, r3]
  · repeat' (first | exact Below.refl _ _ | refine Below.drew ?_ | refine Below.drewN' ?_ | refine Below.setCell ?_ (by first | omega | (simp; done) | exact Below.size (by assumption) | (simp; omega)) _ | refine Below.alloc ?_ (by first | omega | (simp; done) | exact Below.size (by assumption) | (simp; omega)) _ | refine Below.trans ?_ (Below.mono (by assumption) ?_) | (first | omega | (simp; done) | exact Below.size (by assumption) | (simp; omega)))
set_option maxHeartbeats 400000 in
theorem scale_any (n : Int) (k : Nat) (hk : k ≤ 17) (hn : -4194304 ≤ n ∧ n ≤ 4194304) (b : Nat) (w : World) (hc : w.cell? ⟨b, 0, none⟩ = some (.int .i64 k)) :
    Calls Tryz.prog 71 #[.int .i64 n, .pointer (some ⟨b, 0, none⟩)] w fun e w' => e = .returned (.int .i64 (n * 256 / 2 ^ (20 - k))) ∧ w = w' := by
  go_enter Tryz.func71, Tryz.ntmps71
  go_wp2
  go_ret
  exact ⟨rfl, rfl⟩

theorem scale_still (n m : Int) (e : m = n) (k : Nat) (hk : k ≤ 17) (hn : -4194304 ≤ n ∧ n ≤ 4194304) (b : Nat) (w : World) (hc : w.cell? ⟨b, 0, none⟩ = some (.int .i64 k)) :
    Calls Tryz.prog 71 #[.int .i64 m, .pointer (some ⟨b, 0, none⟩)] w fun e w' => e = .returned (.int .i64 (n * 256 / 2 ^ (20 - k))) ∧ w' = w := by
  subst e
  exact (scale_any _ k hk hn b w hc).mono fun _ _ h => ⟨h.1, h.2.symm⟩

def nearB (x y : Int) : Bool := decide (-2097152 ≤ x ∧ x ≤ 2097152 ∧ -2097152 ≤ y ∧ y ≤ 2097152)

set_option maxRecDepth 100000 in
set_option maxHeartbeats 1000000 in
theorem pixel_ok (x y px py : Int) (k : Nat) (hk : k ≤ 17) (hx : 0 ≤ x ∧ x < 2 ^ k) (hy : 0 ≤ y ∧ y < 2 ^ k) (hn : nearB px py = true) (w : World) :
    Calls Tryz.prog 44 #[.agg #[.int .i64 k, .int .i64 x, .int .i64 y], .agg #[.int .i64 px, .int .i64 py]] w fun e w' => e = .returned (.tuple #[.agg #[.int .i64 ((px - x * side k) * 256 / 2 ^ (20 - k)), .int .i64 ((py - y * side k) * 256 / 2 ^ (20 - k))], .int .i64 0]) ∧ Below w.heap.size w w' := by
  simp only [nearB, decide_eq_true_eq] at hn
  obtain ⟨hn1, hn2, hn3, hn4⟩ := hn
  have hb := side_bd k hk
  have hmx := mul_side k hk x hx.1 hx.2
  have hmy := mul_side k hk y hy.1 hy.2
  have hw1 := Lib.hid (IntWalk.i64_in (px - x * side k) (by omega))
  have hw2 := Lib.hid (IntWalk.i64_in (py - y * side k) (by omega))
  have key : ∀ (_ : px < py ∨ px = py ∨ py < px), Calls Tryz.prog 44 #[.agg #[.int .i64 k, .int .i64 x, .int .i64 y], .agg #[.int .i64 px, .int .i64 py]] w fun e w' => e = .returned (.tuple #[.agg #[.int .i64 ((px - x * side k) * 256 / 2 ^ (20 - k)), .int .i64 ((py - y * side k) * 256 / 2 ^ (20 - k))], .int .i64 0]) ∧ Below w.heap.size w w' := by
    intro hc
    go_enter Tryz.func44, Tryz.ntmps44
    go_wp2_with fail
    refine (box_ok _ _ _ hk hx hy _).mono ?_; rintro e w1 ⟨rfl, hb1⟩
    have HA := row_later hb1 (row_past (row_past (row_new w _)))
    have HP := row_later hb1 (row_past (row_new1 w _ _))
    have HR := row_later hb1 (row_new2 w _ _ _)
    have hs1 := hb1.size; simp at hs1
    have rz := lt_of_block HR
    have r0 := cell_of_row w1 _ 0 _ _ _ HR
    have r1 := cell_of_row w1 _ 1 _ _ _ HR
    have rf0 := frozen_of_row w1 _ 0 _ _ HR
    have rf1 := frozen_of_row w1 _ 1 _ _ HR
    simp only [List.getElem?_toArray, List.getElem?_cons_zero, List.getElem?_cons_succ] at r0 r1
    have HR' := Lib.hid HR
    clear HR
    have pz := lt_of_block HP
    have p0 := cell_of_row w1 _ 0 _ _ _ HP
    have p1 := cell_of_row w1 _ 1 _ _ _ HP
    simp only [List.getElem?_toArray, List.getElem?_cons_zero, List.getElem?_cons_succ] at p0 p1
    have HP' := Lib.hid HP
    clear HP
    have az := lt_of_block HA
    have a0 := cell_of_row w1 _ 0 _ _ _ HA
    have a1 := cell_of_row w1 _ 1 _ _ _ HA
    have a2 := cell_of_row w1 _ 2 _ _ _ HA
    simp only [List.getElem?_toArray, List.getElem?_cons_zero, List.getElem?_cons_succ] at a0 a1 a2
    have HA' := Lib.hid HA
    clear HA
    clear hx hy
    rcases hc with hc | rfl | hc
    all_goals
      go_wp2_with fail
      refine wp_region_still_tail 17 (by kernel_rfl) (by kernel_rfl) ?_
      generalize hW : World.mk _ _ _ _ _ = w3
      have hW3 : w3 = (w1.alloc _).drew := hW.symm
      clear hW
      have hb3 : Below w1.heap.size w1 w3 := by rw [hW3]; exact ((Below.refl _ _).alloc (Nat.le_refl _) _).drew
      have hs3 : w1.heap.size + 1 ≤ w3.heap.size := by rw [hW3]; simp [go_sem]
      have HB := (congrArg (fun u : World => u.heap[w1.heap.size]?) hW3).trans (row_drew (row_new w1 _))
      have HA := row_later hb3 HA'.out
      have HP := row_later hb3 HP'.out
      have HR := row_later hb3 HR'.out
      clear hW3 HA' HP' HR' a0 a1 a2 p0 p1 r0 r1 rf0 rf1
      have rz := lt_of_block HR
      have r0 := cell_of_row w3 _ 0 _ _ _ HR
      have r1 := cell_of_row w3 _ 1 _ _ _ HR
      have rf0 := frozen_of_row w3 _ 0 _ _ HR
      have rf1 := frozen_of_row w3 _ 1 _ _ HR
      simp only [List.getElem?_toArray, List.getElem?_cons_zero, List.getElem?_cons_succ] at r0 r1
      have HR' := Lib.hid HR
      clear HR
      have pz := lt_of_block HP
      have p0 := cell_of_row w3 _ 0 _ _ _ HP
      have p1 := cell_of_row w3 _ 1 _ _ _ HP
      simp only [List.getElem?_toArray, List.getElem?_cons_zero, List.getElem?_cons_succ] at p0 p1
      have HP' := Lib.hid HP
      clear HP
      have az := lt_of_block HA
      have a0 := cell_of_row w3 _ 0 _ _ _ HA
      have a1 := cell_of_row w3 _ 1 _ _ _ HA
      have a2 := cell_of_row w3 _ 2 _ _ _ HA
      simp only [List.getElem?_toArray, List.getElem?_cons_zero, List.getElem?_cons_succ] at a0 a1 a2
      have HA' := Lib.hid HA
      clear HA
      have bz := lt_of_block HB
      have b0 := cell_of_row w3 _ 0 _ _ _ HB
      have b1 := cell_of_row w3 _ 1 _ _ _ HB
      have b2 := cell_of_row w3 _ 2 _ _ _ HB
      have b3 := cell_of_row w3 _ 3 _ _ _ HB
      simp only [List.getElem?_toArray, List.getElem?_cons_zero, List.getElem?_cons_succ] at b0 b1 b2 b3
      have HB' := Lib.hid HB
      clear HB
      simp only [List.take_succ_cons, List.take_zero, List.drop_succ_cons, List.drop_zero]
      repeat still_step
      still_call (scale_still _ _ hw1.out k hk ⟨by omega, by omega⟩ _ _ a0)
      repeat still_step
      still_call (scale_still _ _ hw2.out k hk ⟨by omega, by omega⟩ _ _ a0)
      repeat still_step
      refine wpStill_nil ?_
      go_wp2
      refine bodyPost_ret (v := .tuple #[.agg #[.int .i64 ((px - x * side k) * 256 / 2 ^ (20 - k)), .int .i64 (_ * 256 / 2 ^ (20 - k))], .int .i64 0]) ?_ rfl ⟨rfl, ?_⟩
      · simp [results, Tryz.results44, go_sem, r0, r1]
      · repeat' (first | exact Below.refl _ _ | refine Below.drew ?_ | refine Below.drewN' ?_ | refine Below.setCell ?_ (by first | omega | (simp; done) | exact Below.size (by assumption) | (simp; omega)) _ | refine Below.alloc ?_ (by first | omega | (simp; done) | exact Below.size (by assumption) | (simp; omega)) _ | refine Below.trans ?_ (Below.mono (by assumption) ?_) | (first | omega | (simp; done) | exact Below.size (by assumption) | (simp; omega)))
  exact key (by omega)
end Go.Proofs.YtapllmniplgajaaGreatDoor
