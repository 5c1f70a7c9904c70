/- Contracts of package grid: Pixel. -/
import Derived.Test.YtnilofeakdibhaaDoorGridC
namespace Go.Proofs.YtnilofeakdibhaaDoor
open Go.RowKit

set_option maxHeartbeats 400000 in
theorem scale_any (n : Int) (k : Nat) (hk : k ≤ 17) (hn : -4194304 ≤ n ∧ n ≤ 4194304) (b : Nat) (w : World) (hc : w.cell? ⟨b, 0, none⟩ = some (.int .i64 k)) :
    Calls Tryd.prog 37 #[.int .i64 n, .pointer (some ⟨b, 0, none⟩)] w fun e w' => e = .returned (.int .i64 (n * 256 / 2 ^ (20 - k))) ∧ w = w' := by
  go_enter Tryd.func37, Tryd.ntmps37
  go_wp2
  go_ret
  exact ⟨rfl, rfl⟩

theorem scale_still (n m : Int) (e : m = n) (k : Nat) (hk : k ≤ 17) (hn : -4194304 ≤ n ∧ n ≤ 4194304) (b : Nat) (w : World) (hc : w.cell? ⟨b, 0, none⟩ = some (.int .i64 k)) :
    Calls Tryd.prog 37 #[.int .i64 m, .pointer (some ⟨b, 0, none⟩)] w fun e w' => e = .returned (.int .i64 (n * 256 / 2 ^ (20 - k))) ∧ w' = w := by
  subst e
  exact (scale_any _ k hk hn b w hc).mono fun _ _ h => ⟨h.1, h.2.symm⟩

set_option maxHeartbeats 400000 in
theorem pixel_arg (z x y px py : Int) (hv : validB z x y = false) (w : World) :
    Calls Tryd.prog 16 #[.agg #[.int .i64 z, .int .i64 x, .int .i64 y], .agg #[.int .i64 px, .int .i64 py]] w fun e w' => e = .returned (.tuple #[.agg #[.int .i64 0, .int .i64 0], .int .i64 1]) ∧ Below w.heap.size w w' := by
  have HV := Lib.hid hv
  clear hv
  go_enter Tryd.func16, Tryd.ntmps16
  go_wp2_with fail
  refine (box_arg _ _ _ HV.out _).mono ?_; rintro e w1 ⟨rfl, hb1⟩
  have HR := row_later hb1 (row_new2 w _ _ _)
  have hs1 := hb1.size; simp at hs1
  have rz := lt_of_block HR
  have r0 := cell_of_row w1 _ 0 _ _ _ HR
  have r1 := cell_of_row w1 _ 1 _ _ _ HR
  have rf0 := frozen_of_row w1 _ 0 _ _ HR
  have rf1 := frozen_of_row w1 _ 1 _ _ HR
  simp only [List.getElem?_toArray, List.getElem?_cons_zero, List.getElem?_cons_succ] at r0 r1
  have HR' := Lib.hid HR
  clear HR
  go_wp2
  refine bodyPost_ret (v := .tuple #[.agg #[.int .i64 0, .int .i64 0], .int .i64 1]) ?_ rfl ⟨rfl, ?_⟩
  · simp [results, Tryd.results16, go_sem, rz, r0, r1]
  · repeat' (first | exact Below.refl _ _ | refine Below.drew ?_ | refine Below.drewN' ?_ | refine Below.setCell ?_ (by first | omega | (simp; done) | exact Below.size (by assumption) | (simp; omega)) _ | refine Below.alloc ?_ (by first | omega | (simp; done) | exact Below.size (by assumption) | (simp; omega)) _ | refine Below.trans ?_ (Below.mono (by assumption) ?_) | (first | omega | (simp; done) | exact Below.size (by assumption) | (simp; omega)))

def nearB (x y : Int) : Bool := decide (-2097152 ≤ x ∧ x ≤ 2097152 ∧ -2097152 ≤ y ∧ y ≤ 2097152)

set_option maxHeartbeats 1000000 in
theorem pixel_range (x y px py : Int) (k : Nat) (hk : k ≤ 17) (hx : 0 ≤ x ∧ x < 2 ^ k) (hy : 0 ≤ y ∧ y < 2 ^ k) (hn : nearB px py = false) (w : World) :
    Calls Tryd.prog 16 #[.agg #[.int .i64 k, .int .i64 x, .int .i64 y], .agg #[.int .i64 px, .int .i64 py]] w fun e w' => e = .returned (.tuple #[.agg #[.int .i64 0, .int .i64 0], .int .i64 10]) ∧ Below w.heap.size w w' := by
  simp only [nearB, decide_eq_false_iff_not] at hn
  go_enter Tryd.func16, Tryd.ntmps16
  go_wp2_with fail
  refine (box_ok _ _ _ hk hx hy _).mono ?_; rintro e w1 ⟨rfl, hb1⟩
  have HP := row_later hb1 (row_past (row_new1 w _ _))
  have HR := row_later hb1 (row_new2 w _ _ _)
  have hs1 := hb1.size; simp at hs1
  have rz := lt_of_block HR
  have r0 := cell_of_row w1 _ 0 _ _ _ HR
  have r1 := cell_of_row w1 _ 1 _ _ _ HR
  have rf0 := frozen_of_row w1 _ 0 _ _ HR
  have rf1 := frozen_of_row w1 _ 1 _ _ HR
  simp only [List.getElem?_toArray, List.getElem?_cons_zero, List.getElem?_cons_succ] at r0 r1
  have HR' := Lib.hid HR
  clear HR
  have pz := lt_of_block HP
  have p0 := cell_of_row w1 _ 0 _ _ _ HP
  have p1 := cell_of_row w1 _ 1 _ _ _ HP
  simp only [List.getElem?_toArray, List.getElem?_cons_zero, List.getElem?_cons_succ] at p0 p1
  have HP' := Lib.hid HP
  clear HP
  clear hx hy
  go_wp2
  all_goals
    refine bodyPost_ret (v := .tuple #[.agg #[.int .i64 0, .int .i64 0], .int .i64 10]) ?_ rfl ⟨rfl, ?_⟩
    · simp [results, Tryd.results16, go_sem, rz, r0, r1]
    · repeat' (first | exact Below.refl _ _ | refine Below.drew ?_ | refine Below.drewN' ?_ | refine Below.setCell ?_ (by first | omega | (simp; done) | exact Below.size (by assumption) | (simp; omega)) _ | refine Below.alloc ?_ (by first | omega | (simp; done) | exact Below.size (by assumption) | (simp; omega)) _ | refine Below.trans ?_ (Below.mono (by assumption) ?_) | (first | omega | (simp; done) | exact Below.size (by assumption) | (simp; omega)))

set_option maxRecDepth 100000 in
set_option maxHeartbeats 1000000 in
theorem pixel_ok (x y px py : Int) (k : Nat) (hk : k ≤ 17) (hx : 0 ≤ x ∧ x < 2 ^ k) (hy : 0 ≤ y ∧ y < 2 ^ k) (hn : nearB px py = true) (w : World) :
    Calls Tryd.prog 16 #[.agg #[.int .i64 k, .int .i64 x, .int .i64 y], .agg #[.int .i64 px, .int .i64 py]] w fun e w' => e = .returned (.tuple #[.agg #[.int .i64 ((px - x * side k) * 256 / 2 ^ (20 - k)), .int .i64 ((py - y * side k) * 256 / 2 ^ (20 - k))], .int .i64 0]) ∧ Below w.heap.size w w' := by
  simp only [nearB, decide_eq_true_eq] at hn
  obtain ⟨hn1, hn2, hn3, hn4⟩ := hn
  have hb := side_bd k hk
  have hmx := mul_side k hk x hx.1 hx.2
  have hmy := mul_side k hk y hy.1 hy.2
  have hw1 := Lib.hid (IntWalk.i64_in (px - x * side k) (by omega))
  have hw2 := Lib.hid (IntWalk.i64_in (py - y * side k) (by omega))
  have key : ∀ (_ : px < py ∨ px = py ∨ py < px), Calls Tryd.prog 16 #[.agg #[.int .i64 k, .int .i64 x, .int .i64 y], .agg #[.int .i64 px, .int .i64 py]] w fun e w' => e = .returned (.tuple #[.agg #[.int .i64 ((px - x * side k) * 256 / 2 ^ (20 - k)), .int .i64 ((py - y * side k) * 256 / 2 ^ (20 - k))], .int .i64 0]) ∧ Below w.heap.size w w' := by
    intro hc
    go_enter Tryd.func16, Tryd.ntmps16
    go_wp2_with fail
    refine (box_ok _ _ _ hk hx hy _).mono ?_; rintro e w1 ⟨rfl, hb1⟩
    have HA := row_later hb1 (row_past (row_past (row_new w _)))
    have HP := row_later hb1 (row_past (row_new1 w _ _))
    have HR := row_later hb1 (row_new2 w _ _ _)
    have hs1 := hb1.size; simp at hs1
    have rz := lt_of_block HR
    have r0 := cell_of_row w1 _ 0 _ _ _ HR
    have r1 := cell_of_row w1 _ 1 _ _ _ HR
    have rf0 := frozen_of_row w1 _ 0 _ _ HR
    have rf1 := frozen_of_row w1 _ 1 _ _ HR
    simp only [List.getElem?_toArray, List.getElem?_cons_zero, List.getElem?_cons_succ] at r0 r1
    have HR' := Lib.hid HR
    clear HR
    have pz := lt_of_block HP
    have p0 := cell_of_row w1 _ 0 _ _ _ HP
    have p1 := cell_of_row w1 _ 1 _ _ _ HP
    simp only [List.getElem?_toArray, List.getElem?_cons_zero, List.getElem?_cons_succ] at p0 p1
    have HP' := Lib.hid HP
    clear HP
    have az := lt_of_block HA
    have a0 := cell_of_row w1 _ 0 _ _ _ HA
    have a1 := cell_of_row w1 _ 1 _ _ _ HA
    have a2 := cell_of_row w1 _ 2 _ _ _ HA
    simp only [List.getElem?_toArray, List.getElem?_cons_zero, List.getElem?_cons_succ] at a0 a1 a2
    have HA' := Lib.hid HA
    clear HA
    clear hx hy
    rcases hc with hc | rfl | hc
    all_goals
      go_wp2_with fail
      refine wp_region_still_tail 17 (by kernel_rfl) (by kernel_rfl) ?_
      generalize hW : World.mk _ _ _ _ _ = w3
      have hW3 : w3 = (w1.alloc _).drew := hW.symm
      clear hW
      have hb3 : Below w1.heap.size w1 w3 := by rw [hW3]; exact ((Below.refl _ _).alloc (Nat.le_refl _) _).drew
      have hs3 : w1.heap.size + 1 ≤ w3.heap.size := by rw [hW3]; simp [go_sem]
      have HB := (congrArg (fun u : World => u.heap[w1.heap.size]?) hW3).trans (row_drew (row_new w1 _))
      have HA := row_later hb3 HA'.out
      have HP := row_later hb3 HP'.out
      have HR := row_later hb3 HR'.out
      clear hW3 HA' HP' HR' a0 a1 a2 p0 p1 r0 r1 rf0 rf1
      have rz := lt_of_block HR
      have r0 := cell_of_row w3 _ 0 _ _ _ HR
      have r1 := cell_of_row w3 _ 1 _ _ _ HR
      have rf0 := frozen_of_row w3 _ 0 _ _ HR
      have rf1 := frozen_of_row w3 _ 1 _ _ HR
      simp only [List.getElem?_toArray, List.getElem?_cons_zero, List.getElem?_cons_succ] at r0 r1
      have HR' := Lib.hid HR
      clear HR
      have pz := lt_of_block HP
      have p0 := cell_of_row w3 _ 0 _ _ _ HP
      have p1 := cell_of_row w3 _ 1 _ _ _ HP
      simp only [List.getElem?_toArray, List.getElem?_cons_zero, List.getElem?_cons_succ] at p0 p1
      have HP' := Lib.hid HP
      clear HP
      have az := lt_of_block HA
      have a0 := cell_of_row w3 _ 0 _ _ _ HA
      have a1 := cell_of_row w3 _ 1 _ _ _ HA
      have a2 := cell_of_row w3 _ 2 _ _ _ HA
      simp only [List.getElem?_toArray, List.getElem?_cons_zero, List.getElem?_cons_succ] at a0 a1 a2
      have HA' := Lib.hid HA
      clear HA
      have bz := lt_of_block HB
      have b0 := cell_of_row w3 _ 0 _ _ _ HB
      have b1 := cell_of_row w3 _ 1 _ _ _ HB
      have b2 := cell_of_row w3 _ 2 _ _ _ HB
      have b3 := cell_of_row w3 _ 3 _ _ _ HB
      simp only [List.getElem?_toArray, List.getElem?_cons_zero, List.getElem?_cons_succ] at b0 b1 b2 b3
      have HB' := Lib.hid HB
      clear HB
      simp only [List.take_succ_cons, List.take_zero, List.drop_succ_cons, List.drop_zero]
      repeat still_step
      still_call (scale_still _ _ hw1.out k hk ⟨by omega, by omega⟩ _ _ a0)
      repeat still_step
      still_call (scale_still _ _ hw2.out k hk ⟨by omega, by omega⟩ _ _ a0)
      repeat still_step
      refine wpStill_nil ?_
      go_wp2
      refine bodyPost_ret (v := .tuple #[.agg #[.int .i64 ((px - x * side k) * 256 / 2 ^ (20 - k)), .int .i64 (_ * 256 / 2 ^ (20 - k))], .int .i64 0]) ?_ rfl ⟨rfl, ?_⟩
      · simp [results, Tryd.results16, go_sem, r0, r1]
      · repeat' (first | exact Below.refl _ _ | refine Below.drew ?_ | refine Below.drewN' ?_ | refine Below.setCell ?_ (by first | omega | (simp; done) | exact Below.size (by assumption) | (simp; omega)) _ | refine Below.alloc ?_ (by first | omega | (simp; done) | exact Below.size (by assumption) | (simp; omega)) _ | refine Below.trans ?_ (Below.mono (by assumption) ?_) | (first | omega | (simp; done) | exact Below.size (by assumption) | (simp; omega)))
  exact key (by omega)
end Go.Proofs.YtnilofeakdibhaaDoor
