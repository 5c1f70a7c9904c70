/- Kids of package grid; GridKids: the walk. -/
import Derived.Test.YtnilofeakdibhaaDoorGridAll
import Derived.Test.YtnilofeakdibhaaDoorGridOf
namespace Go.Proofs.YtnilofeakdibhaaDoor
open Go.RowKit

/-- A slice value that leads to a row of tiles. -/
def TileRow (w : World) (v : Value) (l : List (Int × Int × Int)) : Prop :=
  ∃ (g cap : Nat) (cur : Array Value), v = .slice (some ⟨g, 0, none⟩) l.length cap ∧ w.heap[g]? = some (.cells cur 23 (0, 0)) ∧ ∀ (j : Nat) (u : Value), (tileCells l)[j]? = some u → cur[j]? = some u
theorem tileRow_of {w : World} {base : Nat} {v : Value} {l : List (Int × Int × Int)} (h : w.ownsRow base 23 3 v l.length (tileCells l)) (hl : l ≠ []) : TileRow w v l := by
  rcases h.2 with ⟨_, h0⟩ | ⟨g, cap, cur, rfl, _, hh, _, _, _, ht⟩
  · exact absurd (List.length_eq_zero_iff.1 h0) hl
  · refine ⟨g, cap, cur, rfl, hh, fun j u hj => ?_⟩
    have : cur.toList[j]? = some u := by
      rw [← ht] at hj
      rw [List.getElem?_take] at hj
      split at hj
      · exact hj
      · cases hj
    simpa using this
theorem sq_two (z fx fy : Int) : sqL z fx fy 2 2 = [(z, fx, fy), (z, fx + 1, fy), (z, fx, fy + 1), (z, fx + 1, fy + 1)] := by
  simp [sqL, rowL, List.range_succ]

def KidsPost (z x y : Int) (w : World) (e : Ending) (w' : World) : Prop :=
  (∃ v, e = .returned (.tuple #[v, .int .i64 0]) ∧ TileRow w' v [(z + 1, 2 * x, 2 * y), (z + 1, 2 * x + 1, 2 * y), (z + 1, 2 * x, 2 * y + 1), (z + 1, 2 * x + 1, 2 * y + 1)]) ∧ Below w.heap.size w w'

set_option maxHeartbeats 400000 in
theorem kids_ok (z x y : Int) (hv : validB z x y = true) (hz : z < 17) (w : World) :
    Calls Tryd.prog 19 #[.agg #[.int .i64 z, .int .i64 x, .int .i64 y]] w (KidsPost z x y w) := by
  have hbd : 0 ≤ z ∧ z ≤ 17 ∧ 0 ≤ x ∧ x < 131072 ∧ 0 ≤ y ∧ y < 131072 := by
    simp only [validB, decide_eq_true_eq] at hv
    have := pow_bd z.toNat (by omega)
    omega
  obtain ⟨hz0, hz1, hx0, hx1, hy0, hy1⟩ := hbd
  have LV := Lib.hid hv
  clear hv
  have hne : (z == 17) = false := by rw [beq_eq_false_iff_ne]; omega
  go_enter Tryd.func19, Tryd.ntmps19
  go_wp2_with fail
  refine (valid_below _ _ _ _).mono ?_; rintro e w1 ⟨rfl, hb1⟩; rw [LV.out]
  have HA := row_later hb1 (row_new w _)
  have B1 : Below w.heap.size w w1 := below_step ((Below.refl _ _).alloc (Nat.le_refl _) _) (Nat.le_refl _) hb1
  have az := lt_of_block HA
  have a0 := cell_of_row w1 _ 0 _ _ _ HA
  have a1 := cell_of_row w1 _ 1 _ _ _ HA
  have a2 := cell_of_row w1 _ 2 _ _ _ HA
  simp only [List.getElem?_toArray, List.getElem?_cons_zero, List.getElem?_cons_succ] at a0 a1 a2
  have HA' := Lib.hid HA
  clear HA
  go_wp2_with fail
  refine (all_any _ _ _ _ _ _ 2 2 (by omega) (by omega) (by omega) (by omega) (by omega) _).mono ?_
  rintro e w2 ⟨v, rfl, hrow, -, hb2⟩
  have B2 := below_step B1 (Nat.le_refl _) hb2
  have HT := Lib.hid (tileRow_of hrow (by rw [sq_two]; simp))
  clear hrow hb2 B1 a0 a1 a2 az
  go_wp2
  go_ret2
  exact ⟨⟨_, rfl, by have := HT.out; rw [sq_two] at this; exact this⟩, B2⟩

set_option maxHeartbeats 400000 in
theorem kids_arg (z x y : Int) (hv : validB z x y = false) (w : World) :
    Calls Tryd.prog 19 #[.agg #[.int .i64 z, .int .i64 x, .int .i64 y]] w fun e w' => e = .returned (.tuple #[.slice none 0 0, .int .i64 1]) ∧ Below w.heap.size w w' := by
  have LV := Lib.hid hv
  clear hv
  go_enter Tryd.func19, Tryd.ntmps19
  go_wp2_with fail
  refine (valid_below _ _ _ _).mono ?_; rintro e w1 ⟨rfl, hb1⟩; rw [LV.out]
  go_wp2
  go_ret2
  refine ⟨rfl, ?_⟩
  repeat' (first | exact Below.refl _ _ | refine Below.drew ?_ | refine Below.drewN' ?_ | refine Below.setCell ?_ (by first | omega | (simp; done) | exact Below.size (by assumption) | (simp; omega)) _ | refine Below.alloc ?_ (by first | omega | (simp; done) | exact Below.size (by assumption) | (simp; omega)) _ | refine Below.trans ?_ (Below.mono (by assumption) ?_) | (first | omega | (simp; done) | exact Below.size (by assumption) | (simp; omega)))
set_option maxHeartbeats 400000 in
theorem kids_none (x y : Int) (hv : validB 17 x y = true) (w : World) :
    Calls Tryd.prog 19 #[.agg #[.int .i64 17, .int .i64 x, .int .i64 y]] w fun e w' => e = .returned (.tuple #[.slice none 0 0, .int .i64 11]) ∧ Below w.heap.size w w' := by
  have LV := Lib.hid hv
  clear hv
  go_enter Tryd.func19, Tryd.ntmps19
  go_wp2_with fail
  refine (valid_below _ _ _ _).mono ?_; rintro e w1 ⟨rfl, hb1⟩; rw [LV.out]
  have HA := row_later hb1 (row_new w _)
  have az := lt_of_block HA
  have a0 := cell_of_row w1 _ 0 _ _ _ HA
  have a1 := cell_of_row w1 _ 1 _ _ _ HA
  have a2 := cell_of_row w1 _ 2 _ _ _ HA
  simp only [List.getElem?_toArray, List.getElem?_cons_zero, List.getElem?_cons_succ] at a0 a1 a2
  have HA' := Lib.hid HA
  clear HA
  go_wp2
  go_ret2
  refine ⟨rfl, ?_⟩
  repeat' (first | exact Below.refl _ _ | refine Below.drew ?_ | refine Below.drewN' ?_ | refine Below.setCell ?_ (by first | omega | (simp; done) | exact Below.size (by assumption) | (simp; omega)) _ | refine Below.alloc ?_ (by first | omega | (simp; done) | exact Below.size (by assumption) | (simp; omega)) _ | refine Below.trans ?_ (Below.mono (by assumption) ?_) | (first | omega | (simp; done) | exact Below.size (by assumption) | (simp; omega)))
end Go.Proofs.YtnilofeakdibhaaDoor
