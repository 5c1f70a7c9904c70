/- Contracts of the reference of layer 7: Kids, Cover, Same; the program and the reference side by side. -/
import Derived.Test.YtnilofeakdibhaaDoorGridRB
import Derived.Test.YtnilofeakdibhaaDoorGridCovOk
namespace Go.Proofs.YtnilofeakdibhaaDoor
open Go.RowKit

attribute [local go_sem] Oper.semAt_some

/-- A slice value that reads as a list of tiles, in a block at or above a bound. -/
def SliceIs (b : Nat) (w : World) (v : Value) (l : List (Int × Int × Int)) : Prop := (v = .slice none 0 0 ∧ l = []) ∨ (l ≠ [] ∧ TileRowB b w v l)
theorem SliceIs.later {b : Nat} {w w' : World} {v : Value} {l : List (Int × Int × Int)} (h : SliceIs b w v l) (hb : Below w.heap.size w w') : SliceIs b w' v l := by
  rcases h with h | ⟨h0, g, cap, cur, hg, h1, h2, h3⟩
  · exact .inl h
  · exact .inr ⟨h0, g, cap, cur, hg, h1, row_later hb h2, h3⟩
theorem SliceIs.set {b : Nat} {w : World} {v : Value} {l : List (Int × Int × Int)} (h : SliceIs b w v l) {a : Addr} (ha : a.block < b) (u : Value) : SliceIs b (w.setCell a u) v l := by
  rcases h with h | ⟨h0, g, cap, cur, hg, h1, h2, h3⟩
  · exact .inl h
  · exact .inr ⟨h0, g, cap, cur, hg, h1, row_set_other h2 (by omega), h3⟩
def ListPost (b : Nat) (l : List (Int × Int × Int)) (E : Int) (w : World) (e : Ending) (w' : World) : Prop :=
  (∃ v, e = .returned (.tuple #[v, .int .i64 E]) ∧ SliceIs b w' v l) ∧ Below w.heap.size w w'
theorem sliceIs_own {w : World} {base : Nat} {v : Value} {l : List (Int × Int × Int)} (h : w.ownsRow base 23 3 v l.length (tileCells l)) (hl : l ≠ []) {b : Nat} (hb : b ≤ base) : SliceIs b w v l := .inr ⟨hl, tileRowB_of h hl hb⟩
theorem tileRow_free {b : Nat} {w : World} {v : Value} {l : List (Int × Int × Int)} (h : TileRowB b w v l) : TileRow w v l := by
  obtain ⟨g, cap, cur, -, h⟩ := h
  exact ⟨g, cap, cur, h⟩

/-- Behind an append to a row of the call's own: the world has only grown from the block at which the row begins. -/
theorem appended {W w1 : World} {n₀ : Nat} {e : TypeId} {size : Nat} {v : Value} {k : Nat} {xs : List Value} {tmp : Obj}
    (hrow : W.ownsRow n₀ e size v k xs) (hn₀ : n₀ ≤ W.heap.size) (hgrow : (W.alloc tmp).grownBy w1 v.ownBlock) : Below n₀ W w1 := by
  refine ((Below.refl n₀ W).alloc hn₀ tmp).grown hgrow (by simp; omega) fun j ej => ?_
  rcases hrow.2 with ⟨rfl, _⟩ | ⟨g, cap, cur, rfl, hb, _, _⟩
  · simp [Value.ownBlock] at ej
  · obtain rfl : g = j := by simpa [Value.ownBlock] using ej
    exact hb

def kidL (z x y : Int) : List (Int × Int × Int) := [(z + 1, 2 * x, 2 * y), (z + 1, 2 * x + 1, 2 * y), (z + 1, 2 * x, 2 * y + 1), (z + 1, 2 * x + 1, 2 * y + 1)]

set_option maxRecDepth 100000 in
set_option maxHeartbeats 1000000 in
theorem rkids_ok (z x y : Int) (hv : validB z x y = true) (hz : z < 17) (w : World) :
    Calls Tryd.prog 23 #[.agg #[.int .i64 z, .int .i64 x, .int .i64 y]] w (ListPost 0 (kidL z x y) 0 w) := by
  have hbd := valid_bd hv
  obtain ⟨hz0, hz1, hx0, hx1, hy0, hy1⟩ := hbd
  obtain ⟨i0, hi, hi0, hi1, hi2⟩ := info_parts infoTile
  have LV := Lib.hid hv
  clear hv
  have hne : (z == 17) = false := by rw [beq_eq_false_iff_ne]; omega
  go_enter Tryd.func23, Tryd.ntmps23
  go_wp2_with fail
  refine (rvalid_below _ _ _ _).mono ?_; rintro e w1 ⟨rfl, hb1⟩; rw [LV.out]
  have GA := Lib.hid (row_later hb1 (row_new w _))
  have B1 : Below w.heap.size w w1 := below_step ((Below.refl _ _).alloc (Nat.le_refl _) _) (Nat.le_refl _) hb1
  clear hb1
  have HA := GA.out
  have az := lt_of_block HA
  have a0 := cell_of_row w1 _ 0 _ _ _ HA
  have a1 := cell_of_row w1 _ 1 _ _ _ HA
  have a2 := cell_of_row w1 _ 2 _ _ _ HA
  simp only [List.getElem?_toArray, List.getElem?_cons_zero, List.getElem?_cons_succ] at a0 a1 a2
  have HA' := Lib.hid HA
  clear HA
  clear HA'
  go_wp2
  clear a0 a1 a2 az
  go_loopw [4, 5] (fun v i wr => ∃ j : Nat, j ≤ 4 ∧ i = .int .i64 j ∧ wr.ownsRow w1.heap.size 23 3 v j (tileCells ((kidL z x y).take j)) ∧ Below w1.heap.size w1 wr) (fun _ i _ => 4 - (intOf i).toNat)
  case atStart => exact ⟨0, by omega, rfl, World.ownsRow_nil _ _ _ _, Below.refl _ _⟩
  case round =>
    obtain ⟨j, hj, rfl, hrow, hbr⟩ := hrel
    have HA := row_later hbr GA.out
    have hsz := hbr.size
    by_cases hlt : j < 4
    · have az := lt_of_block HA
      have a0 := cell_of_row wr _ 0 _ _ _ HA
      have a1 := cell_of_row wr _ 1 _ _ _ HA
      have a2 := cell_of_row wr _ 2 _ _ _ HA
      simp only [List.getElem?_toArray, List.getElem?_cons_zero, List.getElem?_cons_succ] at a0 a1 a2
      have HA' := Lib.hid HA
      clear HA
      clear HA'
      obtain rfl | rfl | rfl | rfl : j = 0 ∨ j = 1 ∨ j = 2 ∨ j = 3 := by omega
      case inl =>
        go_wp2_with
          (at_builtin; refine wpList_append_own _ rfl _ _ 45 rfl w1.heap.size 23 i0 (.agg #[.int .i64 0, .int .i64 0, .int .i64 0]) 3 24 Tryd.underlying45 hi hi0 hi1 hi2 rfl (by decide) _ _ _ rfl (hrow.alloc _) ⟨wr.heap.size, 0, none⟩ 1 1 [.int .i64 (z + 1), .int .i64 (2 * x), .int .i64 (2 * y)] rfl rfl (cells_new _ _ _) (by simp [Value.oneCell']) (by unfold maxLen; omega) (by omega) (by simp; omega) ?_; intro v' w2 hown hgrow _; have hb2 := appended hrow hsz hgrow)
        have HO := Lib.hid (show w2.ownsRow w1.heap.size 23 3 v' (0 + 1) (tileCells ((kidL z x y).take (0 + 1))) from hown)
        clear hown
        go_roundw
        case rel => exact ⟨0 + 1, by omega, by go_num, HO.out, hbr.trans hb2⟩
        case measure => simp [intOf]
      case inr.inl =>
        go_wp2_with
          (at_builtin; refine wpList_append_own _ rfl _ _ 45 rfl w1.heap.size 23 i0 (.agg #[.int .i64 0, .int .i64 0, .int .i64 0]) 3 24 Tryd.underlying45 hi hi0 hi1 hi2 rfl (by decide) _ _ _ rfl (hrow.alloc _) ⟨wr.heap.size, 0, none⟩ 1 1 [.int .i64 (z + 1), .int .i64 (2 * x + 1), .int .i64 (2 * y)] rfl rfl (cells_new _ _ _) (by simp [Value.oneCell']) (by unfold maxLen; omega) (by omega) (by simp; omega) ?_; intro v' w2 hown hgrow _; have hb2 := appended hrow hsz hgrow)
        have HO := Lib.hid (show w2.ownsRow w1.heap.size 23 3 v' (1 + 1) (tileCells ((kidL z x y).take (1 + 1))) from hown)
        clear hown
        go_roundw
        case rel => exact ⟨1 + 1, by omega, by go_num, HO.out, hbr.trans hb2⟩
        case measure => simp [intOf]
      case inr.inr.inl =>
        go_wp2_with
          (at_builtin; refine wpList_append_own _ rfl _ _ 45 rfl w1.heap.size 23 i0 (.agg #[.int .i64 0, .int .i64 0, .int .i64 0]) 3 24 Tryd.underlying45 hi hi0 hi1 hi2 rfl (by decide) _ _ _ rfl (hrow.alloc _) ⟨wr.heap.size, 0, none⟩ 1 1 [.int .i64 (z + 1), .int .i64 (2 * x), .int .i64 (2 * y + 1)] rfl rfl (cells_new _ _ _) (by simp [Value.oneCell']) (by unfold maxLen; omega) (by omega) (by simp; omega) ?_; intro v' w2 hown hgrow _; have hb2 := appended hrow hsz hgrow)
        have HO := Lib.hid (show w2.ownsRow w1.heap.size 23 3 v' (2 + 1) (tileCells ((kidL z x y).take (2 + 1))) from hown)
        clear hown
        go_roundw
        case rel => exact ⟨2 + 1, by omega, by go_num, HO.out, hbr.trans hb2⟩
        case measure => simp [intOf]
      case inr.inr.inr =>
        go_wp2_with
          (at_builtin; refine wpList_append_own _ rfl _ _ 45 rfl w1.heap.size 23 i0 (.agg #[.int .i64 0, .int .i64 0, .int .i64 0]) 3 24 Tryd.underlying45 hi hi0 hi1 hi2 rfl (by decide) _ _ _ rfl (hrow.alloc _) ⟨wr.heap.size, 0, none⟩ 1 1 [.int .i64 (z + 1), .int .i64 (2 * x + 1), .int .i64 (2 * y + 1)] rfl rfl (cells_new _ _ _) (by simp [Value.oneCell']) (by unfold maxLen; omega) (by omega) (by simp; omega) ?_; intro v' w2 hown hgrow _; have hb2 := appended hrow hsz hgrow)
        have HO := Lib.hid (show w2.ownsRow w1.heap.size 23 3 v' (3 + 1) (tileCells ((kidL z x y).take (3 + 1))) from hown)
        clear hown
        go_roundw
        case rel => exact ⟨3 + 1, by omega, by go_num, HO.out, hbr.trans hb2⟩
        case measure => simp [intOf]
    · obtain rfl : j = 4 := by omega
      have HS := Lib.hid (sliceIs_own (l := kidL z x y) hrow (by simp [kidL]) (Nat.zero_le _))
      clear hrow
      go_wp2
      go_ret2
      exact ⟨⟨_, rfl, HS.out⟩, below_step B1 (Nat.le_refl _) hbr⟩

set_option maxHeartbeats 400000 in
theorem rkids_arg (z x y : Int) (hv : validB z x y = false) (w : World) :
    Calls Tryd.prog 23 #[.agg #[.int .i64 z, .int .i64 x, .int .i64 y]] w fun e w' => e = .returned (.tuple #[.slice none 0 0, .int .i64 1]) ∧ Below w.heap.size w w' := by
  have LV := Lib.hid hv
  clear hv
  go_enter Tryd.func23, Tryd.ntmps23
  go_wp2_with fail
  refine (rvalid_below _ _ _ _).mono ?_; rintro e w1 ⟨rfl, hb1⟩; rw [LV.out]
  go_wp2
  go_ret2
  refine ⟨rfl, ?_⟩
  repeat' (first | exact Below.refl _ _ | refine Below.drew ?_ | refine Below.drewN' ?_ | refine Below.setCell ?_ (by first | omega | (simp; done) | exact Below.size (by assumption) | (simp; omega)) _ | refine Below.alloc ?_ (by first | omega | (simp; done) | exact Below.size (by assumption) | (simp; omega)) _ | refine Below.trans ?_ (Below.mono (by assumption) ?_) | (first | omega | (simp; done) | exact Below.size (by assumption) | (simp; omega)))
set_option maxHeartbeats 400000 in
theorem rkids_none (x y : Int) (hv : validB 17 x y = true) (w : World) :
    Calls Tryd.prog 23 #[.agg #[.int .i64 17, .int .i64 x, .int .i64 y]] w fun e w' => e = .returned (.tuple #[.slice none 0 0, .int .i64 11]) ∧ Below w.heap.size w w' := by
  have LV := Lib.hid hv
  clear hv
  go_enter Tryd.func23, Tryd.ntmps23
  go_wp2_with fail
  refine (rvalid_below _ _ _ _).mono ?_; rintro e w1 ⟨rfl, hb1⟩; rw [LV.out]
  have HA := row_later hb1 (row_new w _)
  have az := lt_of_block HA
  have a0 := cell_of_row w1 _ 0 _ _ _ HA
  have a1 := cell_of_row w1 _ 1 _ _ _ HA
  have a2 := cell_of_row w1 _ 2 _ _ _ HA
  simp only [List.getElem?_toArray, List.getElem?_cons_zero, List.getElem?_cons_succ] at a0 a1 a2
  have HA' := Lib.hid HA
  clear HA
  go_wp2
  go_ret2
  refine ⟨rfl, ?_⟩
  repeat' (first | exact Below.refl _ _ | refine Below.drew ?_ | refine Below.drewN' ?_ | refine Below.setCell ?_ (by first | omega | (simp; done) | exact Below.size (by assumption) | (simp; omega)) _ | refine Below.alloc ?_ (by first | omega | (simp; done) | exact Below.size (by assumption) | (simp; omega)) _ | refine Below.trans ?_ (Below.mono (by assumption) ?_) | (first | omega | (simp; done) | exact Below.size (by assumption) | (simp; omega)))

set_option maxRecDepth 100000 in
set_option maxHeartbeats 1000000 in
theorem same_row (v u : Value) (l : List (Int × Int × Int)) (hl : l.length ≤ 1000000) (w : World) (hv : TileRow w v l) (hu : TileRow w u l) :
    Calls Tryd.prog 24 #[v, u] w fun e w' => e = .returned (.bool true) ∧ Below w.heap.size w w' := by
  obtain ⟨g, cap, cur, rfl, hg, hc⟩ := hv
  obtain ⟨g', cap', cur', rfl, hg', hc'⟩ := hu
  generalize hN : l.length = N at *
  have HN := Lib.hid hN
  have HC := Lib.hid hc
  have HC' := Lib.hid hc'
  have G := Lib.hid hg
  have G' := Lib.hid hg'
  clear hN hc hc' hg hg'
  go_enter Tryd.func24, Tryd.ntmps24
  go_wp2
  go_loopw [5] (fun i wr => ∃ j : Nat, j ≤ N ∧ i = .int .i64 j ∧ Below w.heap.size w wr) (fun i _ => N - (intOf i).toNat)
  case atStart => exact ⟨0, by omega, rfl, Below.refl _ _⟩
  case round =>
    obtain ⟨j, hj, rfl, hbr⟩ := hrel
    by_cases hlt : j < N
    · obtain ⟨⟨a, b, c⟩, ht⟩ : ∃ t, l[j]? = some t := ⟨l[j]'(by rw [HN.out]; exact hlt), List.getElem?_eq_getElem _⟩
      obtain ⟨h0, h1, h2⟩ := cells_at l j _ ht
      have q0 := HC.out _ _ h0
      have q1 := HC.out _ _ h1
      have q2 := HC.out _ _ h2
      have r0 := HC'.out _ _ h0
      have r1 := HC'.out _ _ h1
      have r2 := HC'.out _ _ h2
      have HG := row_later hbr G.out
      have HG' := row_later hbr G'.out
      have pz := lt_of_block HG
      have pa := (cell_of_row wr _ (3 * j) _ _ _ HG).trans q0
      have pb := (cell_of_row wr _ (3 * j + 1) _ _ _ HG).trans q1
      have pc := (cell_of_row wr _ (3 * j + 2) _ _ _ HG).trans q2
      have sz := lt_of_block HG'
      have sa := (cell_of_row wr _ (3 * j) _ _ _ HG').trans r0
      have sb := (cell_of_row wr _ (3 * j + 1) _ _ _ HG').trans r1
      have sc := (cell_of_row wr _ (3 * j + 2) _ _ _ HG').trans r2
      rw [Nat.mul_comm 3] at pa pb pc sa sb sc
      clear ht h0 h1 h2 q0 q1 q2 r0 r1 r2 HG HG'
      go_wp2
      go_quiet (fail)
      go_wp2
      go_roundw
      case rel => exact ⟨j + 1, by omega, by go_num, hbr.drewN'⟩
      case measure => simp [intOf]; omega
    · obtain rfl : j = N := by omega
      go_wp2
      go_ret
      exact ⟨rfl, hbr⟩
theorem same_nil (w : World) :
    Calls Tryd.prog 24 #[.slice none 0 0, .slice none 0 0] w fun e w' => e = .returned (.bool true) ∧ w = w' := by
  go_enter Tryd.func24, Tryd.ntmps24
  go_wp2
  refine wp_loop_rounds 1 ?_
  rw [rounds_succ]
  go_wp2
  go_ret
  exact ⟨rfl, rfl⟩
theorem same_any {b b' : Nat} (v u : Value) (l : List (Int × Int × Int)) (hl : l.length ≤ 1000000) (w : World) (hv : SliceIs b w v l) (hu : SliceIs b' w u l) :
    Calls Tryd.prog 24 #[v, u] w fun e w' => e = .returned (.bool true) ∧ Below w.heap.size w w' := by
  rcases hv with ⟨rfl, hl0⟩ | ⟨hne, hv⟩
  · rcases hu with ⟨rfl, -⟩ | ⟨hne, -⟩
    · exact (same_nil w).mono fun e w' ⟨h, h'⟩ => ⟨h, by subst h'; exact Below.refl _ _⟩
    · exact absurd hl0 hne
  · rcases hu with ⟨-, hl0⟩ | ⟨-, hu⟩
    · exact absurd hl0 hne
    · exact same_row v u l hl w (tileRow_free hv) (tileRow_free hu)
end Go.Proofs.YtnilofeakdibhaaDoor
