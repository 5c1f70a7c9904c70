/- Contract of package grid: Cover. -/
import Derived.Test.YtnilofeakdibhaaDoorGridKids
import Derived.Test.YtnilofeakdibhaaDoorGridOf
namespace Go.Proofs.YtnilofeakdibhaaDoor
open Go.RowKit

/-- Of has a tile for the point and the level. -/
def ofG (x y z : Int) : Bool := decide (0 ≤ z ∧ z ≤ 17 ∧ 0 ≤ x ∧ 0 ≤ y ∧ x < 1048576 ∧ y < 1048576)
theorem of_any (x y z : Int) : ∃ Z X Y E : Int, (E == 0) = ofG x y z ∧ ∀ w, Calls Tryd.prog 13 #[.agg #[.int .i64 x, .int .i64 y], .int .i64 z] w fun e w' => e = .returned (.tuple #[.agg #[.int .i64 Z, .int .i64 X, .int .i64 Y], .int .i64 E]) ∧ Below w.heap.size w w' := by
  by_cases hz : 0 ≤ z ∧ z ≤ 17
  · by_cases hi : 0 ≤ x ∧ 0 ≤ y ∧ x < 1048576 ∧ y < 1048576
    · obtain ⟨k, rfl⟩ : ∃ k : Nat, z = k := ⟨z.toNat, by omega⟩
      refine ⟨k, x / side k, y / side k, 0, ?_, of_ok x y k (by omega) hi⟩
      have : ofG x y k = true := by rw [ofG, decide_eq_true_eq]; omega
      rw [this]; rfl
    · refine ⟨0, 0, 0, 10, ?_, of_range x y z hz hi⟩
      have : ofG x y z = false := by rw [ofG, decide_eq_false_iff_not]; omega
      rw [this]; rfl
  · refine ⟨0, 0, 0, 1, ?_, of_arg x y z hz⟩
    have : ofG x y z = false := by rw [ofG, decide_eq_false_iff_not]; omega
    rw [this]; rfl

/-- Cover has no tiles for the box at all. -/
def covG (a b c d z : Int) : Bool := ofG a b z && ofG c d z && decide (a ≤ c ∧ b ≤ d)


set_option maxRecDepth 100000 in
set_option maxHeartbeats 1000000 in
theorem cover_arg (a b c d z : Int) (h : covG a b c d z = false) (w : World) :
    Calls Tryd.prog 18 #[.agg #[.int .i64 a, .int .i64 b, .int .i64 c, .int .i64 d], .int .i64 z] w fun e w' => e = .returned (.tuple #[.slice none 0 0, .int .i64 1]) ∧ Below w.heap.size w w' := by
  obtain ⟨Z1, X1, Y1, E1, e1, h1⟩ := of_any a b z
  obtain ⟨Z2, X2, Y2, E2, e2, h2⟩ := of_any c d z
  have HO1 := Lib.hid h1
  have HO2 := Lib.hid h2
  clear h1 h2
  simp only [covG] at h
  rw [← e1, ← e2] at h
  clear e1 e2
  go_enter Tryd.func18, Tryd.ntmps18
  go_wp2_with fail
  refine (HO1.out _).mono ?_; rintro e w1 ⟨rfl, hb1⟩
  have B1 : Below w.heap.size w w1 := below_step ((Below.refl _ _).alloc (Nat.le_refl _) _) (Nat.le_refl _) hb1
  have S1 := hb1.size; simp at S1
  have GB := Lib.hid (row_later hb1 (row_new w _))
  clear hb1
  have HB := GB.out
  have bz := lt_of_block HB
  have b0 := cell_of_row w1 _ 0 _ _ _ HB
  have b1 := cell_of_row w1 _ 1 _ _ _ HB
  have b2 := cell_of_row w1 _ 2 _ _ _ HB
  have b3 := cell_of_row w1 _ 3 _ _ _ HB
  simp only [List.getElem?_toArray, List.getElem?_cons_zero, List.getElem?_cons_succ] at b0 b1 b2 b3
  have HB' := Lib.hid HB
  clear HB
  clear HB'
  go_wp2_with fail
  refine (HO2.out _).mono ?_; rintro e w2 ⟨rfl, hb2⟩
  have B2 := below_step (B1.alloc B1.size _) (Nat.le_refl _) hb2
  have S2 := hb2.size; simp at S2
  have GF := Lib.hid (row_later hb2 (row_new w1 _))
  have GB := Lib.hid (row_later hb2 (row_past GB.out))
  clear hb2 B1 b0 b1 b2 b3 bz
  have HB := GB.out
  have HF := GF.out
  have bz := lt_of_block HB
  have b0 := cell_of_row w2 _ 0 _ _ _ HB
  have b1 := cell_of_row w2 _ 1 _ _ _ HB
  have b2 := cell_of_row w2 _ 2 _ _ _ HB
  have b3 := cell_of_row w2 _ 3 _ _ _ HB
  simp only [List.getElem?_toArray, List.getElem?_cons_zero, List.getElem?_cons_succ] at b0 b1 b2 b3
  have HB' := Lib.hid HB
  clear HB
  have fz := lt_of_block HF
  have f0 := cell_of_row w2 _ 0 _ _ _ HF
  have f1 := cell_of_row w2 _ 1 _ _ _ HF
  have f2 := cell_of_row w2 _ 2 _ _ _ HF
  simp only [List.getElem?_toArray, List.getElem?_cons_zero, List.getElem?_cons_succ] at f0 f1 f2
  have HF' := Lib.hid HF
  clear HF
  clear HB' HF'
  by_cases k1 : E1 = 0
  case neg =>
    clear h
    have k1' : (E1 == 0) = false := by rw [beq_eq_false_iff_ne]; exact k1
    go_wp2
    go_ret2
    refine ⟨rfl, ?_⟩
    repeat' (first | exact Below.refl _ _ | refine Below.drew ?_ | refine Below.drewN' ?_ | refine Below.setCell ?_ (by first | omega | (simp; done) | exact Below.size (by assumption) | (simp; omega)) _ | refine Below.alloc ?_ (by first | omega | (simp; done) | exact Below.size (by assumption) | (simp; omega)) _ | refine Below.trans ?_ (Below.mono (by assumption) ?_) | (first | omega | (simp; done) | exact Below.size (by assumption) | (simp; omega)))
  subst k1
  by_cases k2 : E2 = 0
  case neg =>
    clear h
    have k2' : (E2 == 0) = false := by rw [beq_eq_false_iff_ne]; exact k2
    go_wp2
    go_ret2
    refine ⟨rfl, ?_⟩
    repeat' (first | exact Below.refl _ _ | refine Below.drew ?_ | refine Below.drewN' ?_ | refine Below.setCell ?_ (by first | omega | (simp; done) | exact Below.size (by assumption) | (simp; omega)) _ | refine Below.alloc ?_ (by first | omega | (simp; done) | exact Below.size (by assumption) | (simp; omega)) _ | refine Below.trans ?_ (Below.mono (by assumption) ?_) | (first | omega | (simp; done) | exact Below.size (by assumption) | (simp; omega)))
  subst k2
  by_cases k3 : a ≤ c
  · have k4 : d < b := by
      rcases Int.lt_or_le d b with k4 | k4
      · exact k4
      · simp [k3, k4] at h
    clear h
    go_wp2
    go_ret2
    refine ⟨rfl, ?_⟩
    repeat' (first | exact Below.refl _ _ | refine Below.drew ?_ | refine Below.drewN' ?_ | refine Below.setCell ?_ (by first | omega | (simp; done) | exact Below.size (by assumption) | (simp; omega)) _ | refine Below.alloc ?_ (by first | omega | (simp; done) | exact Below.size (by assumption) | (simp; omega)) _ | refine Below.trans ?_ (Below.mono (by assumption) ?_) | (first | omega | (simp; done) | exact Below.size (by assumption) | (simp; omega)))
  · have k3' : c < a := by omega
    clear h
    go_wp2
    go_ret2
    refine ⟨rfl, ?_⟩
    repeat' (first | exact Below.refl _ _ | refine Below.drew ?_ | refine Below.drewN' ?_ | refine Below.setCell ?_ (by first | omega | (simp; done) | exact Below.size (by assumption) | (simp; omega)) _ | refine Below.alloc ?_ (by first | omega | (simp; done) | exact Below.size (by assumption) | (simp; omega)) _ | refine Below.trans ?_ (Below.mono (by assumption) ?_) | (first | omega | (simp; done) | exact Below.size (by assumption) | (simp; omega)))

theorem mul_bd (p q : Int) (h0 : 0 ≤ p) (h1 : p ≤ 131072) (h2 : 0 ≤ q) (h3 : q ≤ 131072) : 0 ≤ p * q ∧ p * q ≤ 17179869184 := by
  refine ⟨Int.mul_nonneg h0 h2, ?_⟩
  have := Int.mul_le_mul h1 h3 h2 (by decide)
  omega

set_option maxRecDepth 100000 in
set_option maxHeartbeats 1000000 in
theorem cover_limit (a b c d fx fy tx ty : Int) (k : Nat)
    (h1 : ∀ w, Calls Tryd.prog 13 #[.agg #[.int .i64 a, .int .i64 b], .int .i64 k] w fun e w' => e = .returned (.tuple #[.agg #[.int .i64 k, .int .i64 fx, .int .i64 fy], .int .i64 0]) ∧ Below w.heap.size w w')
    (h2 : ∀ w, Calls Tryd.prog 13 #[.agg #[.int .i64 c, .int .i64 d], .int .i64 k] w fun e w' => e = .returned (.tuple #[.agg #[.int .i64 k, .int .i64 tx, .int .i64 ty], .int .i64 0]) ∧ Below w.heap.size w w')
    (hac : a ≤ c) (hbd : b ≤ d) (hx : 0 ≤ fx ∧ fx ≤ tx ∧ tx < 131072) (hy : 0 ≤ fy ∧ fy ≤ ty ∧ ty < 131072)
    (hbig : 4096 < (tx - fx + 1) * (ty - fy + 1)) (w : World) :
    Calls Tryd.prog 18 #[.agg #[.int .i64 a, .int .i64 b, .int .i64 c, .int .i64 d], .int .i64 k] w fun e w' => e = .returned (.tuple #[.slice none 0 0, .int .i64 2]) ∧ Below w.heap.size w w' := by
  have HO1 := Lib.hid h1
  have HO2 := Lib.hid h2
  have M := mul_bd (tx - fx + 1) (ty - fy + 1) (by omega) (by omega) (by omega) (by omega)
  have WM : IntKind.i64.wrap ((tx - fx + 1) * (ty - fy + 1)) = (tx - fx + 1) * (ty - fy + 1) := IntWalk.i64_in _ (by omega)
  clear h1 h2
  go_enter Tryd.func18, Tryd.ntmps18
  go_wp2_with fail
  refine (HO1.out _).mono ?_; rintro e w1 ⟨rfl, hb1⟩
  have B1 : Below w.heap.size w w1 := below_step ((Below.refl _ _).alloc (Nat.le_refl _) _) (Nat.le_refl _) hb1
  have S1 := hb1.size; simp at S1
  have GB := Lib.hid (row_later hb1 (row_new w _))
  clear hb1
  have HB := GB.out
  have bz := lt_of_block HB
  have b0 := cell_of_row w1 _ 0 _ _ _ HB
  have b1 := cell_of_row w1 _ 1 _ _ _ HB
  have b2 := cell_of_row w1 _ 2 _ _ _ HB
  have b3 := cell_of_row w1 _ 3 _ _ _ HB
  simp only [List.getElem?_toArray, List.getElem?_cons_zero, List.getElem?_cons_succ] at b0 b1 b2 b3
  have HB' := Lib.hid HB
  clear HB
  clear HB'
  go_wp2_with fail
  refine (HO2.out _).mono ?_; rintro e w2 ⟨rfl, hb2⟩
  have B2 := below_step (B1.alloc B1.size _) (Nat.le_refl _) hb2
  have S2 := hb2.size; simp at S2
  have GF := Lib.hid (row_later hb2 (row_new w1 _))
  have GB := Lib.hid (row_later hb2 (row_past GB.out))
  clear hb2 B1 b0 b1 b2 b3 bz
  have HB := GB.out
  have HF := GF.out
  have bz := lt_of_block HB
  have b0 := cell_of_row w2 _ 0 _ _ _ HB
  have b1 := cell_of_row w2 _ 1 _ _ _ HB
  have b2 := cell_of_row w2 _ 2 _ _ _ HB
  have b3 := cell_of_row w2 _ 3 _ _ _ HB
  simp only [List.getElem?_toArray, List.getElem?_cons_zero, List.getElem?_cons_succ] at b0 b1 b2 b3
  have HB' := Lib.hid HB
  clear HB
  have fz := lt_of_block HF
  have f0 := cell_of_row w2 _ 0 _ _ _ HF
  have f1 := cell_of_row w2 _ 1 _ _ _ HF
  have f2 := cell_of_row w2 _ 2 _ _ _ HF
  simp only [List.getElem?_toArray, List.getElem?_cons_zero, List.getElem?_cons_succ] at f0 f1 f2
  have HF' := Lib.hid HF
  clear HF
  clear HB' HF'
  go_wp2
  go_ret2
  refine ⟨rfl, ?_⟩
  repeat' (first | exact Below.refl _ _ | refine Below.drew ?_ | refine Below.drewN' ?_ | refine Below.setCell ?_ (by first | omega | (simp; done) | exact Below.size (by assumption) | (simp; omega)) _ | refine Below.alloc ?_ (by first | omega | (simp; done) | exact Below.size (by assumption) | (simp; omega)) _ | refine Below.trans ?_ (Below.mono (by assumption) ?_) | (first | omega | (simp; done) | exact Below.size (by assumption) | (simp; omega)))

/-- A slice value that leads to a row of tiles in a block at or above a bound. -/
def TileRowB (b : Nat) (w : World) (v : Value) (l : List (Int × Int × Int)) : Prop :=
  ∃ (g cap : Nat) (cur : Array Value), b ≤ g ∧ v = .slice (some ⟨g, 0, none⟩) l.length cap ∧ w.heap[g]? = some (.cells cur 23 (0, 0)) ∧ ∀ (j : Nat) (u : Value), (tileCells l)[j]? = some u → cur[j]? = some u
theorem tileRowB_of {w : World} {base : Nat} {v : Value} {l : List (Int × Int × Int)} (h : w.ownsRow base 23 3 v l.length (tileCells l)) (hl : l ≠ []) {b : Nat} (hb : b ≤ base) : TileRowB b w v l := by
  have hT := tileRow_of h hl
  rcases h.2 with ⟨_, h0⟩ | ⟨g, cap, cur, rfl, hg, _⟩
  · exact absurd (List.length_eq_zero_iff.1 h0) hl
  · obtain ⟨g', cap', cur', he, hh, hc⟩ := hT
    simp only [Value.slice.injEq, Option.some.injEq, Addr.mk.injEq] at he
    obtain ⟨⟨rfl, -⟩, -, rfl⟩ := he
    exact ⟨g, cap, cur', Nat.le_trans hb hg, rfl, hh, hc⟩
def CoverPost (l : List (Int × Int × Int)) (w : World) (e : Ending) (w' : World) : Prop :=
  (∃ v, e = .returned (.tuple #[v, .int .i64 0]) ∧ TileRowB w.heap.size w' v l) ∧ Below w.heap.size w w'

set_option maxRecDepth 100000 in
set_option maxHeartbeats 1000000 in
theorem cover_ok (a b c d fx fy tx ty : Int) (nx ny : Nat) (k : Nat)
    (h1 : ∀ w, Calls Tryd.prog 13 #[.agg #[.int .i64 a, .int .i64 b], .int .i64 k] w fun e w' => e = .returned (.tuple #[.agg #[.int .i64 k, .int .i64 fx, .int .i64 fy], .int .i64 0]) ∧ Below w.heap.size w w')
    (h2 : ∀ w, Calls Tryd.prog 13 #[.agg #[.int .i64 c, .int .i64 d], .int .i64 k] w fun e w' => e = .returned (.tuple #[.agg #[.int .i64 k, .int .i64 tx, .int .i64 ty], .int .i64 0]) ∧ Below w.heap.size w w')
    (hac : a ≤ c) (hbd : b ≤ d) (hx : 0 ≤ fx ∧ fx ≤ tx ∧ tx < 131072) (hy : 0 ≤ fy ∧ fy ≤ ty ∧ ty < 131072) (hnx : tx = fx + nx - 1) (hny : ty = fy + ny - 1)
    (hsm : (tx - fx + 1) * (ty - fy + 1) ≤ 4096) (w : World) :
    Calls Tryd.prog 18 #[.agg #[.int .i64 a, .int .i64 b, .int .i64 c, .int .i64 d], .int .i64 k] w (CoverPost (sqL k fx fy nx ny) w) := by
  have HO1 := Lib.hid h1
  have HO2 := Lib.hid h2
  have M := mul_bd (tx - fx + 1) (ty - fy + 1) (by omega) (by omega) (by omega) (by omega)
  have WM : IntKind.i64.wrap ((tx - fx + 1) * (ty - fy + 1)) = (tx - fx + 1) * (ty - fy + 1) := IntWalk.i64_in _ (by omega)
  have hlen : ny * nx ≤ 4096 := by
    have e1 : tx - fx + 1 = nx := by omega
    have e2 : ty - fy + 1 = ny := by omega
    rw [e1, e2, Int.mul_comm] at hsm
    exact_mod_cast hsm
  have hex : fx + nx ≤ 1048576 ∧ 0 < nx := by omega
  have hey : fy + ny ≤ 1048576 ∧ 0 < ny := by omega
  have HNX := Lib.hid hnx
  have HNY := Lib.hid hny
  clear h1 h2 hnx hny
  go_enter Tryd.func18, Tryd.ntmps18
  go_wp2_with fail
  refine (HO1.out _).mono ?_; rintro e w1 ⟨rfl, hb1⟩
  have B1 : Below w.heap.size w w1 := below_step ((Below.refl _ _).alloc (Nat.le_refl _) _) (Nat.le_refl _) hb1
  have S1 := hb1.size; simp at S1
  have GB := Lib.hid (row_later hb1 (row_new w _))
  clear hb1
  have HB := GB.out
  have bz := lt_of_block HB
  have b0 := cell_of_row w1 _ 0 _ _ _ HB
  have b1 := cell_of_row w1 _ 1 _ _ _ HB
  have b2 := cell_of_row w1 _ 2 _ _ _ HB
  have b3 := cell_of_row w1 _ 3 _ _ _ HB
  simp only [List.getElem?_toArray, List.getElem?_cons_zero, List.getElem?_cons_succ] at b0 b1 b2 b3
  have HB' := Lib.hid HB
  clear HB
  clear HB'
  go_wp2_with fail
  refine (HO2.out _).mono ?_; rintro e w2 ⟨rfl, hb2⟩
  have B2 := below_step (B1.alloc B1.size _) (Nat.le_refl _) hb2
  have S2 := hb2.size; simp at S2
  have GF := Lib.hid (row_later hb2 (row_new w1 _))
  have GB := Lib.hid (row_later hb2 (row_past GB.out))
  clear hb2 B1 b0 b1 b2 b3 bz
  have HB := GB.out
  have HF := GF.out
  have bz := lt_of_block HB
  have b0 := cell_of_row w2 _ 0 _ _ _ HB
  have b1 := cell_of_row w2 _ 1 _ _ _ HB
  have b2 := cell_of_row w2 _ 2 _ _ _ HB
  have b3 := cell_of_row w2 _ 3 _ _ _ HB
  simp only [List.getElem?_toArray, List.getElem?_cons_zero, List.getElem?_cons_succ] at b0 b1 b2 b3
  have HB' := Lib.hid HB
  clear HB
  have fz := lt_of_block HF
  have f0 := cell_of_row w2 _ 0 _ _ _ HF
  have f1 := cell_of_row w2 _ 1 _ _ _ HF
  have f2 := cell_of_row w2 _ 2 _ _ _ HF
  simp only [List.getElem?_toArray, List.getElem?_cons_zero, List.getElem?_cons_succ] at f0 f1 f2
  have HF' := Lib.hid HF
  clear HF
  clear HB' HF'
  go_wp2_with fail
  refine (all_any _ _ _ _ _ _ nx ny (by omega) (by omega) (by omega) HNX.out HNY.out _).mono ?_
  rintro e w3 ⟨v, rfl, hrow, -, hb3⟩
  have B3 := below_step (B2.alloc B2.size _) (Nat.le_refl _) hb3
  have HT := Lib.hid (tileRowB_of hrow (b := w.heap.size) (hb := (B2.alloc B2.size _).size) (fun h => by
    have := sqL_len (k : Int) fx fy nx ny
    rw [h] at this
    have h1 : 0 < nx := by omega
    have h2 : 0 < ny := by omega
    have := Nat.mul_pos h2 h1
    simp at *
    omega))
  clear hrow hb3
  go_wp2
  go_ret2
  exact ⟨⟨_, rfl, HT.out⟩, B3⟩
end Go.Proofs.YtnilofeakdibhaaDoor
