/- Contracts of the reference of layer 7: Cover. -/
import Derived.Test.YtnilofeakdibhaaDoorGridRD
namespace Go.Proofs.YtnilofeakdibhaaDoor
open Go.RowKit

attribute [local go_sem] Oper.semAt_some


set_option maxRecDepth 100000 in
set_option maxHeartbeats 1000000 in
theorem rcover_arg (a b c d z : Int) (h : covG a b c d z = false) (w : World) :
    Calls Tryd.prog 25 #[.agg #[.int .i64 a, .int .i64 b, .int .i64 c, .int .i64 d], .int .i64 z] w fun e w' => e = .returned (.tuple #[.slice none 0 0, .int .i64 1]) ∧ Below w.heap.size w w' := by
  by_cases hz : 0 ≤ z ∧ z ≤ 17
  case neg =>
    have LV := Lib.hid (show levelB z = false by simp only [levelB]; rw [decide_eq_false_iff_not]; exact hz)
    clear h hz
    go_enter Tryd.func25, Tryd.ntmps25
    go_wp2_with fail
    refine (rlevel_any _ _).mono ?_; rintro e w' ⟨rfl, rfl⟩; rw [LV.out]
    go_wp2
    go_ret2
    refine ⟨rfl, ?_⟩
    repeat' (first | exact Below.refl _ _ | refine Below.drew ?_ | refine Below.drewN' ?_ | refine Below.setCell ?_ (by first | omega | (simp; done) | exact Below.size (by assumption) | (simp; omega)) _ | refine Below.alloc ?_ (by first | omega | (simp; done) | exact Below.size (by assumption) | (simp; omega)) _ | refine Below.trans ?_ (Below.mono (by assumption) ?_) | (first | omega | (simp; done) | exact Below.size (by assumption) | (simp; omega)))
  have LV := Lib.hid (show levelB z = true by simp only [levelB]; rw [decide_eq_true_eq]; exact hz)
  cases h1 : insideB a b
  case false =>
    have I1 := Lib.hid h1
    clear h h1 hz
    go_enter Tryd.func25, Tryd.ntmps25
    go_wp2_with fail
    refine (rlevel_any _ _).mono ?_; rintro e w' ⟨rfl, rfl⟩; rw [LV.out]
    go_wp2_with fail
    refine (rin_any _ _ _).mono ?_; rintro e u1 ⟨rfl, hb1⟩; rw [I1.out]
    have B1 : Below w.heap.size w u1 := below_step ((Below.refl _ _).alloc (Nat.le_refl _) _) (Nat.le_refl _) hb1
    have S1 := hb1.size; simp at S1
    have GB := Lib.hid (row_later hb1 (row_new w _))
    clear hb1
    have HB := GB.out
    have bz := lt_of_block HB
    have b0 := cell_of_row u1 _ 0 _ _ _ HB
    have b1 := cell_of_row u1 _ 1 _ _ _ HB
    have b2 := cell_of_row u1 _ 2 _ _ _ HB
    have b3 := cell_of_row u1 _ 3 _ _ _ HB
    simp only [List.getElem?_toArray, List.getElem?_cons_zero, List.getElem?_cons_succ] at b0 b1 b2 b3
    have HB' := Lib.hid HB
    clear HB
    clear HB'
    go_wp2
    go_ret2
    refine ⟨rfl, ?_⟩
    repeat' (first | exact Below.refl _ _ | refine Below.drew ?_ | refine Below.drewN' ?_ | refine Below.setCell ?_ (by first | omega | (simp; done) | exact Below.size (by assumption) | (simp; omega)) _ | refine Below.alloc ?_ (by first | omega | (simp; done) | exact Below.size (by assumption) | (simp; omega)) _ | refine Below.trans ?_ (Below.mono (by assumption) ?_) | (first | omega | (simp; done) | exact Below.size (by assumption) | (simp; omega)))
  have I1 := Lib.hid h1
  cases h2 : insideB c d
  case false =>
    have I2 := Lib.hid h2
    clear h h1 h2 hz
    go_enter Tryd.func25, Tryd.ntmps25
    go_wp2_with fail
    refine (rlevel_any _ _).mono ?_; rintro e w' ⟨rfl, rfl⟩; rw [LV.out]
    go_wp2_with fail
    refine (rin_any _ _ _).mono ?_; rintro e u1 ⟨rfl, hb1⟩; rw [I1.out]
    have B1 : Below w.heap.size w u1 := below_step ((Below.refl _ _).alloc (Nat.le_refl _) _) (Nat.le_refl _) hb1
    have S1 := hb1.size; simp at S1
    have GB := Lib.hid (row_later hb1 (row_new w _))
    clear hb1
    have HB := GB.out
    have bz := lt_of_block HB
    have b0 := cell_of_row u1 _ 0 _ _ _ HB
    have b1 := cell_of_row u1 _ 1 _ _ _ HB
    have b2 := cell_of_row u1 _ 2 _ _ _ HB
    have b3 := cell_of_row u1 _ 3 _ _ _ HB
    simp only [List.getElem?_toArray, List.getElem?_cons_zero, List.getElem?_cons_succ] at b0 b1 b2 b3
    have HB' := Lib.hid HB
    clear HB
    clear HB'
    go_wp2_with fail
    refine (rin_any _ _ _).mono ?_; rintro e u2 ⟨rfl, hb2⟩; rw [I2.out]
    have B2 := below_step B1 (Nat.le_refl _) hb2
    have S2 := hb2.size
    have GB := Lib.hid (row_later hb2 GB.out)
    clear hb2 B1 b0 b1 b2 b3 bz
    have HB := GB.out
    have bz := lt_of_block HB
    have b0 := cell_of_row u2 _ 0 _ _ _ HB
    have b1 := cell_of_row u2 _ 1 _ _ _ HB
    have b2 := cell_of_row u2 _ 2 _ _ _ HB
    have b3 := cell_of_row u2 _ 3 _ _ _ HB
    simp only [List.getElem?_toArray, List.getElem?_cons_zero, List.getElem?_cons_succ] at b0 b1 b2 b3
    have HB' := Lib.hid HB
    clear HB
    clear HB'
    go_wp2
    go_ret2
    refine ⟨rfl, ?_⟩
    repeat' (first | exact Below.refl _ _ | refine Below.drew ?_ | refine Below.drewN' ?_ | refine Below.setCell ?_ (by first | omega | (simp; done) | exact Below.size (by assumption) | (simp; omega)) _ | refine Below.alloc ?_ (by first | omega | (simp; done) | exact Below.size (by assumption) | (simp; omega)) _ | refine Below.trans ?_ (Below.mono (by assumption) ?_) | (first | omega | (simp; done) | exact Below.size (by assumption) | (simp; omega)))
  have I2 := Lib.hid h2
  simp only [insideB, decide_eq_true_eq] at h1 h2
  have hn : ¬ (a ≤ c ∧ b ≤ d) := by
    intro hk
    have : covG a b c d z = true := by
      simp only [covG, ofG, Bool.and_eq_true, decide_eq_true_eq]
      omega
    rw [this] at h; cases h
  clear h h1 h2 hz
  by_cases k3 : a ≤ c
  · have k4 : d < b := by omega
    clear hn
    go_enter Tryd.func25, Tryd.ntmps25
    go_wp2_with fail
    refine (rlevel_any _ _).mono ?_; rintro e w' ⟨rfl, rfl⟩; rw [LV.out]
    go_wp2_with fail
    refine (rin_any _ _ _).mono ?_; rintro e u1 ⟨rfl, hb1⟩; rw [I1.out]
    have B1 : Below w.heap.size w u1 := below_step ((Below.refl _ _).alloc (Nat.le_refl _) _) (Nat.le_refl _) hb1
    have S1 := hb1.size; simp at S1
    have GB := Lib.hid (row_later hb1 (row_new w _))
    clear hb1
    have HB := GB.out
    have bz := lt_of_block HB
    have b0 := cell_of_row u1 _ 0 _ _ _ HB
    have b1 := cell_of_row u1 _ 1 _ _ _ HB
    have b2 := cell_of_row u1 _ 2 _ _ _ HB
    have b3 := cell_of_row u1 _ 3 _ _ _ HB
    simp only [List.getElem?_toArray, List.getElem?_cons_zero, List.getElem?_cons_succ] at b0 b1 b2 b3
    have HB' := Lib.hid HB
    clear HB
    clear HB'
    go_wp2_with fail
    refine (rin_any _ _ _).mono ?_; rintro e u2 ⟨rfl, hb2⟩; rw [I2.out]
    have B2 := below_step B1 (Nat.le_refl _) hb2
    have S2 := hb2.size
    have GB := Lib.hid (row_later hb2 GB.out)
    clear hb2 B1 b0 b1 b2 b3 bz
    have HB := GB.out
    have bz := lt_of_block HB
    have b0 := cell_of_row u2 _ 0 _ _ _ HB
    have b1 := cell_of_row u2 _ 1 _ _ _ HB
    have b2 := cell_of_row u2 _ 2 _ _ _ HB
    have b3 := cell_of_row u2 _ 3 _ _ _ HB
    simp only [List.getElem?_toArray, List.getElem?_cons_zero, List.getElem?_cons_succ] at b0 b1 b2 b3
    have HB' := Lib.hid HB
    clear HB
    clear HB'
    go_wp2
    go_ret2
    refine ⟨rfl, ?_⟩
    repeat' (first | exact Below.refl _ _ | refine Below.drew ?_ | refine Below.drewN' ?_ | refine Below.setCell ?_ (by first | omega | (simp; done) | exact Below.size (by assumption) | (simp; omega)) _ | refine Below.alloc ?_ (by first | omega | (simp; done) | exact Below.size (by assumption) | (simp; omega)) _ | refine Below.trans ?_ (Below.mono (by assumption) ?_) | (first | omega | (simp; done) | exact Below.size (by assumption) | (simp; omega)))
  · have k3' : c < a := by omega
    clear hn
    go_enter Tryd.func25, Tryd.ntmps25
    go_wp2_with fail
    refine (rlevel_any _ _).mono ?_; rintro e w' ⟨rfl, rfl⟩; rw [LV.out]
    go_wp2_with fail
    refine (rin_any _ _ _).mono ?_; rintro e u1 ⟨rfl, hb1⟩; rw [I1.out]
    have B1 : Below w.heap.size w u1 := below_step ((Below.refl _ _).alloc (Nat.le_refl _) _) (Nat.le_refl _) hb1
    have S1 := hb1.size; simp at S1
    have GB := Lib.hid (row_later hb1 (row_new w _))
    clear hb1
    have HB := GB.out
    have bz := lt_of_block HB
    have b0 := cell_of_row u1 _ 0 _ _ _ HB
    have b1 := cell_of_row u1 _ 1 _ _ _ HB
    have b2 := cell_of_row u1 _ 2 _ _ _ HB
    have b3 := cell_of_row u1 _ 3 _ _ _ HB
    simp only [List.getElem?_toArray, List.getElem?_cons_zero, List.getElem?_cons_succ] at b0 b1 b2 b3
    have HB' := Lib.hid HB
    clear HB
    clear HB'
    go_wp2_with fail
    refine (rin_any _ _ _).mono ?_; rintro e u2 ⟨rfl, hb2⟩; rw [I2.out]
    have B2 := below_step B1 (Nat.le_refl _) hb2
    have S2 := hb2.size
    have GB := Lib.hid (row_later hb2 GB.out)
    clear hb2 B1 b0 b1 b2 b3 bz
    have HB := GB.out
    have bz := lt_of_block HB
    have b0 := cell_of_row u2 _ 0 _ _ _ HB
    have b1 := cell_of_row u2 _ 1 _ _ _ HB
    have b2 := cell_of_row u2 _ 2 _ _ _ HB
    have b3 := cell_of_row u2 _ 3 _ _ _ HB
    simp only [List.getElem?_toArray, List.getElem?_cons_zero, List.getElem?_cons_succ] at b0 b1 b2 b3
    have HB' := Lib.hid HB
    clear HB
    clear HB'
    go_wp2
    go_ret2
    refine ⟨rfl, ?_⟩
    repeat' (first | exact Below.refl _ _ | refine Below.drew ?_ | refine Below.drewN' ?_ | refine Below.setCell ?_ (by first | omega | (simp; done) | exact Below.size (by assumption) | (simp; omega)) _ | refine Below.alloc ?_ (by first | omega | (simp; done) | exact Below.size (by assumption) | (simp; omega)) _ | refine Below.trans ?_ (Below.mono (by assumption) ?_) | (first | omega | (simp; done) | exact Below.size (by assumption) | (simp; omega)))


set_option maxRecDepth 100000 in
set_option maxHeartbeats 1000000 in
theorem rcover_limit (a b c d fx fy tx ty : Int) (k : Nat) (hk : k ≤ 17) (hi1 : insideB a b = true) (hi2 : insideB c d = true)
    (h1 : ∀ w, Calls Tryd.prog 20 #[.agg #[.int .i64 a, .int .i64 b], .int .i64 k] w fun e w' => e = .returned (.tuple #[.agg #[.int .i64 k, .int .i64 fx, .int .i64 fy], .int .i64 0]) ∧ Below w.heap.size w w')
    (h2 : ∀ w, Calls Tryd.prog 20 #[.agg #[.int .i64 c, .int .i64 d], .int .i64 k] w fun e w' => e = .returned (.tuple #[.agg #[.int .i64 k, .int .i64 tx, .int .i64 ty], .int .i64 0]) ∧ Below w.heap.size w w')
    (hac : a ≤ c) (hbd : b ≤ d) (hx : 0 ≤ fx ∧ fx ≤ tx ∧ tx < 131072) (hy : 0 ≤ fy ∧ fy ≤ ty ∧ ty < 131072)
    (hbig : 4096 < (tx - fx + 1) * (ty - fy + 1)) (w : World) :
    Calls Tryd.prog 25 #[.agg #[.int .i64 a, .int .i64 b, .int .i64 c, .int .i64 d], .int .i64 k] w fun e w' => e = .returned (.tuple #[.slice none 0 0, .int .i64 2]) ∧ Below w.heap.size w w' := by
  have LV := Lib.hid (show levelB k = true by simp only [levelB]; rw [decide_eq_true_eq]; omega)
  have I1 := Lib.hid hi1
  have I2 := Lib.hid hi2
  have HO1 := Lib.hid h1
  have HO2 := Lib.hid h2
  have M := mul_bd (tx - fx + 1) (ty - fy + 1) (by omega) (by omega) (by omega) (by omega)
  have WM : IntKind.i64.wrap ((tx - fx + 1) * (ty - fy + 1)) = (tx - fx + 1) * (ty - fy + 1) := IntWalk.i64_in _ (by omega)
  clear h1 h2 hi1 hi2
  go_enter Tryd.func25, Tryd.ntmps25
  go_wp2_with fail
  refine (rlevel_any _ _).mono ?_; rintro e w' ⟨rfl, rfl⟩; rw [LV.out]
  go_wp2_with fail
  refine (rin_any _ _ _).mono ?_; rintro e u1 ⟨rfl, hb1⟩; rw [I1.out]
  have B1 : Below w.heap.size w u1 := below_step ((Below.refl _ _).alloc (Nat.le_refl _) _) (Nat.le_refl _) hb1
  have S1 := hb1.size; simp at S1
  have GB := Lib.hid (row_later hb1 (row_new w _))
  clear hb1
  have HB := GB.out
  have bz := lt_of_block HB
  have b0 := cell_of_row u1 _ 0 _ _ _ HB
  have b1 := cell_of_row u1 _ 1 _ _ _ HB
  have b2 := cell_of_row u1 _ 2 _ _ _ HB
  have b3 := cell_of_row u1 _ 3 _ _ _ HB
  simp only [List.getElem?_toArray, List.getElem?_cons_zero, List.getElem?_cons_succ] at b0 b1 b2 b3
  have HB' := Lib.hid HB
  clear HB
  clear HB'
  go_wp2_with fail
  refine (rin_any _ _ _).mono ?_; rintro e u2 ⟨rfl, hb2⟩; rw [I2.out]
  have B2 := below_step B1 (Nat.le_refl _) hb2
  have S2 := hb2.size
  have GB := Lib.hid (row_later hb2 GB.out)
  clear hb2 B1 b0 b1 b2 b3 bz
  have HB := GB.out
  have bz := lt_of_block HB
  have b0 := cell_of_row u2 _ 0 _ _ _ HB
  have b1 := cell_of_row u2 _ 1 _ _ _ HB
  have b2 := cell_of_row u2 _ 2 _ _ _ HB
  have b3 := cell_of_row u2 _ 3 _ _ _ HB
  simp only [List.getElem?_toArray, List.getElem?_cons_zero, List.getElem?_cons_succ] at b0 b1 b2 b3
  have HB' := Lib.hid HB
  clear HB
  clear HB'
  go_wp2_with fail
  refine (HO1.out _).mono ?_; rintro e u3 ⟨rfl, hb3⟩
  have B3 := below_step B2 (Nat.le_refl _) hb3
  have S3 := hb3.size
  have GB := Lib.hid (row_later hb3 GB.out)
  clear hb3 B2 b0 b1 b2 b3 bz
  have HB := GB.out
  have bz := lt_of_block HB
  have b0 := cell_of_row u3 _ 0 _ _ _ HB
  have b1 := cell_of_row u3 _ 1 _ _ _ HB
  have b2 := cell_of_row u3 _ 2 _ _ _ HB
  have b3 := cell_of_row u3 _ 3 _ _ _ HB
  simp only [List.getElem?_toArray, List.getElem?_cons_zero, List.getElem?_cons_succ] at b0 b1 b2 b3
  have HB' := Lib.hid HB
  clear HB
  clear HB'
  go_wp2_with fail
  refine (HO2.out _).mono ?_; rintro e u4 ⟨rfl, hb4⟩
  have B4 := below_step (B3.alloc B3.size _) (Nat.le_refl _) hb4
  have S4 := hb4.size; simp at S4
  have GF := Lib.hid (row_later hb4 (row_new u3 _))
  clear hb4 B3 b0 b1 b2 b3 bz GB
  have HF := GF.out
  have fz := lt_of_block HF
  have f0 := cell_of_row u4 _ 0 _ _ _ HF
  have f1 := cell_of_row u4 _ 1 _ _ _ HF
  have f2 := cell_of_row u4 _ 2 _ _ _ HF
  simp only [List.getElem?_toArray, List.getElem?_cons_zero, List.getElem?_cons_succ] at f0 f1 f2
  have HF' := Lib.hid HF
  clear HF
  clear HF'
  go_wp2
  go_ret2
  refine ⟨rfl, ?_⟩
  repeat' (first | exact Below.refl _ _ | refine Below.drew ?_ | refine Below.drewN' ?_ | refine Below.setCell ?_ (by first | omega | (simp; done) | exact Below.size (by assumption) | (simp; omega)) _ | refine Below.alloc ?_ (by first | omega | (simp; done) | exact Below.size (by assumption) | (simp; omega)) _ | refine Below.trans ?_ (Below.mono (by assumption) ?_) | (first | omega | (simp; done) | exact Below.size (by assumption) | (simp; omega)))

set_option maxRecDepth 100000 in
set_option maxHeartbeats 2000000 in
theorem rcover_ok (a b c d fx fy tx ty : Int) (nx ny : Nat) (k : Nat) (hk : k ≤ 17) (hi1 : insideB a b = true) (hi2 : insideB c d = true)
    (h1 : ∀ w, Calls Tryd.prog 20 #[.agg #[.int .i64 a, .int .i64 b], .int .i64 k] w fun e w' => e = .returned (.tuple #[.agg #[.int .i64 k, .int .i64 fx, .int .i64 fy], .int .i64 0]) ∧ Below w.heap.size w w')
    (h2 : ∀ w, Calls Tryd.prog 20 #[.agg #[.int .i64 c, .int .i64 d], .int .i64 k] w fun e w' => e = .returned (.tuple #[.agg #[.int .i64 k, .int .i64 tx, .int .i64 ty], .int .i64 0]) ∧ Below w.heap.size w w')
    (hac : a ≤ c) (hbd : b ≤ d) (hx : 0 ≤ fx ∧ fx ≤ tx ∧ tx < 131072) (hy : 0 ≤ fy ∧ fy ≤ ty ∧ ty < 131072) (hnx : tx = fx + nx - 1) (hny : ty = fy + ny - 1)
    (hsm : (tx - fx + 1) * (ty - fy + 1) ≤ 4096) (w : World) :
    Calls Tryd.prog 25 #[.agg #[.int .i64 a, .int .i64 b, .int .i64 c, .int .i64 d], .int .i64 k] w (ListPost w.heap.size (sqL k fx fy nx ny) 0 w) := by
  have LV := Lib.hid (show levelB k = true by simp only [levelB]; rw [decide_eq_true_eq]; omega)
  have I1 := Lib.hid hi1
  have I2 := Lib.hid hi2
  have HO1 := Lib.hid h1
  have HO2 := Lib.hid h2
  have M := mul_bd (tx - fx + 1) (ty - fy + 1) (by omega) (by omega) (by omega) (by omega)
  have WM : IntKind.i64.wrap ((tx - fx + 1) * (ty - fy + 1)) = (tx - fx + 1) * (ty - fy + 1) := IntWalk.i64_in _ (by omega)
  have hlen : ny * nx ≤ 4096 := by
    have e1 : tx - fx + 1 = nx := by omega
    have e2 : ty - fy + 1 = ny := by omega
    rw [e1, e2, Int.mul_comm] at hsm
    exact_mod_cast hsm
  have hn : 0 < nx := by omega
  have hn2 : 0 < ny := by omega
  have HNX := Lib.hid hnx
  have HNY := Lib.hid hny
  clear h1 h2 hi1 hi2 hnx hny
  obtain ⟨i0, hi, hi0, hi1, hi2⟩ := info_parts infoTile
  go_enter Tryd.func25, Tryd.ntmps25
  go_wp2_with fail
  refine (rlevel_any _ _).mono ?_; rintro e w' ⟨rfl, rfl⟩; rw [LV.out]
  go_wp2_with fail
  refine (rin_any _ _ _).mono ?_; rintro e u1 ⟨rfl, hb1⟩; rw [I1.out]
  have B1 : Below w.heap.size w u1 := below_step ((Below.refl _ _).alloc (Nat.le_refl _) _) (Nat.le_refl _) hb1
  have S1 := hb1.size; simp at S1
  have GB := Lib.hid (row_later hb1 (row_new w _))
  clear hb1
  have HB := GB.out
  have bz := lt_of_block HB
  have b0 := cell_of_row u1 _ 0 _ _ _ HB
  have b1 := cell_of_row u1 _ 1 _ _ _ HB
  have b2 := cell_of_row u1 _ 2 _ _ _ HB
  have b3 := cell_of_row u1 _ 3 _ _ _ HB
  simp only [List.getElem?_toArray, List.getElem?_cons_zero, List.getElem?_cons_succ] at b0 b1 b2 b3
  have HB' := Lib.hid HB
  clear HB
  clear HB'
  go_wp2_with fail
  refine (rin_any _ _ _).mono ?_; rintro e u2 ⟨rfl, hb2⟩; rw [I2.out]
  have B2 := below_step B1 (Nat.le_refl _) hb2
  have S2 := hb2.size
  have GB := Lib.hid (row_later hb2 GB.out)
  clear hb2 B1 b0 b1 b2 b3 bz
  have HB := GB.out
  have bz := lt_of_block HB
  have b0 := cell_of_row u2 _ 0 _ _ _ HB
  have b1 := cell_of_row u2 _ 1 _ _ _ HB
  have b2 := cell_of_row u2 _ 2 _ _ _ HB
  have b3 := cell_of_row u2 _ 3 _ _ _ HB
  simp only [List.getElem?_toArray, List.getElem?_cons_zero, List.getElem?_cons_succ] at b0 b1 b2 b3
  have HB' := Lib.hid HB
  clear HB
  clear HB'
  go_wp2_with fail
  refine (HO1.out _).mono ?_; rintro e u3 ⟨rfl, hb3⟩
  have B3 := below_step B2 (Nat.le_refl _) hb3
  have S3 := hb3.size
  have GB := Lib.hid (row_later hb3 GB.out)
  clear hb3 B2 b0 b1 b2 b3 bz
  have HB := GB.out
  have bz := lt_of_block HB
  have b0 := cell_of_row u3 _ 0 _ _ _ HB
  have b1 := cell_of_row u3 _ 1 _ _ _ HB
  have b2 := cell_of_row u3 _ 2 _ _ _ HB
  have b3 := cell_of_row u3 _ 3 _ _ _ HB
  simp only [List.getElem?_toArray, List.getElem?_cons_zero, List.getElem?_cons_succ] at b0 b1 b2 b3
  have HB' := Lib.hid HB
  clear HB
  clear HB'
  go_wp2_with fail
  refine (HO2.out _).mono ?_; rintro e u4 ⟨rfl, hb4⟩
  have B4 := below_step (B3.alloc B3.size _) (Nat.le_refl _) hb4
  have S4 := hb4.size; simp at S4
  have GF := Lib.hid (row_later hb4 (row_new u3 _))
  clear hb4 B3 b0 b1 b2 b3 bz GB
  have HF := GF.out
  have fz := lt_of_block HF
  have f0 := cell_of_row u4 _ 0 _ _ _ HF
  have f1 := cell_of_row u4 _ 1 _ _ _ HF
  have f2 := cell_of_row u4 _ 2 _ _ _ HF
  simp only [List.getElem?_toArray, List.getElem?_cons_zero, List.getElem?_cons_succ] at f0 f1 f2
  have HF' := Lib.hid HF
  clear HF
  clear HF'
  have S5 := S4
  go_wp2
  have B5 := B4.alloc B4.size (.cells #[.int .i64 k, .int .i64 tx, .int .i64 ty] 23)
  have GF := Lib.hid (row_past (o' := .cells #[.int .i64 k, .int .i64 tx, .int .i64 ty] 23) GF.out)
  have GT := Lib.hid (row_new u4 (.cells #[.int .i64 k, .int .i64 tx, .int .i64 ty] 23))
  clear f0 f1 f2 fz B4 M WM hsm
  generalize hw1 : u4.alloc (.cells #[.int .i64 k, .int .i64 tx, .int .i64 ty] 23) = w1
  rw [hw1] at B5 GF GT
  clear hw1
  go_loopw [10, 11, 12] (fun v y _ wr => ∃ j : Nat, j ≤ ny ∧ y = .int .i64 (fy + j) ∧ wr.ownsRow w1.heap.size 23 3 v (sqL k fx fy nx j).length (tileCells (sqL k fx fy nx j)) ∧ Below w1.heap.size w1 wr) (fun _ y _ _ => (fy + ny - intOf y).toNat)
  case atStart => exact ⟨0, by omega, by simp, World.ownsRow_nil _ _ _ _, Below.refl _ _⟩
  case round =>
    obtain ⟨j, hj, rfl, hrow, hbr⟩ := hrel
    have HF := row_later hbr GF.out
    have HT := row_later hbr GT.out
    by_cases hlt : j < ny
    · have hd : fy + (j : Int) ≤ ty := by have := HNY.out; omega
      have fz := lt_of_block HF
      have f0 := cell_of_row wr _ 0 _ _ _ HF
      have f1 := cell_of_row wr _ 1 _ _ _ HF
      have f2 := cell_of_row wr _ 2 _ _ _ HF
      simp only [List.getElem?_toArray, List.getElem?_cons_zero, List.getElem?_cons_succ] at f0 f1 f2
      have HF' := Lib.hid HF
      clear HF
      have tz := lt_of_block HT
      have t0 := cell_of_row wr _ 0 _ _ _ HT
      have t1 := cell_of_row wr _ 1 _ _ _ HT
      have t2 := cell_of_row wr _ 2 _ _ _ HT
      simp only [List.getElem?_toArray, List.getElem?_cons_zero, List.getElem?_cons_succ] at t0 t1 t2
      have HT' := Lib.hid HT
      clear HT
      clear HF' HT'
      go_wp2
      clear f0 f1 f2 fz t0 t1 t2 tz
      obtain ⟨wo, rfl⟩ : ∃ wo : World, wo = wr := ⟨_, rfl⟩
      go_loopw [10, 12] (fun v x wi => ∃ i : Nat, i ≤ nx ∧ x = .int .i64 (fx + i) ∧ wi.ownsRow w1.heap.size 23 3 v (sqL k fx fy nx j ++ rowL k fx (fy + j) i).length (tileCells (sqL k fx fy nx j ++ rowL k fx (fy + j) i)) ∧ Below w1.heap.size w1 wi) (fun _ x _ => (fx + nx - intOf x).toNat)
      case atStart => exact ⟨0, by omega, by simp, by simpa [rowL] using hrow, hbr⟩
      case round =>
        obtain ⟨i, hil, rfl, hrow, hbi⟩ := hrel
        have HF := row_later hbi GF.out
        have HT := row_later hbi GT.out
        have hsz := hbi.size
        have hle : (sqL k fx fy nx j ++ rowL k fx (fy + j) i).length ≤ 1000000 := by
          rw [List.length_append, sqL_len, rowL_len]
          have : (j + 1) * nx ≤ ny * nx := Nat.mul_le_mul_right nx (by omega)
          rw [Nat.succ_mul] at this
          omega
        by_cases hi3 : i < nx
        · have hd2 : fx + (i : Int) ≤ tx := by have := HNX.out; omega
          have EQ := Lib.hid (show sqL k fx fy nx j ++ rowL k fx (fy + j) (i + 1) = (sqL k fx fy nx j ++ rowL k fx (fy + j) i) ++ [((k : Int), fx + (i : Int), fy + (j : Int))] by rw [rowL_succ, ← List.append_assoc])
          generalize sqL k fx fy nx j ++ rowL k fx (fy + j) i = L at *
          have fz := lt_of_block HF
          have f0 := cell_of_row wr _ 0 _ _ _ HF
          have f1 := cell_of_row wr _ 1 _ _ _ HF
          have f2 := cell_of_row wr _ 2 _ _ _ HF
          simp only [List.getElem?_toArray, List.getElem?_cons_zero, List.getElem?_cons_succ] at f0 f1 f2
          have HF' := Lib.hid HF
          clear HF
          have tz := lt_of_block HT
          have t0 := cell_of_row wr _ 0 _ _ _ HT
          have t1 := cell_of_row wr _ 1 _ _ _ HT
          have t2 := cell_of_row wr _ 2 _ _ _ HT
          simp only [List.getElem?_toArray, List.getElem?_cons_zero, List.getElem?_cons_succ] at t0 t1 t2
          have HT' := Lib.hid HT
          clear HT
          clear HF' HT'
          go_wp2_with
            (at_builtin; refine wpList_append_own _ rfl _ _ 45 rfl w1.heap.size 23 i0 (.agg #[.int .i64 0, .int .i64 0, .int .i64 0]) 3 24 Tryd.underlying45 hi hi0 hi1 hi2 rfl (by decide) _ _ _ rfl (hrow.alloc _) ⟨wr.heap.size, 0, none⟩ 1 1 [.int .i64 ((k : Int)), .int .i64 (fx + (i : Int)), .int .i64 (fy + (j : Int))] rfl rfl (cells_new _ _ _) (by simp [Value.oneCell']) (by unfold maxLen; omega) (by omega) (by simp; omega) ?_; intro v' w2 hown hgrow _; have hb2 := appended hrow hsz hgrow)
          have HO := Lib.hid (show w2.ownsRow w1.heap.size 23 3 v' (L ++ [((k : Int), fx + (i : Int), fy + (j : Int))]).length (tileCells (L ++ [((k : Int), fx + (i : Int), fy + (j : Int))])) by
            rw [List.length_append, show tileCells (L ++ [((k : Int), fx + (i : Int), fy + (j : Int))]) = tileCells L ++ [.int .i64 k, .int .i64 (fx + i), .int .i64 (fy + j)] by simp [tileCells]]; exact hown)
          clear hown
          go_roundw
          case rel => exact ⟨i + 1, by omega, int_one fx i, by rw [EQ.out]; exact HO.out, hbi.trans hb2⟩
          case measure => simp [intOf]; omega
        · have hi' := Lib.hid (show i = nx by omega)
          have hd2 : ¬ (fx + (i : Int) ≤ tx) := by have := HNX.out; omega
          have HR := Lib.hid hrow
          clear hrow hle
          have fz := lt_of_block HF
          have f0 := cell_of_row wr _ 0 _ _ _ HF
          have f1 := cell_of_row wr _ 1 _ _ _ HF
          have f2 := cell_of_row wr _ 2 _ _ _ HF
          simp only [List.getElem?_toArray, List.getElem?_cons_zero, List.getElem?_cons_succ] at f0 f1 f2
          have HF' := Lib.hid HF
          clear HF
          have tz := lt_of_block HT
          have t0 := cell_of_row wr _ 0 _ _ _ HT
          have t1 := cell_of_row wr _ 1 _ _ _ HT
          have t2 := cell_of_row wr _ 2 _ _ _ HT
          simp only [List.getElem?_toArray, List.getElem?_cons_zero, List.getElem?_cons_succ] at t0 t1 t2
          have HT' := Lib.hid HT
          clear HT
          clear HF' HT'
          go_wp2
          go_roundw
          case rel => exact ⟨j + 1, by omega, int_one fy j, by rw [sqL_succ]; have e := hi'.out; subst e; exact HR.out, hbi⟩
          case measure => simp [intOf]; omega
    · have hj' := Lib.hid (show j = ny by omega)
      have hd : ¬ (fy + (j : Int) ≤ ty) := by have := HNY.out; omega
      have HS := Lib.hid (sliceIs_own hrow (by
        intro h
        have := sqL_len (k : Int) fx fy nx j
        rw [h] at this
        have h3 := Nat.mul_pos (show 0 < j by omega) hn
        simp at this
        omega) B5.size)
      clear hrow
      have fz := lt_of_block HF
      have f0 := cell_of_row wr _ 0 _ _ _ HF
      have f1 := cell_of_row wr _ 1 _ _ _ HF
      have f2 := cell_of_row wr _ 2 _ _ _ HF
      simp only [List.getElem?_toArray, List.getElem?_cons_zero, List.getElem?_cons_succ] at f0 f1 f2
      have HF' := Lib.hid HF
      clear HF
      have tz := lt_of_block HT
      have t0 := cell_of_row wr _ 0 _ _ _ HT
      have t1 := cell_of_row wr _ 1 _ _ _ HT
      have t2 := cell_of_row wr _ 2 _ _ _ HT
      simp only [List.getElem?_toArray, List.getElem?_cons_zero, List.getElem?_cons_succ] at t0 t1 t2
      have HT' := Lib.hid HT
      clear HT
      clear HF' HT'
      go_wp2
      go_ret2
      exact ⟨⟨_, rfl, by rw [← hj'.out]; exact HS.out⟩, below_step B5 (Nat.le_refl _) hbr⟩
end Go.Proofs.YtnilofeakdibhaaDoor
