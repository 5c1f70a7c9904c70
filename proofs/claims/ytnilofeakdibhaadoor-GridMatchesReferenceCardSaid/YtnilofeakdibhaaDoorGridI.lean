/- The examples of the chapter: head returns true. -/
import Derived.Test.YtnilofeakdibhaaDoorGridH
import Derived.Test.YtnilofeakdibhaaDoorGridD
namespace Go.Proofs.YtnilofeakdibhaaDoor
open Go.RowKit

theorem head_of (w : World) : Calls Tryd.prog 13 #[.agg #[.int .i64 1048575, .int .i64 8], .int .i64 17] w fun e w' => e = .returned (.tuple #[.agg #[.int .i64 17, .int .i64 131071, .int .i64 1], .int .i64 0]) ∧ Below w.heap.size w w' := by
  have h := of_ok 1048575 8 17 (by omega) (by omega) w
  rw [show (1048575 : Int) / side 17 = 131071 by decide, show (8 : Int) / side 17 = 1 by decide] at h
  exact h
theorem head_box (w : World) : Calls Tryd.prog 12 #[.agg #[.int .i64 1, .int .i64 1, .int .i64 0]] w fun e w' => e = .returned (.tuple #[.agg #[.int .i64 524288, .int .i64 0, .int .i64 1048575, .int .i64 524287], .int .i64 0]) ∧ Below w.heap.size w w' := by
  have h := box_ok 1 0 1 (by omega) (by decide) (by decide) w
  rw [show (1 : Int) * side 1 = 524288 by decide, show (0 : Int) * side 1 = 0 by decide, show (524288 : Int) + side 1 - 1 = 1048575 by decide, show (0 : Int) + side 1 - 1 = 524287 by decide] at h
  exact h
theorem head_pixel (w : World) : Calls Tryd.prog 16 #[.agg #[.int .i64 0, .int .i64 0, .int .i64 0], .agg #[.int .i64 (-1), .int .i64 4096]] w fun e w' => e = .returned (.tuple #[.agg #[.int .i64 (-1), .int .i64 1], .int .i64 0]) ∧ Below w.heap.size w w' := by
  have h := pixel_ok 0 0 (-1) 4096 0 (by omega) (by decide) (by decide) (by decide) w
  rw [show ((-1 : Int) - 0 * side 0) * 256 / 2 ^ (20 - 0) = -1 by decide, show ((4096 : Int) - 0 * side 0) * 256 / 2 ^ (20 - 0) = 1 by decide] at h
  exact h
theorem itoa_one (i : Nat) (h : i < 10) : itoaB i = ⟨#[UInt8.ofNat (48 + i)]⟩ := by rw [itoaB, Lib.itoa_nonneg, Lib.decDigits_one h]
theorem text120 : textB 1 2 0 = ⟨#[49, 47, 50, 47, 48]⟩ := by
  show textB ((1 : Nat) : Int) ((2 : Nat) : Int) ((0 : Nat) : Int) = _
  rw [textB, itoa_one 1 (by omega), itoa_one 2 (by omega), itoa_one 0 (by omega)]
  rfl
theorem text110 : textB 1 1 0 = ⟨#[49, 47, 49, 47, 48]⟩ := by
  show textB ((1 : Nat) : Int) ((1 : Nat) : Int) ((0 : Nat) : Int) = _
  rw [textB, itoa_one 1 (by omega), itoa_one 0 (by omega)]
  rfl
theorem text100 : textB 1 0 0 = ⟨#[49, 47, 48, 47, 48]⟩ := by
  show textB ((1 : Nat) : Int) ((0 : Nat) : Int) ((0 : Nat) : Int) = _
  rw [textB, itoa_one 1 (by omega), itoa_one 0 (by omega)]
  rfl
theorem bad120 (z x y : Int) (hv : validB z x y = true) : textB z x y ≠ ⟨#[49, 47, 50, 47, 48]⟩ := by
  intro h
  have h1 := nums_text z x y hv
  rw [h, ← text120] at h1
  have hp : piecesB (textB 1 2 0) = [itoaB 1, itoaB 2, itoaB 0] := pieces_text 1 2 0
  rw [hp] at h1
  have e1 : numAt [itoaB 1, itoaB 2, itoaB 0] 0 = 1 := num_itoa 1 (by omega)
  have e2 : numAt [itoaB 1, itoaB 2, itoaB 0] 1 = 2 := num_itoa 2 (by omega)
  have e3 : numAt [itoaB 1, itoaB 2, itoaB 0] 2 = 0 := num_itoa 0 (by omega)
  rw [e1, e2, e3] at h1
  obtain ⟨rfl, rfl, rfl⟩ := h1
  exact absurd hv (by decide)
theorem bad01 (z x y : Int) (hv : validB z x y = true) : textB z x y ≠ ⟨#[48, 49, 47, 48, 47, 48]⟩ := by
  intro h
  have h1 := nums_text z x y hv
  rw [h] at h1
  have hp : piecesB ⟨#[48, 49, 47, 48, 47, 48]⟩ = [⟨#[48, 49]⟩, ⟨#[48]⟩, ⟨#[48]⟩] := by
    apply map_data_inj
    rw [piecesB, Lib.splitB_data]
    exact GridP.split3 47 [48, 49] [48] [48] (by decide) (by decide) (by decide)
  rw [hp] at h1
  have e1 : numAt [⟨#[48, 49]⟩, ⟨#[48]⟩, ⟨#[48]⟩] 0 = 1 := by decide
  have e2 : numAt [⟨#[48, 49]⟩, ⟨#[48]⟩, ⟨#[48]⟩] 1 = 0 := by decide
  have e3 : numAt [⟨#[48, 49]⟩, ⟨#[48]⟩, ⟨#[48]⟩] 2 = 0 := by decide
  rw [e1, e2, e3] at h1
  obtain ⟨rfl, rfl, rfl⟩ := h1
  have := congrArg ByteArray.size h
  rw [text100] at this
  exact absurd this (by decide)

theorem head_bad1 (w : World) (he : Env w) : Calls Tryd.prog 11 #[.string ⟨#[49, 47, 50, 47, 48]⟩] w fun e w' => e = .returned (.tuple #[.agg #[.int .i64 0, .int .i64 0, .int .i64 0], .int .i64 5]) ∧ Below w.heap.size w w' :=
  parse_bad _ (by decide) bad120 w he
theorem head_bad2 (w : World) (he : Env w) : Calls Tryd.prog 11 #[.string ⟨#[48, 49, 47, 48, 47, 48]⟩] w fun e w' => e = .returned (.tuple #[.agg #[.int .i64 0, .int .i64 0, .int .i64 0], .int .i64 5]) ∧ Below w.heap.size w w' :=
  parse_bad _ (by decide) bad01 w he
theorem head_good (w : World) (he : Env w) : Calls Tryd.prog 11 #[.string ⟨#[49, 47, 49, 47, 48]⟩] w fun e w' => e = .returned (.tuple #[.agg #[.int .i64 1, .int .i64 1, .int .i64 0], .int .i64 0]) ∧ Below w.heap.size w w' := by
  have h := parse_ok 1 1 0 (by decide) w he
  rw [text110] at h
  exact h

set_option maxRecDepth 100000 in
set_option maxHeartbeats 1000000 in
theorem head_true (w : World) (he : Env w) : Calls Tryd.prog 9 #[] w fun e w' => e = .returned (.bool true) ∧ Below w.heap.size w w' := by
  have HE := Lib.hid he
  clear he
  go_enter Tryd.func9, Tryd.ntmps9
  go_wp2_with fail
  refine (head_of _).mono ?_; rintro e w1 ⟨rfl, hb1⟩
  go_wp2_with fail
  refine (head_box _).mono ?_; rintro e w2 ⟨rfl, hb2⟩
  have B2 : Below w.heap.size w w2 := below_step (hb1.alloc hb1.size _) (Nat.le_refl _) hb2
  have HA := Lib.hid (row_later hb2 (row_new w1 _))
  clear hb1 hb2
  go_wp2_with fail
  refine (head_pixel _).mono ?_; rintro e w3 ⟨rfl, hb3⟩
  have B3 : Below w.heap.size w w3 := below_step (B2.alloc B2.size _) (Nat.le_refl _) hb3
  have HB := Lib.hid (row_later hb3 (row_new w2 _))
  have HA := Lib.hid (row_later hb3 (row_past HA.out))
  clear hb3 B2
  go_wp2_with fail
  have BX := B3.alloc B3.size (.cells #[.int .i64 (-1), .int .i64 1] 31)
  refine (head_bad1 _ (HE.out.later BX)).mono ?_; rintro e w4 ⟨rfl, hb4⟩
  have B4 := below_step BX (Nat.le_refl _) hb4
  have HC := Lib.hid (row_later hb4 (row_new w3 _))
  have HB := Lib.hid (row_later hb4 (row_past HB.out))
  have HA := Lib.hid (row_later hb4 (row_past HA.out))
  clear hb4 B3 BX
  go_wp2_with fail
  have BX := B4.alloc B4.size (.cells #[.int .i64 0, .int .i64 0, .int .i64 0] 23)
  refine (head_bad2 _ (HE.out.later BX)).mono ?_; rintro e w5 ⟨rfl, hb5⟩
  have B5 := below_step BX (Nat.le_refl _) hb5
  have HC := Lib.hid (row_later hb5 (row_past HC.out))
  have HB := Lib.hid (row_later hb5 (row_past HB.out))
  have HA := Lib.hid (row_later hb5 (row_past HA.out))
  clear hb5 B4 BX
  go_wp2_with fail
  have BX := B5.alloc B5.size (.cells #[.int .i64 0, .int .i64 0, .int .i64 0] 23)
  refine (head_good _ (HE.out.later BX)).mono ?_; rintro e w6 ⟨rfl, hb6⟩
  have B6 := below_step BX (Nat.le_refl _) hb6
  have HC := row_later hb6 (row_past HC.out)
  have HB := row_later hb6 (row_past HB.out)
  have HA := row_later hb6 (row_past HA.out)
  clear hb6 B5 BX
  have az := lt_of_block HA
  have a0 := cell_of_row w6 _ 0 _ _ _ HA
  have a1 := cell_of_row w6 _ 1 _ _ _ HA
  have a2 := cell_of_row w6 _ 2 _ _ _ HA
  simp only [List.getElem?_toArray, List.getElem?_cons_zero, List.getElem?_cons_succ] at a0 a1 a2
  have HA' := Lib.hid HA
  clear HA
  have bz := lt_of_block HB
  have b0 := cell_of_row w6 _ 0 _ _ _ HB
  have b1 := cell_of_row w6 _ 1 _ _ _ HB
  have b2 := cell_of_row w6 _ 2 _ _ _ HB
  have b3 := cell_of_row w6 _ 3 _ _ _ HB
  simp only [List.getElem?_toArray, List.getElem?_cons_zero, List.getElem?_cons_succ] at b0 b1 b2 b3
  have HB' := Lib.hid HB
  clear HB
  have cz := lt_of_block HC
  have c0 := cell_of_row w6 _ 0 _ _ _ HC
  have c1 := cell_of_row w6 _ 1 _ _ _ HC
  simp only [List.getElem?_toArray, List.getElem?_cons_zero, List.getElem?_cons_succ] at c0 c1
  have HC' := Lib.hid HC
  clear HC
  go_wp2
  go_ret
  refine ⟨rfl, ?_⟩
  repeat' (first | exact Below.refl _ _ | refine Below.drew ?_ | refine Below.drewN' ?_ | refine Below.setCell ?_ (by first | omega | (simp; done) | exact Below.size (by assumption) | (simp; omega)) _ | refine Below.alloc ?_ (by first | omega | (simp; done) | exact Below.size (by assumption) | (simp; omega)) _ | refine Below.trans ?_ (Below.mono (by assumption) ?_) | (first | omega | (simp; done) | exact Below.size (by assumption) | (simp; omega)))
end Go.Proofs.YtnilofeakdibhaaDoor
