/- GridTexts: the walk. -/
import Derived.Test.YtnilofeakdibhaaDoorGridI
namespace Go.Proofs.YtnilofeakdibhaaDoor
open Go.RowKit

/-- What Box returns, in one contract. -/
theorem box_err (z x y : Int) (w : World) :
    Calls Tryd.prog 12 #[.agg #[.int .i64 z, .int .i64 x, .int .i64 y]] w fun e w' => ∃ a b c d : Int, e = .returned (.tuple #[.agg #[.int .i64 a, .int .i64 b, .int .i64 c, .int .i64 d], .int .i64 (if validB z x y = true then 0 else 1)]) ∧ Below w.heap.size w w' := by
  by_cases hv : validB z x y = true
  · rw [if_pos hv]
    have hb := valid_bd hv
    obtain ⟨k, rfl⟩ := Int.eq_ofNat_of_zero_le hb.1
    simp only [validB, decide_eq_true_eq, Int.toNat_natCast] at hv
    refine (box_ok x y k (by omega) (by omega) (by omega) w).mono ?_
    rintro e w' ⟨rfl, h⟩
    exact ⟨_, _, _, _, rfl, h⟩
  · rw [if_neg hv]
    refine (box_arg z x y (by simpa using hv) w).mono ?_
    rintro e w' ⟨rfl, h⟩
    exact ⟨_, _, _, _, rfl, h⟩

set_option maxRecDepth 100000 in
set_option maxHeartbeats 1000000 in
theorem texts_long (z x y : Int) (s : ByteArray) (hs : 100 < s.size) (w : World) (he : Env w) :
    Calls Tryd.prog 3 #[.agg #[.int .i64 z, .int .i64 x, .int .i64 y], .string s] w fun e w' => e = .returned (.bool true) ∧ Below w.heap.size w w' := by
  have HE := Lib.hid he
  clear he
  have h1 : (100 : Int) < (s.size : Int) := by omega
  go_enter Tryd.func3, Tryd.ntmps3
  go_wp2_with fail
  refine (head_true _ (HE.out.later (by repeat' (first | exact Below.refl _ _ | refine Below.drew ?_ | refine Below.drewN' ?_ | refine Below.setCell ?_ (by first | omega | (simp; done) | exact Below.size (by assumption) | (simp; omega)) _ | refine Below.alloc ?_ (by first | omega | (simp; done) | exact Below.size (by assumption) | (simp; omega)) _ | refine Below.trans ?_ (Below.mono (by assumption) ?_) | (first | omega | (simp; done) | exact Below.size (by assumption) | (simp; omega)))))).mono ?_; rintro e w1 ⟨rfl, hb1⟩
  go_wp2
  go_ret
  refine ⟨rfl, ?_⟩
  repeat' (first | exact Below.refl _ _ | refine Below.drew ?_ | refine Below.drewN' ?_ | refine Below.setCell ?_ (by first | omega | (simp; done) | exact Below.size (by assumption) | (simp; omega)) _ | refine Below.alloc ?_ (by first | omega | (simp; done) | exact Below.size (by assumption) | (simp; omega)) _ | refine Below.trans ?_ (Below.mono (by assumption) ?_) | (first | omega | (simp; done) | exact Below.size (by assumption) | (simp; omega)))

set_option maxRecDepth 100000 in
set_option maxHeartbeats 1000000 in
theorem texts_inv (z x y : Int) (hv : validB z x y = false) (s : ByteArray) (hs : s.size ≤ 100) (hn : ∀ z x y, validB z x y = true → textB z x y ≠ s) (w : World) (he : Env w) :
    Calls Tryd.prog 3 #[.agg #[.int .i64 z, .int .i64 x, .int .i64 y], .string s] w fun e w' => e = .returned (.bool true) ∧ Below w.heap.size w w' := by
  have HE := Lib.hid he
  have HV := Lib.hid hv
  have HN := Lib.hid hn
  clear he hv hn
  have h1 : ¬ ((100 : Int) < (s.size : Int)) := by omega
  go_enter Tryd.func3, Tryd.ntmps3
  go_wp2_with fail
  refine (head_true _ (HE.out.later (by repeat' (first | exact Below.refl _ _ | refine Below.drew ?_ | refine Below.drewN' ?_ | refine Below.setCell ?_ (by first | omega | (simp; done) | exact Below.size (by assumption) | (simp; omega)) _ | refine Below.alloc ?_ (by first | omega | (simp; done) | exact Below.size (by assumption) | (simp; omega)) _ | refine Below.trans ?_ (Below.mono (by assumption) ?_) | (first | omega | (simp; done) | exact Below.size (by assumption) | (simp; omega)))))).mono ?_; rintro e w1 ⟨rfl, hb1⟩
  have HT := row_later hb1 (row_new w _)
  have B1 : Below w.heap.size w w1 := below_step ((Below.refl _ _).alloc (Nat.le_refl _) _) (Nat.le_refl _) hb1
  have HT0 := Lib.hid HT
  have tz := lt_of_block HT
  have t0 := cell_of_row w1 _ 0 _ _ _ HT
  have t1 := cell_of_row w1 _ 1 _ _ _ HT
  have t2 := cell_of_row w1 _ 2 _ _ _ HT
  simp only [List.getElem?_toArray, List.getElem?_cons_zero, List.getElem?_cons_succ] at t0 t1 t2
  have HT' := Lib.hid HT
  clear HT
  clear hb1
  go_wp2_with fail
  refine (text_arg _ _ _ HV.out _).mono ?_; rintro e w2 ⟨rfl, hb2⟩
  have B2 := below_step B1 (Nat.le_refl _) hb2
  have HT := row_later hb2 HT0.out
  clear HT0 HT' t0 t1 t2 hb2 B1
  have HT0 := Lib.hid HT
  have tz := lt_of_block HT
  have t0 := cell_of_row w2 _ 0 _ _ _ HT
  have t1 := cell_of_row w2 _ 1 _ _ _ HT
  have t2 := cell_of_row w2 _ 2 _ _ _ HT
  simp only [List.getElem?_toArray, List.getElem?_cons_zero, List.getElem?_cons_succ] at t0 t1 t2
  have HT' := Lib.hid HT
  clear HT
  go_wp2_with fail
  refine (box_arg _ _ _ HV.out _).mono ?_; rintro e w3 ⟨rfl, hb3⟩
  have B3 := below_step B2 (Nat.le_refl _) hb3
  clear HT0 HT' t0 t1 t2 hb3 B2
  go_wp2_with fail
  refine (parse_bad _ (by omega) HN.out _ (HE.out.later (by repeat' (first | exact Below.refl _ _ | refine Below.drew ?_ | refine Below.drewN' ?_ | refine Below.setCell ?_ (by first | omega | (simp; done) | exact Below.size (by assumption) | (simp; omega)) _ | refine Below.alloc ?_ (by first | omega | (simp; done) | exact Below.size (by assumption) | (simp; omega)) _ | refine Below.trans ?_ (Below.mono (by assumption) ?_) | (first | omega | (simp; done) | exact Below.size (by assumption) | (simp; omega)))))).mono ?_; rintro e w4 ⟨rfl, hb4⟩
  have B4 := below_step (B3.alloc B3.size _) (Nat.le_refl _) hb4
  clear hb4
  go_wp2
  go_ret
  refine ⟨rfl, ?_⟩
  repeat' (first | exact Below.refl _ _ | refine Below.drew ?_ | refine Below.drewN' ?_ | refine Below.setCell ?_ (by first | omega | (simp; done) | exact Below.size (by assumption) | (simp; omega)) _ | refine Below.alloc ?_ (by first | omega | (simp; done) | exact Below.size (by assumption) | (simp; omega)) _ | refine Below.trans ?_ (Below.mono (by assumption) ?_) | (first | omega | (simp; done) | exact Below.size (by assumption) | (simp; omega)))

set_option maxRecDepth 100000 in
set_option maxHeartbeats 1000000 in
theorem texts_inv_ok (z x y : Int) (hv : validB z x y = false) (a b c : Int) (hv' : validB a b c = true) (w : World) (he : Env w) :
    Calls Tryd.prog 3 #[.agg #[.int .i64 z, .int .i64 x, .int .i64 y], .string (textB a b c)] w fun e w' => e = .returned (.bool true) ∧ Below w.heap.size w w' := by
  have HE := Lib.hid he
  have HV := Lib.hid hv
  have HV' := Lib.hid hv'
  have hs := text_size a b c hv'
  have HX := Lib.hid (str_eq_true (a := textB a b c) rfl)
  clear he hv hv'
  have h1 : ¬ ((100 : Int) < ((textB a b c).size : Int)) := by omega
  go_enter Tryd.func3, Tryd.ntmps3
  go_wp2_with fail
  refine (head_true _ (HE.out.later (by repeat' (first | exact Below.refl _ _ | refine Below.drew ?_ | refine Below.drewN' ?_ | refine Below.setCell ?_ (by first | omega | (simp; done) | exact Below.size (by assumption) | (simp; omega)) _ | refine Below.alloc ?_ (by first | omega | (simp; done) | exact Below.size (by assumption) | (simp; omega)) _ | refine Below.trans ?_ (Below.mono (by assumption) ?_) | (first | omega | (simp; done) | exact Below.size (by assumption) | (simp; omega)))))).mono ?_; rintro e w1 ⟨rfl, hb1⟩
  have HT := row_later hb1 (row_new w _)
  have B1 : Below w.heap.size w w1 := below_step ((Below.refl _ _).alloc (Nat.le_refl _) _) (Nat.le_refl _) hb1
  have HT0 := Lib.hid HT
  have tz := lt_of_block HT
  have t0 := cell_of_row w1 _ 0 _ _ _ HT
  have t1 := cell_of_row w1 _ 1 _ _ _ HT
  have t2 := cell_of_row w1 _ 2 _ _ _ HT
  simp only [List.getElem?_toArray, List.getElem?_cons_zero, List.getElem?_cons_succ] at t0 t1 t2
  have HT' := Lib.hid HT
  clear HT
  clear hb1
  go_wp2_with fail
  refine (text_arg _ _ _ HV.out _).mono ?_; rintro e w2 ⟨rfl, hb2⟩
  have B2 := below_step B1 (Nat.le_refl _) hb2
  have HT := row_later hb2 HT0.out
  clear HT0 HT' t0 t1 t2 hb2 B1
  have HT0 := Lib.hid HT
  have tz := lt_of_block HT
  have t0 := cell_of_row w2 _ 0 _ _ _ HT
  have t1 := cell_of_row w2 _ 1 _ _ _ HT
  have t2 := cell_of_row w2 _ 2 _ _ _ HT
  simp only [List.getElem?_toArray, List.getElem?_cons_zero, List.getElem?_cons_succ] at t0 t1 t2
  have HT' := Lib.hid HT
  clear HT
  go_wp2_with fail
  refine (box_arg _ _ _ HV.out _).mono ?_; rintro e w3 ⟨rfl, hb3⟩
  have B3 := below_step B2 (Nat.le_refl _) hb3
  clear HT0 HT' t0 t1 t2 hb3 B2
  go_wp2_with fail
  refine (parse_ok _ _ _ HV'.out _ (HE.out.later (by repeat' (first | exact Below.refl _ _ | refine Below.drew ?_ | refine Below.drewN' ?_ | refine Below.setCell ?_ (by first | omega | (simp; done) | exact Below.size (by assumption) | (simp; omega)) _ | refine Below.alloc ?_ (by first | omega | (simp; done) | exact Below.size (by assumption) | (simp; omega)) _ | refine Below.trans ?_ (Below.mono (by assumption) ?_) | (first | omega | (simp; done) | exact Below.size (by assumption) | (simp; omega)))))).mono ?_; rintro e w4 ⟨rfl, hb4⟩
  have B4 := below_step (B3.alloc B3.size _) (Nat.le_refl _) hb4
  clear hb4
  go_wp2_with fail
  refine (text_ok _ _ _ HV'.out _ (HE.out.later (by repeat' (first | exact Below.refl _ _ | refine Below.drew ?_ | refine Below.drewN' ?_ | refine Below.setCell ?_ (by first | omega | (simp; done) | exact Below.size (by assumption) | (simp; omega)) _ | refine Below.alloc ?_ (by first | omega | (simp; done) | exact Below.size (by assumption) | (simp; omega)) _ | refine Below.trans ?_ (Below.mono (by assumption) ?_) | (first | omega | (simp; done) | exact Below.size (by assumption) | (simp; omega)))))).mono ?_; rintro e w5 ⟨rfl, hb5⟩
  have B5 := below_step (B4.alloc B4.size _) (Nat.le_refl _) hb5
  clear hb5
  have hx := HX.out
  go_wp2
  go_ret
  refine ⟨rfl, ?_⟩
  repeat' (first | exact Below.refl _ _ | refine Below.drew ?_ | refine Below.drewN' ?_ | refine Below.setCell ?_ (by first | omega | (simp; done) | exact Below.size (by assumption) | (simp; omega)) _ | refine Below.alloc ?_ (by first | omega | (simp; done) | exact Below.size (by assumption) | (simp; omega)) _ | refine Below.trans ?_ (Below.mono (by assumption) ?_) | (first | omega | (simp; done) | exact Below.size (by assumption) | (simp; omega)))

set_option maxRecDepth 100000 in
set_option maxHeartbeats 1000000 in
theorem texts_ok (z x y : Int) (hv : validB z x y = true) (s : ByteArray) (hs : s.size ≤ 100) (w : World) (he : Env w) :
    Calls Tryd.prog 3 #[.agg #[.int .i64 z, .int .i64 x, .int .i64 y], .string s] w fun e w' => e = .returned (.bool true) ∧ Below w.heap.size w w' := by
  have HE := Lib.hid he
  have HV := Lib.hid hv
  have hbd := valid_bd hv
  obtain ⟨k, rfl⟩ := Int.eq_ofNat_of_zero_le hbd.1
  have HK := Lib.hid (show k ≤ 17 ∧ (0 ≤ x ∧ x < 2 ^ k) ∧ (0 ≤ y ∧ y < 2 ^ k) by
    simp only [validB, decide_eq_true_eq, Int.toNat_natCast] at hv
    omega)
  clear he hv hbd
  have h1 : ¬ ((100 : Int) < (s.size : Int)) := by omega
  have h2 : ((k : Int) == (k : Int)) = true := by simp
  have h3 : (x == x) = true := by simp
  have h4 : (y == y) = true := by simp
  go_enter Tryd.func3, Tryd.ntmps3
  go_wp2_with fail
  refine (head_true _ (HE.out.later (by repeat' (first | exact Below.refl _ _ | refine Below.drew ?_ | refine Below.drewN' ?_ | refine Below.setCell ?_ (by first | omega | (simp; done) | exact Below.size (by assumption) | (simp; omega)) _ | refine Below.alloc ?_ (by first | omega | (simp; done) | exact Below.size (by assumption) | (simp; omega)) _ | refine Below.trans ?_ (Below.mono (by assumption) ?_) | (first | omega | (simp; done) | exact Below.size (by assumption) | (simp; omega)))))).mono ?_; rintro e w1 ⟨rfl, hb1⟩
  have HT := row_later hb1 (row_new w _)
  have B1 : Below w.heap.size w w1 := below_step ((Below.refl _ _).alloc (Nat.le_refl _) _) (Nat.le_refl _) hb1
  have HT0 := Lib.hid HT
  have tz := lt_of_block HT
  have t0 := cell_of_row w1 _ 0 _ _ _ HT
  have t1 := cell_of_row w1 _ 1 _ _ _ HT
  have t2 := cell_of_row w1 _ 2 _ _ _ HT
  simp only [List.getElem?_toArray, List.getElem?_cons_zero, List.getElem?_cons_succ] at t0 t1 t2
  have HT' := Lib.hid HT
  clear HT
  clear hb1
  go_wp2_with fail
  refine (text_ok _ _ _ HV.out _ (HE.out.later (by repeat' (first | exact Below.refl _ _ | refine Below.drew ?_ | refine Below.drewN' ?_ | refine Below.setCell ?_ (by first | omega | (simp; done) | exact Below.size (by assumption) | (simp; omega)) _ | refine Below.alloc ?_ (by first | omega | (simp; done) | exact Below.size (by assumption) | (simp; omega)) _ | refine Below.trans ?_ (Below.mono (by assumption) ?_) | (first | omega | (simp; done) | exact Below.size (by assumption) | (simp; omega)))))).mono ?_; rintro e w2 ⟨rfl, hb2⟩
  have B2 := below_step B1 (Nat.le_refl _) hb2
  have HT := row_later hb2 HT0.out
  clear HT0 HT' t0 t1 t2 hb2 B1
  have HT0 := Lib.hid HT
  have tz := lt_of_block HT
  have t0 := cell_of_row w2 _ 0 _ _ _ HT
  have t1 := cell_of_row w2 _ 1 _ _ _ HT
  have t2 := cell_of_row w2 _ 2 _ _ _ HT
  simp only [List.getElem?_toArray, List.getElem?_cons_zero, List.getElem?_cons_succ] at t0 t1 t2
  have HT' := Lib.hid HT
  clear HT
  go_wp2_with fail
  refine (parse_ok _ _ _ HV.out _ (HE.out.later (by repeat' (first | exact Below.refl _ _ | refine Below.drew ?_ | refine Below.drewN' ?_ | refine Below.setCell ?_ (by first | omega | (simp; done) | exact Below.size (by assumption) | (simp; omega)) _ | refine Below.alloc ?_ (by first | omega | (simp; done) | exact Below.size (by assumption) | (simp; omega)) _ | refine Below.trans ?_ (Below.mono (by assumption) ?_) | (first | omega | (simp; done) | exact Below.size (by assumption) | (simp; omega)))))).mono ?_; rintro e w3 ⟨rfl, hb3⟩
  have B3 := below_step B2 (Nat.le_refl _) hb3
  have HT := row_later hb3 HT0.out
  clear HT0 HT' t0 t1 t2 hb3 B2
  have HT0 := Lib.hid HT
  have tz := lt_of_block HT
  have t0 := cell_of_row w3 _ 0 _ _ _ HT
  have t1 := cell_of_row w3 _ 1 _ _ _ HT
  have t2 := cell_of_row w3 _ 2 _ _ _ HT
  simp only [List.getElem?_toArray, List.getElem?_cons_zero, List.getElem?_cons_succ] at t0 t1 t2
  have HT' := Lib.hid HT
  clear HT
  go_wp2_with fail
  refine (box_ok _ _ _ HK.out.1 HK.out.2.1 HK.out.2.2 _).mono ?_; rintro e w4 ⟨rfl, hb4⟩
  have B4 := below_step (B3.alloc B3.size _) (Nat.le_refl _) hb4
  clear HT0 HT' t0 t1 t2 hb4 B3
  go_wp2_with fail
  by_cases hx : ∃ a b c, validB a b c = true ∧ textB a b c = s
  · obtain ⟨a, b, c, hv', rfl⟩ := hx
    have HV' := Lib.hid hv'
    have HX := Lib.hid (str_eq_true (a := textB a b c) rfl)
    clear hv'
    refine (parse_ok _ _ _ HV'.out _ (HE.out.later (by repeat' (first | exact Below.refl _ _ | refine Below.drew ?_ | refine Below.drewN' ?_ | refine Below.setCell ?_ (by first | omega | (simp; done) | exact Below.size (by assumption) | (simp; omega)) _ | refine Below.alloc ?_ (by first | omega | (simp; done) | exact Below.size (by assumption) | (simp; omega)) _ | refine Below.trans ?_ (Below.mono (by assumption) ?_) | (first | omega | (simp; done) | exact Below.size (by assumption) | (simp; omega)))))).mono ?_; rintro e w5 ⟨rfl, hb5⟩
    have B5 := below_step (B4.alloc B4.size _) (Nat.le_refl _) hb5
    clear hb5
    go_wp2_with fail
    refine (text_ok _ _ _ HV'.out _ (HE.out.later (by repeat' (first | exact Below.refl _ _ | refine Below.drew ?_ | refine Below.drewN' ?_ | refine Below.setCell ?_ (by first | omega | (simp; done) | exact Below.size (by assumption) | (simp; omega)) _ | refine Below.alloc ?_ (by first | omega | (simp; done) | exact Below.size (by assumption) | (simp; omega)) _ | refine Below.trans ?_ (Below.mono (by assumption) ?_) | (first | omega | (simp; done) | exact Below.size (by assumption) | (simp; omega)))))).mono ?_; rintro e w6 ⟨rfl, hb6⟩
    have B6 := below_step (B5.alloc B5.size _) (Nat.le_refl _) hb6
    clear hb6
    have hx := HX.out
    go_wp2
    go_ret
    refine ⟨rfl, ?_⟩
    repeat' (first | exact Below.refl _ _ | refine Below.drew ?_ | refine Below.drewN' ?_ | refine Below.setCell ?_ (by first | omega | (simp; done) | exact Below.size (by assumption) | (simp; omega)) _ | refine Below.alloc ?_ (by first | omega | (simp; done) | exact Below.size (by assumption) | (simp; omega)) _ | refine Below.trans ?_ (Below.mono (by assumption) ?_) | (first | omega | (simp; done) | exact Below.size (by assumption) | (simp; omega)))
  · have HN := Lib.hid (show ∀ z x y, validB z x y = true → textB z x y ≠ s from fun a b c h e => hx ⟨a, b, c, h, e⟩)
    clear hx
    refine (parse_bad _ (by omega) HN.out _ (HE.out.later (by repeat' (first | exact Below.refl _ _ | refine Below.drew ?_ | refine Below.drewN' ?_ | refine Below.setCell ?_ (by first | omega | (simp; done) | exact Below.size (by assumption) | (simp; omega)) _ | refine Below.alloc ?_ (by first | omega | (simp; done) | exact Below.size (by assumption) | (simp; omega)) _ | refine Below.trans ?_ (Below.mono (by assumption) ?_) | (first | omega | (simp; done) | exact Below.size (by assumption) | (simp; omega)))))).mono ?_; rintro e w5 ⟨rfl, hb5⟩
    have B5 := below_step (B4.alloc B4.size _) (Nat.le_refl _) hb5
    clear hb5
    go_wp2
    go_ret
    refine ⟨rfl, ?_⟩
    repeat' (first | exact Below.refl _ _ | refine Below.drew ?_ | refine Below.drewN' ?_ | refine Below.setCell ?_ (by first | omega | (simp; done) | exact Below.size (by assumption) | (simp; omega)) _ | refine Below.alloc ?_ (by first | omega | (simp; done) | exact Below.size (by assumption) | (simp; omega)) _ | refine Below.trans ?_ (Below.mono (by assumption) ?_) | (first | omega | (simp; done) | exact Below.size (by assumption) | (simp; omega)))

theorem gridTexts_walk (z x y : Int) (s : ByteArray) (w : World) (he : Env w) :
    Calls Tryd.prog 3 #[.agg #[.int .i64 z, .int .i64 x, .int .i64 y], .string s] w fun e w' => e = .returned (.bool true) ∧ Below w.heap.size w w' := by
  by_cases hs : s.size ≤ 100
  · by_cases hv : validB z x y = true
    · exact texts_ok z x y hv s hs w he
    · by_cases hx : ∃ a b c, validB a b c = true ∧ textB a b c = s
      · obtain ⟨a, b, c, hv', rfl⟩ := hx
        exact texts_inv_ok z x y (by simpa using hv) a b c hv' w he
      · exact texts_inv z x y (by simpa using hv) s hs (fun a b c h e => hx ⟨a, b, c, h, e⟩) w he
  · exact texts_long z x y s (by omega) w he
end Go.Proofs.YtnilofeakdibhaaDoor
