/- Contracts of the reference of layers 1 and 7: digits, Decimal, Text. -/
import Derived.Test.YtnilofeakdibhaaDoorGridRA
import Derived.Test.YtnilofeakdibhaaDoorGridH
namespace Go.Proofs.YtnilofeakdibhaaDoor
open Go.RowKit

/-- What stands before the digits that the loop has collected. -/
def frontL (m : Nat) : List UInt8 := if m = 0 then [] else Lib.decDigits m
theorem front_step (m : Nat) (hm : 0 < m) : frontL m = frontL (m / 10) ++ [UInt8.ofNat (48 + m % 10)] := by
  unfold frontL
  rw [if_neg (by omega)]
  by_cases h : m < 10
  · rw [if_pos (by omega), Lib.decDigits_one h, Nat.mod_eq_of_lt h]; rfl
  · rw [if_neg (by omega)]
    conv => lhs; rw [Lib.decDigits]
    rw [dif_neg h]
theorem front_zero (n : Nat) : Lib.decDigits n = frontL (n / 10) ++ [UInt8.ofNat (48 + n % 10)] := by
  by_cases h : n = 0
  · subst h; rw [Lib.decDigits_one (by omega)]; rfl
  · rw [← front_step n (by omega), frontL, if_neg h]
def digB (d : Nat) : ByteArray := ⟨#[UInt8.ofNat (48 + d)]⟩
theorem dig_piece (d : Nat) (h : d < 10) : (⟨#[48, 49, 50, 51, 52, 53, 54, 55, 56, 57]⟩ : ByteArray).extract d (d + 1) = digB d := by
  have : ∀ d : Fin 10, (⟨#[48, 49, 50, 51, 52, 53, 54, 55, 56, 57]⟩ : ByteArray).extract d.val (d.val + 1) = digB d.val := by decide
  exact this ⟨d, h⟩

theorem u64_div (n : Nat) : Value.int .u64 ((n : Int) / 10) = .int .u64 ((n / 10 : Nat) : Int) := by congr 1
theorem digB_cons (d : Nat) (D : List UInt8) : Value.string (digB d ++ ⟨D.toArray⟩) = .string ⟨(UInt8.ofNat (48 + d) :: D).toArray⟩ := by
  congr 1

set_option maxHeartbeats 1000000 in
theorem digits_any (n : Nat) (hn : n < 9223372036854775808) (w : World) :
    Calls Tryd.prog 51 #[.int .u64 n] w fun e w' => e = .returned (.string ⟨(Lib.decDigits n).toArray⟩) ∧ w = w' := by
  have hle : (Lib.decDigits n).length ≤ 21 := by
    have := Lib.itoa_length_le (n : Int) (by omega) (by omega)
    rw [Lib.itoa_nonneg] at this
    exact this
  have DP := Lib.hid (dig_piece (n % 10) (by omega))
  go_enter Tryd.func51, Tryd.ntmps51
  go_wp2
  go_loop [0, 3] (fun t s => ∃ (m : Nat) (D : List UInt8), m ≤ n ∧ t = .int .u64 m ∧ s = .string ⟨D.toArray⟩ ∧ Lib.decDigits n = frontL m ++ D) (fun t _ => (intOf t).toNat)
  case atStart => exact ⟨n / 10, [UInt8.ofNat (48 + n % 10)], by omega, by rw [u64_div], by rw [DP.out]; rfl, front_zero n⟩
  case round =>
    obtain ⟨m, D, hm, rfl, rfl, hD⟩ := hrel
    have HD := Lib.hid hD
    have hDl : D.length ≤ 21 := by
      have := congrArg List.length hD
      rw [List.length_append] at this
      omega
    clear hD
    by_cases h0 : 0 < m
    · have DM := Lib.hid (dig_piece (m % 10) (by omega))
      have FS := Lib.hid (front_step m h0)
      have ea : ∀ w, (Op.stringOp .add ((⟨#[48, 49, 50, 51, 52, 53, 54, 55, 56, 57]⟩ : ByteArray).extract (m % 10) (m % 10 + 1)) ⟨D.toArray⟩).run Tryd.prog w = .ok (.string ((⟨#[48, 49, 50, 51, 52, 53, 54, 55, 56, 57]⟩ : ByteArray).extract (m % 10) (m % 10 + 1) ++ ⟨D.toArray⟩)) w := fun w => run_string_add_sum w _ _ (by rw [DM.out]; show 1 + D.toArray.size ≤ _; simp; omega)
      go_wp2
      go_round
      case rel => exact ⟨m / 10, UInt8.ofNat (48 + m % 10) :: D, by omega, by rw [u64_div], by rw [DM.out, digB_cons], by rw [HD.out, FS.out]; simp⟩
      case measure => simp [intOf]; omega
    · obtain rfl : m = 0 := by omega
      go_wp2
      go_ret
      exact ⟨by rw [HD.out]; rfl, rfl⟩

set_option maxHeartbeats 400000 in
theorem decimal_any (n : Nat) (hn : n < 9223372036854775807) (w : World) :
    Calls Tryd.prog 45 #[.int .i64 n] w fun e w' => e = .returned (.string (itoaB n)) ∧ w' = w := by
  go_enter Tryd.func45, Tryd.ntmps45
  go_wp2_with fail
  refine (digits_any n (by omega) _).mono ?_; rintro e w' ⟨rfl, rfl⟩
  go_wp2
  go_ret
  exact ⟨by rw [itoaB, Lib.itoa_nonneg]; rfl, rfl⟩

theorem decimal_still (n : Int) (h0 : 0 ≤ n) (hn : n < 9223372036854775807) (w : World) :
    Calls Tryd.prog 45 #[.int .i64 n] w fun e w' => e = .returned (.string (itoaB n)) ∧ w' = w := by
  obtain ⟨k, rfl⟩ := Int.eq_ofNat_of_zero_le h0
  exact decimal_any k (by omega) w

set_option maxHeartbeats 400000 in
theorem rtext_arg (z x y : Int) (hv : validB z x y = false) (w : World) :
    Calls Tryd.prog 27 #[.agg #[.int .i64 z, .int .i64 x, .int .i64 y]] w fun e w' => e = .returned (.tuple #[.string ⟨#[]⟩, .int .i64 1]) ∧ Below w.heap.size w w' := by
  have LV := Lib.hid hv
  clear hv
  go_enter Tryd.func27, Tryd.ntmps27
  go_wp2_with fail
  refine (rvalid_below _ _ _ _).mono ?_; rintro e w1 ⟨rfl, hb1⟩; rw [LV.out]
  go_wp2
  go_ret2
  refine ⟨rfl, ?_⟩
  repeat' (first | exact Below.refl _ _ | refine Below.drew ?_ | refine Below.drewN' ?_ | refine Below.setCell ?_ (by first | omega | (simp; done) | exact Below.size (by assumption) | (simp; omega)) _ | refine Below.alloc ?_ (by first | omega | (simp; done) | exact Below.size (by assumption) | (simp; omega)) _ | refine Below.trans ?_ (Below.mono (by assumption) ?_) | (first | omega | (simp; done) | exact Below.size (by assumption) | (simp; omega)))

set_option maxHeartbeats 1000000 in
theorem rtext_ok (z x y : Int) (hv : validB z x y = true) (w : World) :
    Calls Tryd.prog 27 #[.agg #[.int .i64 z, .int .i64 x, .int .i64 y]] w fun e w' => e = .returned (.tuple #[.string (textB z x y), .int .i64 0]) ∧ Below w.heap.size w w' := by
  have LV := Lib.hid hv
  obtain ⟨hz0, hz1, hx0, hx1, hy0, hy1⟩ := valid_bd hv
  clear hv
  have s1 := itoaB_size z (by omega) (by omega)
  have s2 := itoaB_size x (by omega) (by omega)
  have s3 := itoaB_size y (by omega) (by omega)
  have e1 : ∀ w, (Op.stringOp .add (itoaB z) ⟨#[47]⟩).run Tryd.prog w = .ok (.string (itoaB z ++ slashB)) w := fun w => run_string_add_sum w _ _ (by show (itoaB z).size + 1 ≤ _; omega)
  have e2 : ∀ w, (Op.stringOp .add (itoaB z ++ slashB) (itoaB x)).run Tryd.prog w = .ok (.string (itoaB z ++ slashB ++ itoaB x)) w := fun w => run_string_add_sum w _ _ (by simp only [ByteArray.size_append, slashB_size]; omega)
  have e3 : ∀ w, (Op.stringOp .add (itoaB z ++ slashB ++ itoaB x) ⟨#[47]⟩).run Tryd.prog w = .ok (.string (itoaB z ++ slashB ++ itoaB x ++ slashB)) w := fun w => run_string_add_sum w _ _ (by simp only [ByteArray.size_append, slashB_size]; show _ + 1 ≤ _; omega)
  have e4 : ∀ w, (Op.stringOp .add (itoaB z ++ slashB ++ itoaB x ++ slashB) (itoaB y)).run Tryd.prog w = .ok (.string (textB z x y)) w := fun w => run_string_add_sum w _ _ (by simp only [ByteArray.size_append, slashB_size]; omega)
  go_enter Tryd.func27, Tryd.ntmps27
  go_wp2_with fail
  refine (rvalid_below _ _ _ _).mono ?_; rintro e w1 ⟨rfl, hb1⟩; rw [LV.out]
  have HA := row_later hb1 (row_new w _)
  have hs1 := hb1.size; simp at hs1
  have az := lt_of_block HA
  have a0 := cell_of_row w1 _ 0 _ _ _ HA
  have a1 := cell_of_row w1 _ 1 _ _ _ HA
  have a2 := cell_of_row w1 _ 2 _ _ _ HA
  simp only [List.getElem?_toArray, List.getElem?_cons_zero, List.getElem?_cons_succ] at a0 a1 a2
  have HA' := Lib.hid HA
  clear HA
  go_wp2_with fail
  go_quiet ((go_at_call 45; exact Calls.quiet_of_same (decimal_still _ (by omega) (by omega) _)))
  go_wp2
  go_ret2
  refine ⟨rfl, ?_⟩
  repeat' (first | exact Below.refl _ _ | refine Below.drew ?_ | refine Below.drewN' ?_ | refine Below.setCell ?_ (by first | omega | (simp; done) | exact Below.size (by assumption) | (simp; omega)) _ | refine Below.alloc ?_ (by first | omega | (simp; done) | exact Below.size (by assumption) | (simp; omega)) _ | refine Below.trans ?_ (Below.mono (by assumption) ?_) | (first | omega | (simp; done) | exact Below.size (by assumption) | (simp; omega)))

theorem text_both (z x y : Int) : ∃ (s : ByteArray) (E : Int),
    (∀ w, Env w → Calls Tryd.prog 10 #[.agg #[.int .i64 z, .int .i64 x, .int .i64 y]] w fun e w' => e = .returned (.tuple #[.string s, .int .i64 E]) ∧ Below w.heap.size w w') ∧
    (∀ w, Calls Tryd.prog 27 #[.agg #[.int .i64 z, .int .i64 x, .int .i64 y]] w fun e w' => e = .returned (.tuple #[.string s, .int .i64 E]) ∧ Below w.heap.size w w') := by
  cases hv : validB z x y
  · exact ⟨_, _, fun w _ => text_arg z x y hv w, rtext_arg z x y hv⟩
  · exact ⟨_, _, fun w he => text_ok z x y hv w he, rtext_ok z x y hv⟩
end Go.Proofs.YtnilofeakdibhaaDoor
