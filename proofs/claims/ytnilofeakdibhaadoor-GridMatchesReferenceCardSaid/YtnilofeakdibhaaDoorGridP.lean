/- Plain law: the numbers between the slashes of a tile's text are those of the tile. No program in sight. -/
import Derived.Lib.SplitLaws
import Derived.Lib.ItoaLen
import Derived.Lib.AtoiAll
namespace Go.Proofs.YtnilofeakdibhaaDoor.GridP
open Go

theorem index_app (c : UInt8) : ∀ (a r : List UInt8), c ∉ a → Lib.index (a ++ c :: r) [c] = a.length
  | [], r, _ => by rw [List.nil_append, Lib.index]; simp [List.isPrefixOf]
  | b :: a, r, h => by
    have hb : b ≠ c := fun e => h (by simp [e])
    have ha : c ∉ a := fun e => h (by simp [e])
    have ih := index_app c a r ha
    have hp : ([c] : List UInt8).isPrefixOf (b :: (a ++ c :: r)) = false := by simp [List.isPrefixOf, Ne.symm hb]
    rw [List.cons_append, Lib.index, hp, ih]
    have : ¬ ((a.length : Int) == -1) = true := by rw [beq_iff_eq]; omega
    simp [this]
theorem index_none (c : UInt8) : ∀ (a : List UInt8), c ∉ a → Lib.index a [c] = -1
  | [], _ => by simp [Lib.index]
  | b :: a, h => by
    have hb : b ≠ c := fun e => h (by simp [e])
    have ha : c ∉ a := fun e => h (by simp [e])
    have hp : ([c] : List UInt8).isPrefixOf (b :: a) = false := by simp [List.isPrefixOf, Ne.symm hb]
    rw [Lib.index, hp, index_none c a ha]
    simp
theorem splitK_app (c : UInt8) (k : Nat) (a r : List UInt8) (h : c ∉ a) : Lib.splitK [c] 0 (k + 1) (a ++ c :: r) = a :: Lib.splitK [c] 0 k r := by
  rw [Lib.splitK, index_app c a r h]
  have : ¬ ((a.length : Int) == -1) = true := by rw [beq_iff_eq]; omega
  rw [if_neg this]
  simp
theorem splitK_none (c : UInt8) (k : Nat) (a : List UInt8) (h : c ∉ a) : Lib.splitK [c] 0 k a = [a] := by
  cases k with
  | zero => rfl
  | succ k => rw [Lib.splitK, index_none c a h]; simp
theorem split3 (c : UInt8) (a b d : List UInt8) (ha : c ∉ a) (hb : c ∉ b) (hd : c ∉ d) : Lib.splitK [c] 0 (Lib.count (a ++ c :: (b ++ c :: d)) [c]) (a ++ c :: (b ++ c :: d)) = [a, b, d] := by
  have hc : Lib.count (a ++ c :: (b ++ c :: d)) [c] = 2 := by
    rw [Lib.count_one]
    simp [List.count_eq_zero_of_not_mem ha, List.count_eq_zero_of_not_mem hb, List.count_eq_zero_of_not_mem hd]
  rw [hc, splitK_app c 1 a _ ha, splitK_app c 0 b _ hb, splitK_none c 0 d hd]

theorem digit_mem : ∀ (n : Nat) (b : UInt8), b ∈ Lib.decDigits n → 48 ≤ b.toNat ∧ b.toNat ≤ 57 := by
  intro n
  induction n using Nat.strongRecOn with
  | ind n ih =>
    intro b hb
    have h8 : ∀ d : Nat, d < 10 → 48 ≤ (UInt8.ofNat (48 + d)).toNat ∧ (UInt8.ofNat (48 + d)).toNat ≤ 57 := by
      intro d hd
      have : ∀ d : Fin 10, 48 ≤ (UInt8.ofNat (48 + d.val)).toNat ∧ (UInt8.ofNat (48 + d.val)).toNat ≤ 57 := by decide
      exact this ⟨d, hd⟩
    rw [Lib.decDigits] at hb
    split at hb
    · rw [List.mem_singleton] at hb; subst hb; exact h8 n (by assumption)
    · rename_i hn
      rw [List.mem_append] at hb
      rcases hb with hb | hb
      · exact ih (n / 10) (by omega) b hb
      · rw [List.mem_singleton] at hb; subst hb; exact h8 _ (by omega)
theorem slash_not (n : Nat) : (47 : UInt8) ∉ Lib.decDigits n := fun h => by
  have := digit_mem n _ h
  simp at this

theorem dig_val (d : Nat) (h : d < 10) : 48 ≤ (UInt8.ofNat (48 + d)).toNat ∧ (UInt8.ofNat (48 + d)).toNat ≤ 57 ∧ (UInt8.ofNat (48 + d)).toNat - 48 = d := by
  have : ∀ d : Fin 10, 48 ≤ (UInt8.ofNat (48 + d.val)).toNat ∧ (UInt8.ofNat (48 + d.val)).toNat ≤ 57 ∧ (UInt8.ofNat (48 + d.val)).toNat - 48 = d.val := by decide
  exact this ⟨d, h⟩
theorem parse_app : ∀ (l : List UInt8) (acc u : Nat) (m : List UInt8), Lib.parseUint10 acc l = .ok u → Lib.parseUint10 acc (l ++ m) = Lib.parseUint10 u m
  | [], acc, u, m, h => by simp [Lib.parseUint10] at h; subst h; rfl
  | c :: l, acc, u, m, h => by
    rw [List.cons_append]
    unfold Lib.parseUint10 at h
    conv => lhs; unfold Lib.parseUint10
    split at h
    · rename_i h1
      rw [if_pos h1]
      split at h
      · cases h
      · rename_i h2
        rw [if_neg h2]
        split at h
        · cases h
        · rename_i h3
          rw [if_neg h3]
          exact parse_app l _ u m h
    · cases h
theorem parse_one (acc d : Nat) (hd : d < 10) (ha : acc * 10 + d < 18446744073709551616) : Lib.parseUint10 acc [UInt8.ofNat (48 + d)] = .ok (acc * 10 + d) := by
  obtain ⟨h1, h2, h3⟩ := dig_val d hd
  unfold Lib.parseUint10
  rw [if_pos ⟨h1, h2⟩, if_neg (by omega), h3, if_neg (by omega)]
  rfl
theorem parse_digits (n : Nat) (hn : n < 18446744073709551616) : Lib.parseUint10 0 (Lib.decDigits n) = .ok n := by
  induction n using Nat.strongRecOn with
  | ind n ih =>
    rw [Lib.decDigits]
    split
    · have := parse_one 0 n (by assumption) (by omega)
      simpa using this
    · rw [parse_app _ 0 (n / 10) _ (ih (n / 10) (by omega) (by omega)), parse_one (n / 10) (n % 10) (by omega) (by omega)]
      congr 1; omega
theorem digits_ne (n : Nat) : Lib.decDigits n ≠ [] := by
  rw [Lib.decDigits]
  split <;> simp
theorem atoi_digits (n : Nat) (hn : n < 9223372036854775808) : Lib.atoiAll (Lib.decDigits n) = .ok (n : Int) := by
  have hne := digits_ne n
  have hp := parse_digits n (by omega)
  have hm := digit_mem n
  generalize Lib.decDigits n = l at hne hp hm
  cases l with
  | nil => exact absurd rfl hne
  | cons c r =>
    have hc := hm c (by simp)
    unfold Lib.atoiAll
    simp only
    rw [if_neg (by omega)]
    rw [Lib.parseMag, if_neg (by simp), hp]
    simp only
    rw [if_neg (by omega), if_neg (by omega), if_neg (by omega)]
end Go.Proofs.YtnilofeakdibhaaDoor.GridP
