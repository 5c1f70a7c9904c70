/- The reference's Parse: what it reads, as a fold over the bytes. -/
import Derived.Test.YtnilofeakdibhaaDoorGridH
namespace Go.Proofs.YtnilofeakdibhaaDoor
open Go.RowKit

/-- What Parse has read: how many slashes, and the three numbers. -/
structure PS where
  k : Nat
  a : Int
  b : Int
  c : Int
def dgt (n : Int) (u : UInt8) : Int := min (10 * n + ((u.toNat : Int) - 48)) 10000000
def PS.now (s : PS) : Int := if s.k = 0 then s.a else if s.k = 1 then s.b else s.c
def PS.put (s : PS) (v : Int) : PS := if s.k = 0 then ⟨s.k, v, s.b, s.c⟩ else if s.k = 1 then ⟨s.k, s.a, v, s.c⟩ else ⟨s.k, s.a, s.b, v⟩
theorem PS.put_k (s : PS) (v : Int) : (s.put v).k = s.k := by unfold PS.put; split <;> (try split) <;> rfl
theorem PS.now_put (s : PS) (v : Int) : (s.put v).now = v := by
  unfold PS.put PS.now
  split
  · simp [*]
  · split <;> simp [*]
theorem PS.put_put (s : PS) (v u : Int) : (s.put v).put u = s.put u := by
  unfold PS.put
  split
  · simp [*]
  · split <;> simp [*]
/-- One byte read; none where it is refused. -/
def pstep (s : PS) (u : UInt8) : Option PS :=
  if u.toNat = 47 then some ⟨s.k + 1, s.a, s.b, s.c⟩
  else if 48 ≤ u.toNat ∧ u.toNat ≤ 57 ∧ s.k < 3 then some (s.put (dgt s.now u))
  else none
def pfrom (o : Option PS) (l : List UInt8) : Option PS := l.foldl (fun s u => s.bind (pstep · u)) o
theorem pfrom_app (o : Option PS) (l m : List UInt8) : pfrom o (l ++ m) = pfrom (pfrom o l) m := by simp [pfrom, List.foldl_append]
theorem pfrom_none (l : List UInt8) : pfrom none l = none := by
  induction l with
  | nil => rfl
  | cons u l ih => simpa [pfrom] using ih
def PS.zero : PS := ⟨0, 0, 0, 0⟩
def pfold (l : List UInt8) : Option PS := pfrom (some PS.zero) l
theorem pfold_snoc (l : List UInt8) (u : UInt8) : pfold (l ++ [u]) = (pfold l).bind (pstep · u) := by rw [pfold, pfrom_app]; rfl
theorem pfold_none (l m : List UInt8) (h : pfold l = none) : pfold (l ++ m) = none := by
  rw [pfold, pfrom_app]
  rw [pfold] at h
  rw [h, pfrom_none]
theorem step_digit (s : PS) (hk : s.k < 3) (d : Nat) (hd : d < 10) (n : Int) (h0 : s.now = n) (hn : 10 * n + d ≤ 10000000) : pstep s (UInt8.ofNat (48 + d)) = some (s.put (10 * n + d)) := by
  obtain ⟨h1, h2, h3⟩ := GridP.dig_val d hd
  unfold pstep
  rw [if_neg (by omega), if_pos ⟨h1, h2, hk⟩, h0, dgt]
  congr 2
  omega
theorem fold_digits (s : PS) (hk : s.k < 3) (h0 : s.now = 0) (n : Nat) (hn : n ≤ 1000000) : pfrom (some s) (Lib.decDigits n) = some (s.put n) := by
  induction n using Nat.strongRecOn with
  | ind n ih =>
    rw [Lib.decDigits]
    split
    · rename_i h
      show (some s).bind (pstep · _) = _
      rw [Option.bind_some, step_digit s hk n h 0 h0 (by omega)]
      simp
    · rw [pfrom_app, ih (n / 10) (by omega) (by omega)]
      show (some (s.put _)).bind (pstep · _) = _
      rw [Option.bind_some, step_digit _ (by rw [PS.put_k]; exact hk) (n % 10) (by omega) ((n / 10 : Nat) : Int) (PS.now_put _ _) (by omega), PS.put_put]
      congr 2
      omega
theorem fold_text (a b c : Nat) (ha : a ≤ 1000000) (hb : b ≤ 1000000) (hc : c ≤ 1000000) : pfold (textB a b c).data.toList = some ⟨2, a, b, c⟩ := by
  have ht : (textB a b c).data.toList = Lib.decDigits a ++ ([47] ++ (Lib.decDigits b ++ ([47] ++ Lib.decDigits c))) := by
    simp [textB, itoaB, slashB, Lib.itoa_nonneg]
  have sl (s : PS) : pfrom (some s) [47] = some ⟨s.k + 1, s.a, s.b, s.c⟩ := rfl
  rw [ht, pfold, pfrom_app, fold_digits _ (by decide) (by decide) a ha, pfrom_app, sl, pfrom_app, fold_digits _ (by simp [PS.put, PS.zero]) (by simp [PS.put, PS.zero, PS.now]) b hb, pfrom_app, sl, fold_digits _ (by simp [PS.put, PS.zero]) (by simp [PS.put, PS.zero, PS.now]) c hc]
  simp [PS.put, PS.zero]
/-- The reference's answer. -/
def presR (s : ByteArray) : Int × Int × Int × Int :=
  match pfold s.data.toList with
  | none => (0, 0, 0, 5)
  | some t => if validB t.a t.b t.c = true ∧ textB t.a t.b t.c = s then (t.a, t.b, t.c, 0) else (0, 0, 0, 5)
theorem presR_none (s : ByteArray) (h : pfold s.data.toList = none) : presR s = (0, 0, 0, 5) := by unfold presR; rw [h]
theorem presR_bad (s : ByteArray) (t : PS) (h : pfold s.data.toList = some t) (hb : ¬ (validB t.a t.b t.c = true ∧ textB t.a t.b t.c = s)) : presR s = (0, 0, 0, 5) := by
  unfold presR; rw [h]; simp only; rw [if_neg hb]
theorem presR_good (s : ByteArray) (t : PS) (h : pfold s.data.toList = some t) (hb : validB t.a t.b t.c = true ∧ textB t.a t.b t.c = s) : presR s = (t.a, t.b, t.c, 0) := by
  unfold presR; rw [h]; simp only; rw [if_pos hb]
theorem presR_text (z x y : Int) (hv : validB z x y = true) : presR (textB z x y) = (z, x, y, 0) := by
  have hb := valid_bd hv
  obtain ⟨a, rfl⟩ := Int.eq_ofNat_of_zero_le hb.1
  obtain ⟨b, rfl⟩ := Int.eq_ofNat_of_zero_le hb.2.2.1
  obtain ⟨c, rfl⟩ := Int.eq_ofNat_of_zero_le hb.2.2.2.2.1
  exact presR_good _ _ (fold_text a b c (by omega) (by omega) (by omega)) ⟨hv, rfl⟩
theorem presR_not (s : ByteArray) (hn : ∀ z x y, validB z x y = true → textB z x y ≠ s) : presR s = (0, 0, 0, 5) := by
  cases h : pfold s.data.toList with
  | none => exact presR_none s h
  | some t => exact presR_bad s t h (fun hb => hn _ _ _ hb.1 hb.2)
end Go.Proofs.YtnilofeakdibhaaDoor
