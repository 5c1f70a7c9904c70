/- Names, tags and objects as plain data, and when they are valid. No program in sight. -/
import Derived.Lib.Bytealg
namespace Go.Proofs.YtapllmniplgajaaGreatDoor
open Go

def letterC (c : UInt8) : Bool := decide (97 ≤ c.toNat ∧ c.toNat ≤ 122 ∨ 65 ≤ c.toNat ∧ c.toNat ≤ 90)
def digitC (c : UInt8) : Bool := decide (48 ≤ c.toNat ∧ c.toNat ≤ 57)
def wordC (c : UInt8) : Bool := letterC c || digitC c || decide (c.toNat = 95)
/-- A beginning of a name, as far as its letters go. -/
def preOK : List UInt8 → Bool
  | [] => true
  | c :: r => letterC c && r.all wordC
theorem preOK_snoc (l : List UInt8) (c : UInt8) : preOK (l ++ [c]) = if l.length = 0 then letterC c else (preOK l && wordC c) := by
  cases l with
  | nil => simp [preOK]
  | cons a r => simp [preOK, Bool.and_assoc]
theorem preOK_app {l : List UInt8} (m : List UInt8) (h : preOK l = false) : preOK (l ++ m) = false := by
  cases l with
  | nil => simp [preOK] at h
  | cons a r =>
    simp only [List.cons_append, preOK, List.all_append] at h ⊢
    cases h1 : letterC a <;> cases h2 : r.all wordC <;> simp_all
/-- A name: a letter, then letters, digits and underscores, 24 bytes at most. -/
def nameL (l : List UInt8) : Bool := decide (0 < l.length) && decide (l.length ≤ 24) && preOK l
def nameB (s : ByteArray) : Bool := nameL s.data.toList

structure TagD where
  key : ByteArray
  val : ByteArray
structure ObjD where
  id : ByteArray
  kind : Int
  x : Int
  y : Int
  refs : List ByteArray
  tags : List TagD

/-- Is the first text less than the second one? -/
def ltB (a b : ByteArray) : Bool := Op.bytesLess a.toList b.toList
theorem bl_leq : ∀ (x y : List UInt8), (Op.bytesLess x y || x == y) = !Op.bytesLess y x
  | [], [] => by simp [Op.bytesLess]
  | [], _ :: _ => by simp [Op.bytesLess]
  | _ :: _, [] => by simp [Op.bytesLess]
  | a :: x, b :: y => by
    have ih := bl_leq x y
    simp only [Op.bytesLess]
    rcases Nat.lt_trichotomy a.toNat b.toNat with h | h | h
    · have h1 : a < b := UInt8.lt_iff_toNat_lt.2 h
      have h2 : ¬ b < a := fun e => by have := UInt8.lt_iff_toNat_lt.1 e; omega
      have h3 : ¬ b = a := fun e => by subst e; omega
      simp [h1, h2, h3]
    · have e : a = b := UInt8.toNat_inj.1 h
      subst e
      have h2 : ¬ a < a := fun e => by have := UInt8.lt_iff_toNat_lt.1 e; omega
      simp only [h2, decide_false, beq_self_eq_true, Bool.true_and, Bool.false_or]
      rw [← ih]
      congr 1
      simp
    · have h1 : b < a := UInt8.lt_iff_toNat_lt.2 h
      have h2 : ¬ a < b := fun e => by have := UInt8.lt_iff_toNat_lt.1 e; omega
      have h3 : ¬ a = b := fun e => by subst e; omega
      simp [h1, h2, h3]
theorem leqB (a b : ByteArray) : (Op.bytesLess a.toList b.toList || a.toList == b.toList) = !ltB b a := bl_leq _ _
/-- Tags in strictly increasing order of keys behind a key, each valid. -/
def tagsFrom : ByteArray → List TagD → Bool
  | _, [] => true
  | last, t :: l => nameB t.key && ltB last t.key && decide (0 < t.val.size ∧ t.val.size ≤ 200) && tagsFrom t.key l
def tagsOK (l : List TagD) : Bool := decide (l.length ≤ 60) && tagsFrom ⟨#[]⟩ l
def refsFrom (kind : Int) : List ByteArray → List ByteArray → Bool
  | _, [] => true
  | pre, s :: l => nameB s && !(decide (kind = 2) && decide (pre.getLast? = some s)) && !(decide (kind = 3) && pre.any fun p => decide (p = s)) && refsFrom kind (pre ++ [s]) l
end Go.Proofs.YtapllmniplgajaaGreatDoor
