/- Contract of name.language, at keys that are names. -/
import Derived.Test.YtapllmniplgajaaGreatDoorObjP
import Derived.Test.YtapllmniplgajaaGreatDoorShelf
import Derived.Test.YtapllmniplgajaaGreatDoorKit
import Derived.Laws.RangeString
import Derived.Laws.RangeAny
namespace Go.Proofs.YtapllmniplgajaaGreatDoor
open Go.RowKit

def lowL (l : List UInt8) : Bool := l.all fun c => decide (97 ≤ c.toNat ∧ c.toNat ≤ 122)
/-- What follows the prefix of a key. -/
def restB (key : ByteArray) : ByteArray := ⟨(Lib.trimPrefix key.data.toList [110, 97, 109, 101, 95]).toArray⟩
/-- The language of a key, where it is the key of a name. -/
def langB (key : ByteArray) : Option ByteArray :=
  if key = ⟨#[110, 97, 109, 101]⟩ then some ⟨#[]⟩
  else if Lib.hasPrefix key.data.toList [110, 97, 109, 101, 95] && lowL (restB key).data.toList && decide (0 < (restB key).size) && decide ((restB key).size ≤ 8) then some (restB key) else none

theorem letter_ascii (c : UInt8) (h : letterC c = true) : c.toNat < 128 := by
  unfold letterC at h; rw [decide_eq_true_eq] at h; omega
theorem word_ascii (c : UInt8) (h : wordC c = true) : c.toNat < 128 := by
  unfold wordC at h
  rw [Bool.or_eq_true, Bool.or_eq_true] at h
  rcases h with (h | h) | h
  · exact letter_ascii c h
  · unfold digitC at h; rw [decide_eq_true_eq] at h; omega
  · rw [decide_eq_true_eq] at h; omega
theorem name_ascii (key : ByteArray) (h : nameB key = true) : ∀ b ∈ key.data.toList, b.toNat < 128 := by
  unfold nameB nameL at h
  rw [Bool.and_eq_true] at h
  have h2 := h.2
  intro b hb
  cases hk : key.data.toList with
  | nil => rw [hk] at hb; cases hb
  | cons c r =>
    rw [hk] at hb h2
    simp only [preOK, Bool.and_eq_true] at h2
    rcases List.mem_cons.1 hb with rfl | hb
    · exact letter_ascii _ h2.1
    · exact word_ascii _ (List.all_eq_true.1 h2.2 b hb)
theorem rest_sub (key : ByteArray) : ∀ b ∈ (restB key).data.toList, b ∈ key.data.toList := by
  intro b hb
  unfold restB Lib.trimPrefix at hb
  simp only [] at hb
  split at hb
  · exact List.mem_of_mem_drop hb
  · exact hb
theorem low_take (l : List UInt8) (k : Nat) (c : UInt8) (hc : l[k]? = some c) : lowL (l.take (k + 1)) = (lowL (l.take k) && decide (97 ≤ c.toNat ∧ c.toNat ≤ 122)) := by
  obtain ⟨hk, rfl⟩ := List.getElem?_eq_some_iff.1 hc
  unfold lowL
  rw [List.take_succ_eq_append_getElem hk, List.all_append]; simp

def LangPost (key : ByteArray) (w : World) (e : Ending) (w' : World) : Prop := (∃ s b, e = .returned (.tuple #[.string s, .bool b]) ∧ b = (langB key).isSome ∧ ∀ l, langB key = some l → s = l) ∧ Below w.heap.size w w'
set_option maxRecDepth 100000 in
set_option maxHeartbeats 2000000 in
theorem language_any (key : ByteArray) (hn : nameB key = true) (w : World) :
    Calls Tryz.prog 87 #[.string key] w (LangPost key w) := by
  by_cases hk : key = ⟨#[110, 97, 109, 101]⟩
  · have HL := Lib.hid (show langB key = some ⟨#[]⟩ by unfold langB; rw [if_pos hk])
    have e1 : (key.toList == (⟨#[110, 97, 109, 101]⟩ : ByteArray).toList) = true := str_eq_true hk
    have e2 := e1
    rw [show (⟨#[110, 97, 109, 101]⟩ : ByteArray).toList = [110, 97, 109, 101] by rw [ByteArray.toList_eq]] at e1
    clear hk hn
    go_enter Tryz.func87, Tryz.ntmps87
    go_wp2
    go_ret2
    exact ⟨⟨_, _, rfl, by rw [HL.out]; rfl, fun l h => by rw [HL.out] at h; injection h⟩, Below.refl _ _⟩
  · have HA := Lib.hid (fun b hb => name_ascii key hn b (rest_sub key b hb))
    have HL := Lib.hid (show langB key = if Lib.hasPrefix key.data.toList [110, 97, 109, 101, 95] && lowL (restB key).data.toList && decide (0 < (restB key).size) && decide ((restB key).size ≤ 8) then some (restB key) else none by unfold langB; rw [if_neg hk])
    have e1 : (key.toList == (⟨#[110, 97, 109, 101]⟩ : ByteArray).toList) = false := str_eq_false hk
    have e2 := e1
    rw [show (⟨#[110, 97, 109, 101]⟩ : ByteArray).toList = [110, 97, 109, 101] by rw [ByteArray.toList_eq]] at e1
    have CP := Lib.hid (show ∀ w, Calls Tryz.prog 110 #[.string key, .string ⟨#[110, 97, 109, 101, 95]⟩] w fun e w' => e = .returned (.tuple #[.string (restB key), .bool (Lib.hasPrefix key.data.toList [110, 97, 109, 101, 95])]) ∧ w' = w from fun w => Tryz.strings_CutPrefix key ⟨#[110, 97, 109, 101, 95]⟩ w)
    clear hk hn
    generalize restB key = r at HA HL CP
    generalize Lib.hasPrefix key.data.toList [110, 97, 109, 101, 95] = b0 at HL CP
    go_enter Tryz.func87, Tryz.ntmps87
    go_wp2_with fail
    refine (CP.out _).mono ?_
    rintro e w1 ⟨rfl, rfl⟩
    go_wp2
    go_loopw [5] (fun s wr => ∃ (pos : Nat) (b : Bool), s = .bool b ∧ pos ≤ r.size ∧ wr = w1.iter r pos ∧ b = (b0 && lowL (r.data.toList.take pos))) (fun _ wr => r.size - wr.iterPos w1.heap.size)
    case atStart => exact ⟨0, b0, rfl, by omega, rfl, by simp [lowL]⟩
    case round =>
      obtain ⟨pos, b, rfl, hpos, rfl, hb⟩ := hrel
      by_cases hp : pos < r.size
      · have hmem : r[pos]'hp ∈ r.data.toList := by
          have : r[pos]'hp = r.data[pos]'hp := rfl
          rw [this]; simp
        have ha := HA.out _ hmem
        have hnx : ∀ ty, (Instr.next (.pointer (some ⟨w1.heap.size, 0, none⟩)) true ty).run Tryz.prog (w1.iter r pos) = _ := fun ty => run_next_ascii w1 r pos ty hp ha
        have hget : r.data.toList[pos]? = some (r[pos]'hp) := by
          rw [List.getElem?_eq_getElem (by simpa using hp)]; rfl
        have HB := Lib.hid (show (b0 && lowL (r.data.toList.take (pos + 1))) = (b && decide (97 ≤ (r[pos]'hp).toNat ∧ (r[pos]'hp).toNat ≤ 122)) by rw [low_take _ _ _ hget, ← Bool.and_assoc, ← hb])
        clear hmem hget hb
        generalize hc : (r[pos]'hp).toNat = c at hnx HB ha
        clear hc
        cases b
        · go_wp2
          go_roundw
          case rel => exact ⟨pos + 1, false, rfl, by omega, rfl, by rw [HB.out]; rfl⟩
          case measure => simp; omega
        · by_cases h1 : 97 ≤ c
          · have h1z : (97 : Int) ≤ (c : Int) := by omega
            by_cases h2 : c ≤ 122
            · have h2z : (c : Int) ≤ 122 := by omega
              go_wp2
              go_roundw
              case rel => exact ⟨pos + 1, true, rfl, by omega, rfl, by rw [HB.out]; simp [h1, h2]⟩
              case measure => simp; omega
            · have h2z : ¬ (c : Int) ≤ 122 := by omega
              go_wp2
              go_roundw
              case rel => exact ⟨pos + 1, false, rfl, by omega, rfl, by rw [HB.out]; simp [h2]⟩
              case measure => simp; omega
          · have h1z : ¬ (97 : Int) ≤ (c : Int) := by omega
            go_wp2
            go_roundw
            case rel => exact ⟨pos + 1, false, rfl, by omega, rfl, by rw [HB.out]; simp [h1]⟩
            case measure => simp; omega
      · have hnx : ∀ ty, (Instr.next (.pointer (some ⟨w1.heap.size, 0, none⟩)) true ty).run Tryz.prog (w1.iter r pos) = _ := fun ty => run_next_end w1 r pos ty hp
        have hlen : r.data.toList.length = r.size := by rw [Array.length_toList]; rfl
        have hfull : r.data.toList.take pos = r.data.toList := List.take_of_length_le (by omega)
        rw [hfull] at hb
        have BE : Below w1.heap.size w1 (w1.iter r pos) := (Below.refl _ _).alloc (Nat.le_refl _) _
        have HR := Lib.hid (show langB key = if b && decide (0 < r.size) && decide (r.size ≤ 8) then some r else none by rw [HL.out, ← hb])
        clear hb hfull
        cases b
        · go_wp2
          go_ret2
          exact ⟨⟨_, _, rfl, by rw [HR.out]; rfl, fun l h => by rw [HR.out] at h; cases h⟩, BE⟩
        · by_cases h1 : 0 < r.size
          · have h1z : (0 : Int) < (r.size : Int) := by omega
            by_cases h2 : r.size ≤ 8
            · have h2z : (r.size : Int) ≤ 8 := by omega
              have HR2 := Lib.hid (show langB key = some r by rw [HR.out]; simp [h1, h2])
              go_wp2
              go_ret2
              exact ⟨⟨_, _, rfl, by rw [HR2.out]; simp, fun l h => by rw [HR2.out] at h; injection h⟩, BE⟩
            · have h2z : ¬ (r.size : Int) ≤ 8 := by omega
              have HR2 := Lib.hid (show langB key = none by rw [HR.out]; simp [h2])
              go_wp2
              go_ret2
              exact ⟨⟨_, _, rfl, by rw [HR2.out]; simp, fun l h => by rw [HR2.out] at h; cases h⟩, BE⟩
          · have h1z : ¬ (0 : Int) < (r.size : Int) := by omega
            have HR2 := Lib.hid (show langB key = none by rw [HR.out]; simp [h1])
            go_wp2
            go_ret2
            exact ⟨⟨_, _, rfl, by rw [HR2.out]; simp, fun l h => by rw [HR2.out] at h; cases h⟩, BE⟩
end Go.Proofs.YtapllmniplgajaaGreatDoor
