/- Contracts of the references of layers 8 and 11: letter, digit, word, Name; word, least, on, On. -/
import Derived.Test.YtapllmniplgajaaGreatDoorObjB
namespace Go.Proofs.YtapllmniplgajaaGreatDoor
open Go.RowKit

set_option maxHeartbeats 400000 in
theorem rletter_any (c : UInt8) (w : World) :
    Calls Tryz.prog 127 #[.int .u8 c.toNat] w fun e w' => e = .returned (.bool (letterC c)) ∧ w = w' := by
  have hu := UInt8.toNat_lt c
  go_enter Tryz.func127, Tryz.ntmps127
  by_cases h1 : 97 ≤ c.toNat
  · by_cases h2 : c.toNat ≤ 122
    · go_wp2
      go_ret
      exact ⟨ret_bool (by rw [letterC, Bool.eq_iff_iff]; first | (simp; done) | (simp; omega)), rfl⟩
    · go_wp2
      go_ret
      exact ⟨ret_bool (by rw [letterC, Bool.eq_iff_iff]; first | (simp; done) | (simp; omega)), rfl⟩
  · by_cases h2 : 65 ≤ c.toNat
    · by_cases h3 : c.toNat ≤ 90
      · go_wp2
        go_ret
        exact ⟨ret_bool (by rw [letterC, Bool.eq_iff_iff]; first | (simp; done) | (simp; omega)), rfl⟩
      · go_wp2
        go_ret
        exact ⟨ret_bool (by rw [letterC, Bool.eq_iff_iff]; first | (simp; done) | (simp; omega)), rfl⟩
    · go_wp2
      go_ret
      exact ⟨ret_bool (by rw [letterC, Bool.eq_iff_iff]; first | (simp; done) | (simp; omega)), rfl⟩

theorem rdigit_any (c : UInt8) (w : World) :
    Calls Tryz.prog 142 #[.int .u8 c.toNat] w fun e w' => e = .returned (.bool (digitC c)) ∧ w = w' := by
  have hu := UInt8.toNat_lt c
  go_enter Tryz.func142, Tryz.ntmps142
  by_cases h1 : 48 ≤ c.toNat
  · by_cases h2 : c.toNat ≤ 57
    · go_wp2
      go_ret
      exact ⟨ret_bool (by rw [digitC, Bool.eq_iff_iff]; first | (simp; done) | (simp; omega)), rfl⟩
    · go_wp2
      go_ret
      exact ⟨ret_bool (by rw [digitC, Bool.eq_iff_iff]; first | (simp; done) | (simp; omega)), rfl⟩
  · go_wp2
    go_ret
    exact ⟨ret_bool (by rw [digitC, Bool.eq_iff_iff]; first | (simp; done) | (simp; omega)), rfl⟩

set_option maxHeartbeats 400000 in
theorem rword_any (c : UInt8) (w : World) :
    Calls Tryz.prog 126 #[.int .u8 c.toNat] w fun e w' => e = .returned (.bool (wordC c)) ∧ w = w' := by
  have hu := UInt8.toNat_lt c
  go_enter Tryz.func126, Tryz.ntmps126
  go_wp2_with fail
  refine (rletter_any _ _).mono ?_; rintro e w' ⟨rfl, rfl⟩
  cases h1 : letterC c
  · go_wp2_with fail
    refine (rdigit_any _ _).mono ?_; rintro e w' ⟨rfl, rfl⟩
    cases h2 : digitC c
    · by_cases h3 : c.toNat = 95
      · have h3' : ((c.toNat : Int) == 95) = true := by rw [beq_iff_eq]; omega
        clear h1 h2
        go_wp2
        go_ret
        exact ⟨ret_bool (by rw [wordC, h3]; simp), rfl⟩
      · have h3' : ((c.toNat : Int) == 95) = false := by rw [beq_eq_false_iff_ne]; omega
        have H1 := Lib.hid h1
        have H2 := Lib.hid h2
        clear h1 h2
        go_wp2
        go_ret
        exact ⟨ret_bool (by rw [wordC, H1.out, H2.out]; simp [h3]), rfl⟩
    · have H2 := Lib.hid h2
      clear h1 h2
      go_wp2
      go_ret
      exact ⟨ret_bool (by rw [wordC, H2.out]; simp), rfl⟩
  · have H1 := Lib.hid h1
    clear h1
    go_wp2
    go_ret
    exact ⟨ret_bool (by rw [wordC, H1.out]; simp), rfl⟩

theorem letter_word {c : UInt8} (h : letterC c = true) : wordC c = true := by rw [wordC, h]; rfl
theorem nameL_eq (l : List UInt8) : nameL l = (decide (0 < l.length) && decide (l.length ≤ 24) && l.all wordC && (match l with | [] => false | c :: _ => letterC c)) := by
  cases l with
  | nil => simp [nameL]
  | cons c r =>
    simp only [nameL, preOK, List.all_cons]
    cases h : letterC c
    · simp
    · rw [letter_word h]; simp

set_option maxHeartbeats 1000000 in
theorem rname_any (s : ByteArray) (hs : s.size ≤ 140737488355328) (w : World) :
    Calls Tryz.prog 102 #[.string s] w fun e w' => e = .returned (.bool (nameB s)) ∧ w = w' := by
  go_enter Tryz.func102, Tryz.ntmps102
  go_wp2
  go_loop [3] (fun i => ∃ k : Nat, k ≤ s.size ∧ i = .int .i64 k ∧ (s.data.toList.take k).all wordC = true) (fun i => s.size - (intOf i).toNat)
  case atStart => exact ⟨0, by omega, rfl, rfl⟩
  case round =>
    obtain ⟨k, hk, rfl, hpre⟩ := hrel
    have HP := Lib.hid hpre
    clear hpre
    by_cases hlt : k < s.size
    · have HT := Lib.hid (take_snoc s k hlt)
      go_wp2_with fail
      refine (rword_any _ _).mono ?_; rintro e w' ⟨rfl, rfl⟩
      cases hw : wordC s[k]
      · have HB2 := Lib.hid (show nameB s = false by
          have h1 : (s.data.toList.take (k + 1)).all wordC = false := by rw [HT.out, List.all_append]; simp [hw]
          have h2 : s.data.toList.all wordC = false := by
            rw [← List.take_append_drop (k + 1) s.data.toList, List.all_append, h1]; rfl
          rw [nameB, nameL_eq, h2]; simp)
        clear hw
        go_wp2
        go_ret
        exact ⟨ret_bool HB2.out.symm, rfl⟩
      · have HG := Lib.hid (show (s.data.toList.take (k + 1)).all wordC = true by rw [HT.out, List.all_append, HP.out]; simp [hw])
        clear hw
        go_wp2
        go_round
        case rel => exact ⟨k + 1, by omega, by go_num, HG.out⟩
        case measure => simp [intOf]; omega
    · obtain rfl : k = s.size := by omega
      have hall : s.data.toList.take s.size = s.data.toList := List.take_of_length_le (by simp)
      have HA := HP.out
      rw [hall] at HA
      by_cases z : 0 < s.size
      · have HH := Lib.hid (show nameB s = (decide (s.size ≤ 24) && letterC s[0]) by
          rw [nameB, nameL_eq, HA]
          have hl : s.data.toList.length = s.size := by simp
          cases hd : s.data.toList with
          | nil => rw [hd] at hl; simp at hl; omega
          | cons c r =>
            have hc : s[0] = c := by
              have : s.data.toList[0]? = some c := by rw [hd]; rfl
              have h2 : s.data.toList[0]? = some s[0] := by
                rw [List.getElem?_eq_getElem (by omega)]; rfl
              rw [h2] at this
              exact Option.some.inj this
            rw [hd] at hl
            simp only [hl, hc]
            simp [z])
        clear HP hall HA
        have z' : (0 : Int) < s.size := by omega
        by_cases z2 : s.size ≤ 24
        · go_wp2_with fail
          refine (rletter_any _ _).mono ?_; rintro e w' ⟨rfl, rfl⟩
          go_wp2
          go_ret
          exact ⟨ret_bool (by rw [HH.out]; simp [z2]), rfl⟩
        · go_wp2
          go_ret
          exact ⟨ret_bool (by rw [HH.out]; simp [z2]), rfl⟩
      · have HH := Lib.hid (show nameB s = false by rw [nameB, nameL]; simp [z])
        clear HP hall HA
        go_wp2
        go_ret
        exact ⟨ret_bool HH.out.symm, rfl⟩
end Go.Proofs.YtapllmniplgajaaGreatDoor
