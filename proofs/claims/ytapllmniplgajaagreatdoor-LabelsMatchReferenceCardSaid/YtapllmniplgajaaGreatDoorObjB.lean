/- Contracts of package lexer: Name. -/
import Derived.Test.YtapllmniplgajaaGreatDoorObjA
namespace Go.Proofs.YtapllmniplgajaaGreatDoor
open Go.RowKit

theorem clsF_cases (n : Nat) (h : n < 256) : (97 ≤ n ∧ n ≤ 122 ∨ 65 ≤ n ∧ n ≤ 90 → clsF n = 3) ∧ (48 ≤ n ∧ n ≤ 57 → clsF n = 4) ∧ (n = 95 → clsF n = 5) ∧
    (¬ (97 ≤ n ∧ n ≤ 122 ∨ 65 ≤ n ∧ n ≤ 90) → ¬ (48 ≤ n ∧ n ≤ 57) → n ≠ 95 → clsF n ≠ 3 ∧ clsF n ≠ 4 ∧ clsF n ≠ 5) := by
  simp only [clsF, putF, cutF, if_pos h]
  refine ⟨fun h1 => ?_, fun h1 => ?_, fun h1 => ?_, fun h1 h2 h3 => ?_⟩
  · rw [if_neg (by omega), if_neg (by omega), if_neg (by omega), cls0, if_pos h1]
  · rw [if_neg (by omega), if_neg (by omega), if_neg (by omega), cls0, if_neg (by omega), if_pos h1]
  · rw [if_neg (by omega), if_pos h1]
  · rw [if_neg h3, cls0, if_neg h1, if_neg h2]
    split
    · omega
    · split
      · omega
      · split
        · omega
        · split <;> omega

theorem take_snoc (s : ByteArray) (k : Nat) (h : k < s.size) : s.data.toList.take (k + 1) = s.data.toList.take k ++ [s[k]] := by
  rw [List.take_succ_eq_append_getElem (by simpa using h)]; rfl

theorem str_nil {s : ByteArray} (h : s.size = 0) : s.toList = [] := by
  rw [ByteArray.toList_eq]
  exact List.eq_nil_of_length_eq_zero (by rw [Array.length_toList]; exact h)
theorem str_not_empty {s : ByteArray} (h : 0 < s.size) : s.toList.isEmpty = false := by
  rw [ByteArray.toList_eq, List.isEmpty_eq_false_iff]
  intro e
  have := congrArg List.length e
  rw [Array.length_toList] at this
  have h2 : s.data.size = s.size := rfl
  simp only [List.length_nil] at this
  omega
theorem str_ne_nil {s : ByteArray} (h : 0 < s.size) : (s.toList == []) = false := by
  rw [beq_eq_false_iff_ne]
  intro e
  have := str_not_empty h
  rw [e] at this
  simp at this

set_option maxRecDepth 100000 in
set_option maxHeartbeats 1000000 in
theorem name_any (s : ByteArray) (hs : s.size ≤ 140737488355328) (w : World) :
    Calls Tryz.prog 81 #[.string s] w fun e w' => e = .returned (.bool (nameB s)) ∧ Below w.heap.size w w' := by
  go_enter Tryz.func81, Tryz.ntmps81
  go_wp2_with fail
  refine (classes_tab _).mono ?_; rintro e w1 ⟨rfl, hb1⟩
  have HS := Lib.hid (show (Tryz.prog.info? 132).map (·.size) = some (tabU clsF).size by rw [tabU_size]; kernel_rfl)
  have H2 := Lib.hid (show Tryz.zeroCells132.size = (tabU clsF).size by rw [← tabU_zero, tabU_size, tabU_size])
  go_wp2_with (refine wpList_store_row rfl 132 (.tmp 3) (.tmp 6) rfl w1.heap.size (tabU clsF) rfl rfl 132 Tryz.zeroCells132 (heap_alloc_new w1 _) HS.out H2.out (tabU_one _) ?_)
  have HB := Lib.hid (setRow_heap _ w1.heap.size Tryz.zeroCells132 (tabU clsF) 132 (0, 0) (heap_alloc_new w1 (.cells Tryz.zeroCells132 132)))
  have B2 : Below w.heap.size w ((w1.alloc (.cells Tryz.zeroCells132 132)).setRow w1.heap.size (tabU clsF)) := below_setRow' (hb1.alloc hb1.size _) hb1.size _
  generalize hw2 : (w1.alloc (.cells Tryz.zeroCells132 132)).setRow w1.heap.size (tabU clsF) = w2
  rw [hw2] at HB B2
  clear hw2 HS H2 hb1
  have bz := lt_of_block HB.out
  go_loop [9] (fun i => ∃ k : Nat, k ≤ s.size ∧ i = .int .i64 k ∧ preOK (s.data.toList.take k) = true) (fun i => s.size - (intOf i).toNat)
  case atStart => exact ⟨0, by omega, rfl, rfl⟩
  case round =>
    obtain ⟨k, hk, rfl, hpre⟩ := hrel
    have HP := Lib.hid hpre
    clear hpre
    by_cases hlt : k < s.size
    · have hu := UInt8.toNat_lt s[k]
      have CL := clsF_cases s[k].toNat hu
      have HT := Lib.hid (take_snoc s k hlt)
      have HL := Lib.hid (show (s.data.toList.take k).length = k by rw [List.length_take]; simp; omega)
      have c0 : w2.cell? ⟨w1.heap.size, s[k].toNat, none⟩ = some (.int .u8 (clsF s[k].toNat)) := (cell_of_row w2 _ s[k].toNat _ _ _ HB.out).trans (tabU_get _ _ hu)
      have hts := tabU_size clsF
      have HN := Lib.hid (show preOK (s.data.toList.take (k + 1)) = if k = 0 then letterC s[k] else wordC s[k] by rw [HT.out, preOK_snoc, HL.out, HP.out]; simp)
      by_cases hl : 97 ≤ s[k].toNat ∧ s[k].toNat ≤ 122 ∨ 65 ≤ s[k].toNat ∧ s[k].toNat ≤ 90
      · rw [CL.1 hl] at c0
        have HG := Lib.hid (show preOK (s.data.toList.take (k + 1)) = true by
          have h1 : letterC s[k] = true := by rw [letterC, decide_eq_true_eq]; exact hl
          rw [HN.out, wordC, h1]; simp)
        clear CL hl
        go_wp2
        go_round
        case rel => exact ⟨k + 1, by omega, by go_num, HG.out⟩
        case measure => simp [intOf]; omega
      have h1 : letterC s[k] = false := by rw [letterC, decide_eq_false_iff_not]; exact hl
      by_cases h0 : k = 0
      · have HF := Lib.hid (show preOK (s.data.toList.take (k + 1)) = false by rw [HN.out, if_pos h0, h1])
        have h3 : (clsF s[k].toNat != 3) = true := by
          rw [bne_iff_ne]
          by_cases hd : 48 ≤ s[k].toNat ∧ s[k].toNat ≤ 57
          · rw [CL.2.1 hd]; decide
          · by_cases hu : s[k].toNat = 95
            · rw [CL.2.2.1 hu]; decide
            · exact (CL.2.2.2 hl hd hu).1
        have h3' : ¬ clsF s[k].toNat = 3 := by rw [bne_iff_ne] at h3; exact h3
        generalize clsF s[k].toNat = cv at *
        have k0 : ((k : Int) == 0) = true := by rw [beq_iff_eq]; omega
        clear CL hl h1 h0
        have HB2 := Lib.hid (show nameB s = false by
          have h2 := preOK_app (s.data.toList.drop (k + 1)) HF.out
          rw [List.take_append_drop] at h2
          rw [nameB, nameL, h2]; simp)
        go_wp2
        go_ret
        exact ⟨ret_bool HB2.out.symm, B2⟩
      have k0 : ((k : Int) == 0) = false := by rw [beq_eq_false_iff_ne]; omega
      by_cases hd : 48 ≤ s[k].toNat ∧ s[k].toNat ≤ 57
      · rw [CL.2.1 hd] at c0
        have HG := Lib.hid (show preOK (s.data.toList.take (k + 1)) = true by
          have h2 : digitC s[k] = true := by rw [digitC, decide_eq_true_eq]; exact hd
          rw [HN.out, if_neg h0, wordC, h2]; simp)
        clear CL hl h1 h0 hd
        go_wp2
        go_round
        case rel => exact ⟨k + 1, by omega, by go_num, HG.out⟩
        case measure => simp [intOf]; omega
      by_cases hu5 : s[k].toNat = 95
      · rw [CL.2.2.1 hu5] at c0
        have HG := Lib.hid (show preOK (s.data.toList.take (k + 1)) = true by
          rw [HN.out, if_neg h0, wordC, hu5]; simp)
        clear CL hl h1 h0 hd hu5
        go_wp2
        go_round
        case rel => exact ⟨k + 1, by omega, by go_num, HG.out⟩
        case measure => simp [intOf]; omega
      have HF := Lib.hid (show preOK (s.data.toList.take (k + 1)) = false by
        have h2 : digitC s[k] = false := by rw [digitC, decide_eq_false_iff_not]; exact hd
        rw [HN.out, if_neg h0, wordC, h1, h2]; simp [hu5])
      obtain ⟨n3, n4, n5⟩ := CL.2.2.2 hl hd hu5
      have h3 : (clsF s[k].toNat != 3) = true := by rw [bne_iff_ne]; exact n3
      have h4 : (clsF s[k].toNat != 4) = true := by rw [bne_iff_ne]; exact n4
      have h5 : (clsF s[k].toNat != 5) = true := by rw [bne_iff_ne]; exact n5
      generalize clsF s[k].toNat = cv at *
      clear CL hl h1 h0 hd hu5
      have HB2 := Lib.hid (show nameB s = false by
        have h2 := preOK_app (s.data.toList.drop (k + 1)) HF.out
        rw [List.take_append_drop] at h2
        rw [nameB, nameL, h2]; simp)
      go_wp2
      go_ret
      exact ⟨ret_bool HB2.out.symm, B2⟩
    · obtain rfl : k = s.size := by omega
      have hall : s.data.toList.take s.size = s.data.toList := List.take_of_length_le (by simp)
      have HE := Lib.hid (show nameB s = (decide (0 < s.size) && decide (s.size ≤ 24)) by
        have h := HP.out
        rw [hall] at h
        rw [nameB, nameL, h]; simp)
      clear hall
      by_cases z : 0 < s.size
      · have e0 : (s.toList == []) = false := str_ne_nil z
        have e1 : s.toList.isEmpty = false := str_not_empty z
        by_cases z2 : s.size ≤ 24
        · go_wp2
          go_ret
          exact ⟨ret_bool (by rw [HE.out]; simp [z]; omega), B2⟩
        · go_wp2
          go_ret
          exact ⟨ret_bool (by rw [HE.out]; simp [z]; omega), B2⟩
      · have e0 : s.toList = [] := str_nil (by omega)
        have e1 : s.toList.isEmpty = true := by rw [e0]; rfl
        go_wp2
        go_ret
        exact ⟨ret_bool (by rw [HE.out]; simp [z]), B2⟩
end Go.Proofs.YtapllmniplgajaaGreatDoor
