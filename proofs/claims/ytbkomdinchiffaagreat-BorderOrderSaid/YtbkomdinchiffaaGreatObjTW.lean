/- Contracts on tags: tag.Valid and the reference's Tags. Contracts of package object: word, least, on; of the reference of layer 11: Word, On. -/
import Derived.Test.YtbkomdinchiffaaGreatObjPABC
namespace Go.Proofs.YtbkomdinchiffaaGreat
open Go.RowKit

/-- A slice value that reads as a list of texts. -/
def StrRow (w : World) (v : Value) (l : List ByteArray) : Prop :=
  ∃ (a : Option Addr) (cap : Nat), v = .slice a l.length cap ∧ l.length ≤ 140737488355328 ∧ (∀ s ∈ l, s.size ≤ 140737488355328) ∧
    (0 < l.length → ∃ b off, a = some ⟨b, off, none⟩ ∧ ∀ (i : Nat) (s : ByteArray), l[i]? = some s → w.cell? ⟨b, off + i, none⟩ = some (.string s))
theorem StrRow.later {w w' : World} {v : Value} {l : List ByteArray} (h : StrRow w v l) (hb : Below w.heap.size w w') : StrRow w' v l := by
  obtain ⟨a, cap, h1, h2, h3, h4⟩ := h
  refine ⟨a, cap, h1, h2, h3, fun h0 => ?_⟩
  obtain ⟨b, off, e, hc⟩ := h4 h0
  exact ⟨b, off, e, fun i s hi => cell_later hb (hc i s hi)⟩
/-- A slice value that reads as a list of tags. -/
def TagRow (w : World) (v : Value) (l : List TagD) : Prop :=
  ∃ (a : Option Addr) (cap : Nat), v = .slice a l.length cap ∧ l.length ≤ 140737488355328 ∧ (∀ t ∈ l, t.key.size ≤ 140737488355328 ∧ t.val.size ≤ 140737488355328) ∧
    (0 < l.length → ∃ b off, a = some ⟨b, off, none⟩ ∧ ∀ (i : Nat) (t : TagD), l[i]? = some t → w.cell? ⟨b, off + i * 2, none⟩ = some (.string t.key) ∧ w.cell? ⟨b, off + i * 2 + 1, none⟩ = some (.string t.val))
theorem TagRow.later {w w' : World} {v : Value} {l : List TagD} (h : TagRow w v l) (hb : Below w.heap.size w w') : TagRow w' v l := by
  obtain ⟨a, cap, h1, h2, h3, h4⟩ := h
  refine ⟨a, cap, h1, h2, h3, fun h0 => ?_⟩
  obtain ⟨b, off, e, hc⟩ := h4 h0
  exact ⟨b, off, e, fun i s hi => ⟨cell_later hb (hc i s hi).1, cell_later hb (hc i s hi).2⟩⟩
theorem lt_of_cell {w : World} {b o : Nat} {v : Value} (h : w.cell? ⟨b, o, none⟩ = some v) : b < w.heap.size := by
  rcases Nat.lt_or_ge b w.heap.size with h' | h'
  · exact h'
  · simp [World.cell?, Array.getElem?_eq_none h'] at h

theorem tagsFrom_drop (ls : ByteArray) (l : List TagD) (k : Nat) (t : TagD) (ht : l[k]? = some t) : tagsFrom ls (l.drop k) = (nameB t.key && ltB ls t.key && decide (0 < t.val.size ∧ t.val.size ≤ 200) && tagsFrom t.key (l.drop (k + 1))) := by
  obtain ⟨hk, rfl⟩ := List.getElem?_eq_some_iff.1 ht
  rw [List.drop_eq_getElem_cons hk]; rfl


set_option maxRecDepth 100000 in
set_option maxHeartbeats 1000000 in
theorem tags_any (v : Value) (l : List TagD) (w : World) (h : TagRow w v l) :
    Calls Tryz.prog 82 #[v] w fun e w' => e = .returned (.bool (tagsOK l)) ∧ Below w.heap.size w w' := by
  obtain ⟨a, cap, rfl, hn, hsz, hc⟩ := h
  generalize hN : l.length = N at *
  have HN := Lib.hid hN
  have HZ := Lib.hid hsz
  have HC := Lib.hid hc
  clear hN hsz hc
  go_enter Tryz.func82, Tryz.ntmps82
  go_wp2
  go_loopw [3, 8] (fun s i wr => ∃ (k : Nat) (ls : ByteArray), k ≤ N ∧ i = .int .i64 k ∧ s = .string ls ∧ tagsFrom ⟨#[]⟩ l = tagsFrom ls (l.drop k) ∧ Below w.heap.size w wr) (fun _ i _ => N - (intOf i).toNat)
  case atStart => exact ⟨0, ⟨#[]⟩, by omega, rfl, rfl, rfl, Below.refl _ _⟩
  case round =>
    obtain ⟨k, ls, hk, rfl, rfl, hT, hbr⟩ := hrel
    have HT := Lib.hid hT
    clear hT
    by_cases hlt : k < N
    · obtain ⟨t, ht⟩ : ∃ t, l[k]? = some t := ⟨l[k]'(by rw [HN.out]; exact hlt), List.getElem?_eq_getElem _⟩
      obtain ⟨b, off, ha, hcell⟩ := HC.out (by omega)
      subst ha
      have hz := HZ.out t (List.mem_of_getElem? ht)
      obtain ⟨z1, z2⟩ := hz
      have c0 := cell_later hbr (hcell k t ht).1
      have c1 := cell_later hbr (hcell k t ht).2
      have bz := lt_of_cell c0
      have HD := Lib.hid (tagsFrom_drop ls l k t ht)
      clear hcell ht
      go_wp2_with fail
      refine (name_any t.key z1 _).mono ?_; rintro e w2 ⟨rfl, hb2⟩
      have B2 := below_step (hbr.alloc hbr.size (.cells #[.string t.key, .string t.val] 73)) (Nat.le_refl _) hb2
      have HB := row_later hb2 (row_new wr (.cells #[.string t.key, .string t.val] 73))
      clear c0 c1
      have cz := lt_of_block HB
      have c0 := cell_of_row w2 _ 0 _ _ _ HB
      have c1 := cell_of_row w2 _ 1 _ _ _ HB
      simp only [List.getElem?_toArray, List.getElem?_cons_zero, List.getElem?_cons_succ] at c0 c1
      have HB' := Lib.hid HB
      clear HB
      clear hb2 HB'
      cases hnm : nameB t.key
      case false =>
        have HR := Lib.hid (show tagsFrom ⟨#[]⟩ l = false by rw [HT.out, HD.out, hnm]; rfl)
        clear hnm
        go_wp2
        go_ret
        exact ⟨ret_bool (by rw [tagsOK, HR.out]; simp), B2⟩
      have LQ := leqB t.key ls
      cases hlt2 : ltB ls t.key
      case false =>
        have HR := Lib.hid (show tagsFrom ⟨#[]⟩ l = false by rw [HT.out, HD.out, hlt2]; simp)
        rw [hlt2] at LQ
        clear hnm hlt2
        go_wp2
        go_ret
        exact ⟨ret_bool (by rw [tagsOK, HR.out]; simp), B2⟩
      rw [hlt2] at LQ
      by_cases v0 : 0 < t.val.size
      case neg =>
        have e0 : t.val.toList = [] := str_nil (by omega)
        have e1 : t.val.toList.isEmpty = true := by rw [e0]; rfl
        have HR := Lib.hid (show tagsFrom ⟨#[]⟩ l = false by rw [HT.out, HD.out]; simp [v0])
        clear hnm hlt2 e0
        go_wp2
        go_ret
        exact ⟨ret_bool (by rw [tagsOK, HR.out]; simp), B2⟩
      have e1 : t.val.toList.isEmpty = false := str_not_empty v0
      have e0 : ¬ t.val.toList = [] := by
        intro e; rw [e] at e1; simp at e1
      by_cases v1 : t.val.size ≤ 200
      case neg =>
        have HR := Lib.hid (show tagsFrom ⟨#[]⟩ l = false by rw [HT.out, HD.out]; simp [v1])
        clear hnm hlt2
        go_wp2
        go_ret
        exact ⟨ret_bool (by rw [tagsOK, HR.out]; simp), B2⟩
      have HG := Lib.hid (show tagsFrom ⟨#[]⟩ l = tagsFrom t.key (l.drop (k + 1)) by rw [HT.out, HD.out, hnm, hlt2]; simp [v0, v1])
      clear hnm hlt2
      go_wp2
      go_roundw
      case rel => exact ⟨k + 1, t.key, by omega, by go_num, rfl, HG.out, B2⟩
      case measure => simp [intOf]; omega
    · obtain rfl : k = N := by omega
      have HE := Lib.hid (show tagsOK l = decide (k ≤ 60) by
        rw [tagsOK, HT.out, HN.out, List.drop_of_length_le (by rw [HN.out]; exact Nat.le_refl _)]
        simp [tagsFrom])
      by_cases h6 : k ≤ 60
      · go_wp2
        go_ret
        exact ⟨ret_bool (by rw [HE.out]; simp; omega), hbr⟩
      · go_wp2
        go_ret
        exact ⟨ret_bool (by rw [HE.out]; simp; omega), hbr⟩

theorem rname_still (s : ByteArray) (hs : s.size ≤ 140737488355328) (w : World) :
    Calls Tryz.prog 124 #[.string s] w fun e w' => e = .returned (.bool (nameB s)) ∧ w' = w :=
  (rname_any s hs w).mono fun _ _ h => ⟨h.1, h.2.symm⟩

def lastK (l : List TagD) : Nat → ByteArray
  | 0 => ⟨#[]⟩
  | m + 1 => ((l[m]?).map (·.key)).getD ⟨#[]⟩
theorem lt_empty {s : ByteArray} (h : nameB s = true) : ltB ⟨#[]⟩ s = true := by
  have h0 : 0 < s.data.toList.length := by
    simp only [nameB, nameL, Bool.and_eq_true, decide_eq_true_eq] at h
    exact h.1.1
  rw [ltB, ByteArray.toList_eq, ByteArray.toList_eq]
  cases hs : s.data.toList with
  | nil => rw [hs] at h0; simp at h0
  | cons c r => simp [Op.bytesLess]

set_option maxRecDepth 100000 in
set_option maxHeartbeats 1000000 in
theorem rtags_any (v : Value) (l : List TagD) (w : World) (h : TagRow w v l) :
    Calls Tryz.prog 126 #[v] w fun e w' => e = .returned (.bool (tagsOK l)) ∧ Below w.heap.size w w' := by
  obtain ⟨a, cap, rfl, hn, hsz, hc⟩ := h
  generalize hN : l.length = N at *
  have HN := Lib.hid hN
  have HZ := Lib.hid hsz
  have HC := Lib.hid hc
  clear hN hsz hc
  by_cases h6 : 60 < N
  · have HE := Lib.hid (show tagsOK l = false by rw [tagsOK, HN.out]; simp; omega)
    go_enter Tryz.func126, Tryz.ntmps126
    go_wp2
    go_ret
    exact ⟨ret_bool HE.out.symm, Below.refl _ _⟩
  have HL := Lib.hid (show decide (N ≤ 60) = true by rw [decide_eq_true_eq]; omega)
  go_enter Tryz.func126, Tryz.ntmps126
  go_wp2
  go_loopw [3] (fun i wr => ∃ k : Nat, k ≤ N ∧ i = .int .i64 k ∧ tagsFrom ⟨#[]⟩ l = tagsFrom (lastK l k) (l.drop k) ∧ Below w.heap.size w wr) (fun i _ => N - (intOf i).toNat)
  case atStart => exact ⟨0, by omega, rfl, rfl, Below.refl _ _⟩
  case round =>
    obtain ⟨k, hk, rfl, hT, hbr⟩ := hrel
    have HT := Lib.hid hT
    clear hT
    by_cases hlt : k < N
    · obtain ⟨t, ht⟩ : ∃ t, l[k]? = some t := ⟨l[k]'(by rw [HN.out]; exact hlt), List.getElem?_eq_getElem _⟩
      obtain ⟨b, off, ha, hcell⟩ := HC.out (by omega)
      subst ha
      obtain ⟨z1, z2⟩ := HZ.out t (List.mem_of_getElem? ht)
      have c0 := cell_later hbr (hcell k t ht).1
      have c1 := cell_later hbr (hcell k t ht).2
      have bz := lt_of_cell c0
      have HD := Lib.hid (tagsFrom_drop (lastK l k) l k t ht)
      have HK := Lib.hid (show lastK l (k + 1) = t.key by simp [lastK, ht])
      have RN := Lib.hid (fun w => rname_still t.key z1 w)
      have HCL := Lib.hid hcell
      clear hcell ht
      cases hnm : nameB t.key
      case false =>
        have HR := Lib.hid (show tagsFrom ⟨#[]⟩ l = false by rw [HT.out, HD.out, hnm]; rfl)
        rw [hnm] at RN
        clear hnm
        go_wp2
        go_quiet ((go_at_call 124; exact Calls.quiet_of_same (RN.out _)))
        go_wp2
        go_ret
        exact ⟨ret_bool (by rw [tagsOK, HR.out]; simp), hbr.drewN'⟩
      rw [hnm] at RN
      by_cases v0 : 0 < t.val.size
      case neg =>
        have HR := Lib.hid (show tagsFrom ⟨#[]⟩ l = false by rw [HT.out, HD.out]; simp [v0])
        have D1 : decide ((t.val.size : Int) < 1) = true := by rw [decide_eq_true_eq]; omega
        clear hnm
        go_wp2
        go_quiet ((go_at_call 124; exact Calls.quiet_of_same (RN.out _)))
        go_wp2
        go_ret
        exact ⟨ret_bool (by rw [tagsOK, HR.out]; simp), hbr.drewN'⟩
      have D1 : decide ((t.val.size : Int) < 1) = false := by rw [decide_eq_false_iff_not]; omega
      by_cases v1 : t.val.size ≤ 200
      case neg =>
        have HR := Lib.hid (show tagsFrom ⟨#[]⟩ l = false by rw [HT.out, HD.out]; simp [v1])
        have D2 : decide ((200 : Int) < t.val.size) = true := by rw [decide_eq_true_eq]; omega
        clear hnm
        go_wp2
        go_quiet ((go_at_call 124; exact Calls.quiet_of_same (RN.out _)))
        go_wp2
        go_ret
        exact ⟨ret_bool (by rw [tagsOK, HR.out]; simp), hbr.drewN'⟩
      have D2 : decide ((200 : Int) < t.val.size) = false := by rw [decide_eq_false_iff_not]; omega
      rcases k with _ | m
      · have HG := Lib.hid (show tagsFrom ⟨#[]⟩ l = tagsFrom (lastK l (0 + 1)) (l.drop (0 + 1)) by
          rw [HT.out, HD.out, hnm, HK.out]
          have : ltB (lastK l 0) t.key = true := lt_empty hnm
          rw [this]; simp [v0, v1])
        clear hnm
        simp only [Nat.zero_mul, Nat.add_zero] at c0 c1
        go_wp2
        go_quiet ((go_at_call 124; exact Calls.quiet_of_same (RN.out _)))
        go_wp2
        go_roundw
        case rel => exact ⟨0 + 1, by omega, by go_num, HG.out, hbr.drewN'⟩
        case measure => simp [intOf]; try omega
      · obtain ⟨p, hp⟩ : ∃ p, l[m]? = some p := ⟨l[m]'(by rw [HN.out]; omega), List.getElem?_eq_getElem _⟩
        have p0 := cell_later hbr (HCL.out m p hp).1
        have HKP := Lib.hid (show lastK l (m + 1) = p.key by simp [lastK, hp])
        have WM : IntKind.i64.wrap (((m + 1 : Nat) : Int) - 1) = (m : Int) := (IntWalk.i64_in _ (by omega)).trans (by omega)
        have WG : decide ((0 : Int) < ((m + 1 : Nat) : Int)) = true := by rw [decide_eq_true_eq]; omega
        clear hp
        cases hlt2 : ltB p.key t.key
        case false =>
          have HR := Lib.hid (show tagsFrom ⟨#[]⟩ l = false by rw [HT.out, HD.out, HKP.out, hlt2]; simp)
          have LQ : Op.bytesLess p.key.toList t.key.toList = false := hlt2
          clear hnm hlt2
          go_wp2
          go_quiet ((go_at_call 124; exact Calls.quiet_of_same (RN.out _)))
          go_wp2
          go_ret
          exact ⟨ret_bool (by rw [tagsOK, HR.out]; simp), hbr.drewN'⟩
        have LQ : Op.bytesLess p.key.toList t.key.toList = true := hlt2
        have HG := Lib.hid (show tagsFrom ⟨#[]⟩ l = tagsFrom (lastK l (m + 1 + 1)) (l.drop (m + 1 + 1)) by
          rw [HT.out, HD.out, hnm, HK.out, HKP.out, hlt2]; simp [v0, v1])
        clear hnm hlt2
        go_wp2
        go_quiet ((go_at_call 124; exact Calls.quiet_of_same (RN.out _)))
        go_wp2
        go_roundw
        case rel => exact ⟨m + 1 + 1, by omega, by go_num, HG.out, hbr.drewN'⟩
        case measure => simp [intOf]; try omega
    · obtain rfl : k = N := by omega
      have HE := Lib.hid (show tagsOK l = true by
        rw [tagsOK, HT.out, HN.out, HL.out, List.drop_of_length_le (by rw [HN.out]; exact Nat.le_refl _)]
        simp [tagsFrom])
      go_wp2
      go_ret
      exact ⟨ret_bool HE.out.symm, hbr⟩
end Go.Proofs.YtbkomdinchiffaaGreat

namespace Go.Proofs.YtbkomdinchiffaaGreat
open Go.RowKit

/-- The word of a kind. -/
def wordK (k : Int) : ByteArray :=
  if k = 1 then ⟨#[110, 111, 100, 101]⟩ else if k = 2 then ⟨#[119, 97, 121]⟩ else if k = 3 then ⟨#[97, 114, 101, 97]⟩ else if k = 4 then ⟨#[114, 111, 117, 116, 101]⟩ else if k = 5 then ⟨#[116, 117, 114, 110]⟩ else ⟨#[]⟩
def leastK (k : Int) : Int := if k = 1 then 0 else if k = 2 then 2 else if k = 3 then 3 else if k = 4 then 1 else 3
def onB (x y : Int) : Bool := decide (0 ≤ x ∧ x < 1048576 ∧ 0 ≤ y ∧ y < 1048576)

set_option maxHeartbeats 1000000 in
theorem word_any (k : Int) (w : World) :
    Calls Tryz.prog 80 #[.int .i64 k] w fun e w' => e = .returned (.string (wordK k)) ∧ Below w.heap.size w w' := by
  by_cases h0 : k < 0
  · have e : wordK k = ⟨#[]⟩ := by simp only [wordK]; rw [if_neg (by omega), if_neg (by omega), if_neg (by omega), if_neg (by omega), if_neg (by omega)]
    rw [e]
    go_enter Tryz.func80, Tryz.ntmps80
    go_wp2
    go_ret
    refine ⟨rfl, ?_⟩
    repeat' (first | exact Below.refl _ _ | refine Below.drew ?_ | refine Below.drewN' ?_ | refine Below.setCell ?_ (by first | omega | (simp; done) | exact Below.size (by assumption) | (simp; omega)) _ | refine Below.alloc ?_ (by first | omega | (simp; done) | exact Below.size (by assumption) | (simp; omega)) _ | refine Below.trans ?_ (Below.mono (by assumption) ?_) | (first | omega | (simp; done) | exact Below.size (by assumption) | (simp; omega)))
  by_cases h5 : 5 < k
  · have e : wordK k = ⟨#[]⟩ := by simp only [wordK]; rw [if_neg (by omega), if_neg (by omega), if_neg (by omega), if_neg (by omega), if_neg (by omega)]
    rw [e]
    go_enter Tryz.func80, Tryz.ntmps80
    go_wp2
    go_ret
    refine ⟨rfl, ?_⟩
    repeat' (first | exact Below.refl _ _ | refine Below.drew ?_ | refine Below.drewN' ?_ | refine Below.setCell ?_ (by first | omega | (simp; done) | exact Below.size (by assumption) | (simp; omega)) _ | refine Below.alloc ?_ (by first | omega | (simp; done) | exact Below.size (by assumption) | (simp; omega)) _ | refine Below.trans ?_ (Below.mono (by assumption) ?_) | (first | omega | (simp; done) | exact Below.size (by assumption) | (simp; omega)))
  obtain rfl | rfl | rfl | rfl | rfl | rfl : k = 0 ∨ k = 1 ∨ k = 2 ∨ k = 3 ∨ k = 4 ∨ k = 5 := by omega
  all_goals
    go_enter Tryz.func80, Tryz.ntmps80
    go_wp2
    go_ret
    refine ⟨rfl, ?_⟩
    repeat' (first | exact Below.refl _ _ | refine Below.drew ?_ | refine Below.drewN' ?_ | refine Below.setCell ?_ (by first | omega | (simp; done) | exact Below.size (by assumption) | (simp; omega)) _ | refine Below.alloc ?_ (by first | omega | (simp; done) | exact Below.size (by assumption) | (simp; omega)) _ | refine Below.trans ?_ (Below.mono (by assumption) ?_) | (first | omega | (simp; done) | exact Below.size (by assumption) | (simp; omega)))

set_option maxHeartbeats 1000000 in
theorem least_any (k : Int) (h0 : 1 ≤ k) (h5 : k ≤ 5) (w : World) :
    Calls Tryz.prog 83 #[.int .i64 k] w fun e w' => e = .returned (.int .i64 (leastK k)) ∧ w = w' := by
  have i1 : ∀ w, (Instr.index 178 (.agg #[.int .i64 0, .int .i64 0, .int .i64 2, .int .i64 3, .int .i64 1, .int .i64 3]) (.int .i64 1)).run Tryz.prog w = .ok (.int .i64 0) w := fun _ => by kernel_rfl
  have i2 : ∀ w, (Instr.index 178 (.agg #[.int .i64 0, .int .i64 0, .int .i64 2, .int .i64 3, .int .i64 1, .int .i64 3]) (.int .i64 2)).run Tryz.prog w = .ok (.int .i64 2) w := fun _ => by kernel_rfl
  have i3 : ∀ w, (Instr.index 178 (.agg #[.int .i64 0, .int .i64 0, .int .i64 2, .int .i64 3, .int .i64 1, .int .i64 3]) (.int .i64 3)).run Tryz.prog w = .ok (.int .i64 3) w := fun _ => by kernel_rfl
  have i4 : ∀ w, (Instr.index 178 (.agg #[.int .i64 0, .int .i64 0, .int .i64 2, .int .i64 3, .int .i64 1, .int .i64 3]) (.int .i64 4)).run Tryz.prog w = .ok (.int .i64 1) w := fun _ => by kernel_rfl
  have i5 : ∀ w, (Instr.index 178 (.agg #[.int .i64 0, .int .i64 0, .int .i64 2, .int .i64 3, .int .i64 1, .int .i64 3]) (.int .i64 5)).run Tryz.prog w = .ok (.int .i64 3) w := fun _ => by kernel_rfl
  obtain rfl | rfl | rfl | rfl | rfl : k = 1 ∨ k = 2 ∨ k = 3 ∨ k = 4 ∨ k = 5 := by omega
  all_goals
    go_enter Tryz.func83, Tryz.ntmps83
    go_wp2
    go_ret
    exact ⟨rfl, rfl⟩


set_option maxHeartbeats 1000000 in
theorem on_any (x y : Int) (w : World) :
    Calls Tryz.prog 86 #[.agg #[.int .i64 x, .int .i64 y]] w fun e w' => e = .returned (.bool (onB x y)) ∧ Below w.heap.size w w' := by
  go_enter Tryz.func86, Tryz.ntmps86
  by_cases h1 : 0 ≤ x
  case neg =>
    go_wp2
    go_ret
    refine ⟨ret_bool (by simp only [onB]; symm; rw [decide_eq_false_iff_not]; omega), ?_⟩
    repeat' (first | exact Below.refl _ _ | refine Below.drew ?_ | refine Below.drewN' ?_ | refine Below.setCell ?_ (by first | omega | (simp; done) | exact Below.size (by assumption) | (simp; omega)) _ | refine Below.alloc ?_ (by first | omega | (simp; done) | exact Below.size (by assumption) | (simp; omega)) _ | refine Below.trans ?_ (Below.mono (by assumption) ?_) | (first | omega | (simp; done) | exact Below.size (by assumption) | (simp; omega)))
  by_cases h2 : x < 1048576
  case neg =>
    go_wp2
    go_ret
    refine ⟨ret_bool (by simp only [onB]; symm; rw [decide_eq_false_iff_not]; omega), ?_⟩
    repeat' (first | exact Below.refl _ _ | refine Below.drew ?_ | refine Below.drewN' ?_ | refine Below.setCell ?_ (by first | omega | (simp; done) | exact Below.size (by assumption) | (simp; omega)) _ | refine Below.alloc ?_ (by first | omega | (simp; done) | exact Below.size (by assumption) | (simp; omega)) _ | refine Below.trans ?_ (Below.mono (by assumption) ?_) | (first | omega | (simp; done) | exact Below.size (by assumption) | (simp; omega)))
  by_cases h3 : 0 ≤ y
  case neg =>
    go_wp2
    go_ret
    refine ⟨ret_bool (by simp only [onB]; symm; rw [decide_eq_false_iff_not]; omega), ?_⟩
    repeat' (first | exact Below.refl _ _ | refine Below.drew ?_ | refine Below.drewN' ?_ | refine Below.setCell ?_ (by first | omega | (simp; done) | exact Below.size (by assumption) | (simp; omega)) _ | refine Below.alloc ?_ (by first | omega | (simp; done) | exact Below.size (by assumption) | (simp; omega)) _ | refine Below.trans ?_ (Below.mono (by assumption) ?_) | (first | omega | (simp; done) | exact Below.size (by assumption) | (simp; omega)))
  go_wp2
  go_ret
  refine ⟨ret_bool (by simp only [onB]; rw [decide_eq_decide]; omega), ?_⟩
  repeat' (first | exact Below.refl _ _ | refine Below.drew ?_ | refine Below.drewN' ?_ | refine Below.setCell ?_ (by first | omega | (simp; done) | exact Below.size (by assumption) | (simp; omega)) _ | refine Below.alloc ?_ (by first | omega | (simp; done) | exact Below.size (by assumption) | (simp; omega)) _ | refine Below.trans ?_ (Below.mono (by assumption) ?_) | (first | omega | (simp; done) | exact Below.size (by assumption) | (simp; omega)))
set_option maxHeartbeats 1000000 in
theorem ron_any (x y : Int) (w : World) :
    Calls Tryz.prog 123 #[.agg #[.int .i64 x, .int .i64 y]] w fun e w' => e = .returned (.bool (onB x y)) ∧ Below w.heap.size w w' := by
  go_enter Tryz.func123, Tryz.ntmps123
  by_cases h1 : 0 ≤ x
  case neg =>
    go_wp2
    go_ret
    refine ⟨ret_bool (by simp only [onB]; symm; rw [decide_eq_false_iff_not]; omega), ?_⟩
    repeat' (first | exact Below.refl _ _ | refine Below.drew ?_ | refine Below.drewN' ?_ | refine Below.setCell ?_ (by first | omega | (simp; done) | exact Below.size (by assumption) | (simp; omega)) _ | refine Below.alloc ?_ (by first | omega | (simp; done) | exact Below.size (by assumption) | (simp; omega)) _ | refine Below.trans ?_ (Below.mono (by assumption) ?_) | (first | omega | (simp; done) | exact Below.size (by assumption) | (simp; omega)))
  by_cases h2 : x < 1048576
  case neg =>
    go_wp2
    go_ret
    refine ⟨ret_bool (by simp only [onB]; symm; rw [decide_eq_false_iff_not]; omega), ?_⟩
    repeat' (first | exact Below.refl _ _ | refine Below.drew ?_ | refine Below.drewN' ?_ | refine Below.setCell ?_ (by first | omega | (simp; done) | exact Below.size (by assumption) | (simp; omega)) _ | refine Below.alloc ?_ (by first | omega | (simp; done) | exact Below.size (by assumption) | (simp; omega)) _ | refine Below.trans ?_ (Below.mono (by assumption) ?_) | (first | omega | (simp; done) | exact Below.size (by assumption) | (simp; omega)))
  by_cases h3 : 0 ≤ y
  case neg =>
    go_wp2
    go_ret
    refine ⟨ret_bool (by simp only [onB]; symm; rw [decide_eq_false_iff_not]; omega), ?_⟩
    repeat' (first | exact Below.refl _ _ | refine Below.drew ?_ | refine Below.drewN' ?_ | refine Below.setCell ?_ (by first | omega | (simp; done) | exact Below.size (by assumption) | (simp; omega)) _ | refine Below.alloc ?_ (by first | omega | (simp; done) | exact Below.size (by assumption) | (simp; omega)) _ | refine Below.trans ?_ (Below.mono (by assumption) ?_) | (first | omega | (simp; done) | exact Below.size (by assumption) | (simp; omega)))
  go_wp2
  go_ret
  refine ⟨ret_bool (by simp only [onB]; rw [decide_eq_decide]; omega), ?_⟩
  repeat' (first | exact Below.refl _ _ | refine Below.drew ?_ | refine Below.drewN' ?_ | refine Below.setCell ?_ (by first | omega | (simp; done) | exact Below.size (by assumption) | (simp; omega)) _ | refine Below.alloc ?_ (by first | omega | (simp; done) | exact Below.size (by assumption) | (simp; omega)) _ | refine Below.trans ?_ (Below.mono (by assumption) ?_) | (first | omega | (simp; done) | exact Below.size (by assumption) | (simp; omega)))

set_option maxHeartbeats 1000000 in
theorem rword2_any (k : Int) (w : World) :
    Calls Tryz.prog 125 #[.int .i64 k] w fun e w' => e = .returned (.string (wordK k)) ∧ Below w.heap.size w w' := by
  by_cases h0 : k < 1
  · have e : wordK k = ⟨#[]⟩ := by simp only [wordK]; rw [if_neg (by omega), if_neg (by omega), if_neg (by omega), if_neg (by omega), if_neg (by omega)]
    rw [e]
    go_enter Tryz.func125, Tryz.ntmps125
    go_wp2
    go_ret
    refine ⟨rfl, ?_⟩
    repeat' (first | exact Below.refl _ _ | refine Below.drew ?_ | refine Below.drewN' ?_ | refine Below.setCell ?_ (by first | omega | (simp; done) | exact Below.size (by assumption) | (simp; omega)) _ | refine Below.alloc ?_ (by first | omega | (simp; done) | exact Below.size (by assumption) | (simp; omega)) _ | refine Below.trans ?_ (Below.mono (by assumption) ?_) | (first | omega | (simp; done) | exact Below.size (by assumption) | (simp; omega)))
  by_cases h5 : 5 < k
  · have e : wordK k = ⟨#[]⟩ := by simp only [wordK]; rw [if_neg (by omega), if_neg (by omega), if_neg (by omega), if_neg (by omega), if_neg (by omega)]
    rw [e]
    go_enter Tryz.func125, Tryz.ntmps125
    go_wp2
    go_ret
    refine ⟨rfl, ?_⟩
    repeat' (first | exact Below.refl _ _ | refine Below.drew ?_ | refine Below.drewN' ?_ | refine Below.setCell ?_ (by first | omega | (simp; done) | exact Below.size (by assumption) | (simp; omega)) _ | refine Below.alloc ?_ (by first | omega | (simp; done) | exact Below.size (by assumption) | (simp; omega)) _ | refine Below.trans ?_ (Below.mono (by assumption) ?_) | (first | omega | (simp; done) | exact Below.size (by assumption) | (simp; omega)))
  obtain rfl | rfl | rfl | rfl | rfl : k = 1 ∨ k = 2 ∨ k = 3 ∨ k = 4 ∨ k = 5 := by omega
  all_goals
    go_enter Tryz.func125, Tryz.ntmps125
    go_wp2
    go_ret
    refine ⟨rfl, ?_⟩
    repeat' (first | exact Below.refl _ _ | refine Below.drew ?_ | refine Below.drewN' ?_ | refine Below.setCell ?_ (by first | omega | (simp; done) | exact Below.size (by assumption) | (simp; omega)) _ | refine Below.alloc ?_ (by first | omega | (simp; done) | exact Below.size (by assumption) | (simp; omega)) _ | refine Below.trans ?_ (Below.mono (by assumption) ?_) | (first | omega | (simp; done) | exact Below.size (by assumption) | (simp; omega)))
end Go.Proofs.YtbkomdinchiffaaGreat
