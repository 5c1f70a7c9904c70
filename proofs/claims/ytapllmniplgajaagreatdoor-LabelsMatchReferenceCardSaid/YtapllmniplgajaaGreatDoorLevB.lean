/- tag.Get and label.level. -/
import Derived.Test.YtapllmniplgajaaGreatDoorLevA
import Derived.Test.YtapllmniplgajaaGreatDoorObjM
namespace Go.Proofs.YtapllmniplgajaaGreatDoor
open Go.RowKit

/-- The value of a key. -/
def getB (key : ByteArray) : List TagD → Option ByteArray
  | [] => none
  | t :: l => if t.key = key then some t.val else getB key l
theorem getB_drop (key : ByteArray) (l : List TagD) (k : Nat) (t : TagD) (ht : l[k]? = some t) : getB key (l.drop k) = if t.key = key then some t.val else getB key (l.drop (k + 1)) := by
  obtain ⟨hk, rfl⟩ := List.getElem?_eq_some_iff.1 ht
  rw [List.drop_eq_getElem_cons hk]; rfl
theorem getB_mem (key : ByteArray) : ∀ (l : List TagD) (s : ByteArray), getB key l = some s → ∃ t ∈ l, t.val = s
  | [], s, h => by cases h
  | t :: l, s, h => by
    rw [getB] at h
    split at h
    · injection h with h; exact ⟨t, List.mem_cons_self .., h⟩
    · obtain ⟨u, hu, e⟩ := getB_mem key l s h
      exact ⟨u, List.mem_cons_of_mem _ hu, e⟩
def GetPost (r : Option ByteArray) (w : World) (e : Ending) (w' : World) : Prop := e = .returned (.tuple #[.string (r.getD ⟨#[]⟩), .bool r.isSome]) ∧ Below w.heap.size w w'

set_option maxRecDepth 100000 in
set_option maxHeartbeats 1000000 in
theorem get_any (v : Value) (l : List TagD) (key : ByteArray) (w : World) (hv : TagRow w v l) :
    Calls Tryz.prog 66 #[v, .string key] w (GetPost (getB key l) w) := by
  obtain ⟨a, cap, rfl, hn, hsz, hc⟩ := hv
  generalize hN : l.length = N at *
  have HN := Lib.hid hN
  have HC := Lib.hid hc
  obtain ⟨r, hr⟩ : ∃ r, getB key l = r := ⟨_, rfl⟩
  rw [hr]
  have HR := Lib.hid hr
  clear hN hc hsz hr
  go_enter Tryz.func66, Tryz.ntmps66
  go_wp2
  go_loopw [10] (fun i wr => ∃ k : Nat, k ≤ N ∧ i = .int .i64 k ∧ Hid (getB key (l.drop k) = r) ∧ Below w.heap.size w wr) (fun i _ => N - (intOf i).toNat)
  case atStart => exact ⟨0, by omega, rfl, HR, Below.refl _ _⟩
  case round =>
    clear HR
    obtain ⟨k, hk, rfl, hT, hbr⟩ := hrel
    by_cases hlt : k < N
    · obtain ⟨t, ht⟩ : ∃ t, l[k]? = some t := ⟨l[k]'(by rw [HN.out]; exact hlt), List.getElem?_eq_getElem _⟩
      obtain ⟨b, off, ha, hcell⟩ := HC.out (by omega)
      subst ha
      have c0 := cell_later hbr (hcell k t ht).1
      have c1 := cell_later hbr (hcell k t ht).2
      have HD := Lib.hid (getB_drop key l k t ht)
      have BA := hbr.alloc hbr.size (.cells #[.string t.key, .string t.val] 69)
      clear hcell ht
      by_cases hs : t.key = key
      · have e1 : (t.key.toList == key.toList) = true := str_eq_true hs
        have HE := Lib.hid (show r = some t.val by rw [← hT.out, HD.out, if_pos hs])
        clear hs
        go_wp2
        go_ret2
        exact ⟨by rw [HE.out]; rfl, BA⟩
      · have e1 : (t.key.toList == key.toList) = false := str_eq_false hs
        have HG : Hid (getB key (l.drop (k + 1)) = r) := Lib.hid (by rw [← hT.out, HD.out, if_neg hs])
        clear hs
        go_wp2
        go_roundw
        case rel => exact ⟨k + 1, by omega, by go_num, HG, BA⟩
        case measure => simp [intOf]; omega
    · obtain rfl : k = N := by omega
      have HE := Lib.hid (show r = none by rw [← hT.out, List.drop_of_length_le (by rw [HN.out]; exact Nat.le_refl _)]; rfl)
      go_wp2
      go_ret2
      exact ⟨by rw [HE.out]; rfl, hbr⟩

def levelK : ByteArray := ⟨#[108, 101, 118, 101, 108]⟩
/-- The level that a text stands for. -/
def lvlS (s : ByteArray) : Int := if 0 ≤ numOf s ∧ numOf s ≤ 17 ∧ itoaB (numOf s) = s then numOf s else 0
/-- The level of an object with some tags. -/
def levelO (tags : List TagD) : Int := lvlS ((getB levelK tags).getD ⟨#[]⟩)
theorem lvlS_bd (s : ByteArray) : 0 ≤ lvlS s ∧ lvlS s ≤ 17 := by
  unfold lvlS
  split
  · omega
  · omega

set_option maxRecDepth 100000 in
set_option maxHeartbeats 2000000 in
theorem olevel_any (id : ByteArray) (kind x y : Int) (vr vt : Value) (refs : List ByteArray) (tags : List TagD) (w : World) (hr : StrRow w vr refs) (ht : TagRow w vt tags) (he : Env w) :
    Calls Tryz.prog 42 #[.agg #[.string id, .int .i64 kind, .int .i64 x, .int .i64 y, vr, vt]] w fun e w' => e = .returned (.int .i64 (levelO tags)) ∧ Below w.heap.size w w' := by
  have GT := Lib.hid (fun (w' : World) (hb : Below w.heap.size w w') => get_any vt tags levelK w' (ht.later hb))
  have HE := Lib.hid (fun (w' : World) (hb : Below w.heap.size w w') => he.later hb)
  obtain ⟨s, hs⟩ : ∃ s, s = (getB levelK tags).getD ⟨#[]⟩ := ⟨_, rfl⟩
  have hz : s.size ≤ 281474976710656 := by
    obtain ⟨_, _, _, _, hsz, _⟩ := ht
    cases hg : getB levelK tags with
    | none => rw [hs, hg]; show (⟨#[]⟩ : ByteArray).size ≤ _; exact Nat.zero_le _
    | some t =>
      obtain ⟨u, hu, e⟩ := getB_mem levelK tags t hg
      have := (hsz u hu).2
      rw [hs, hg]; show t.size ≤ _; rw [← e]; omega
  have HL : Hid (levelO tags = lvlS s) := Lib.hid (by rw [hs]; rfl)
  generalize levelO tags = lv at HL ⊢
  have HS := Lib.hid hs
  obtain ⟨ar, capr, rfl, _⟩ := hr
  obtain ⟨at1, capt, rfl, _⟩ := ht
  clear hs he
  go_enter Tryz.func42, Tryz.ntmps42
  go_wp2_with fail
  have B1 : Below w.heap.size w (w.alloc (.cells #[.string id, .int .i64 kind, .int .i64 x, .int .i64 y, .slice ar refs.length capr, .slice at1 tags.length capt] 59)) := (Below.refl _ w).alloc (Nat.le_refl _) _
  refine (show Calls _ _ _ _ _ from GT.out _ B1).mono ?_
  rintro e w2 ⟨rfl, hb2⟩
  rw [← HS.out]
  have B2 := below_step B1 (Nat.le_refl _) hb2
  go_wp2_with fail
  refine (atoi_any s hz w2 (HE.out _ B2)).mono ?_
  rintro e w3 ⟨⟨v, er, rfl, hv⟩, hb3⟩
  have B3 := below_step B2 (Nat.le_refl _) hb3
  clear B1 B2 hb2 hb3 GT
  rcases hv with ⟨rfl, hv⟩ | ⟨p, rfl, hv⟩
  · by_cases h0 : v < 0
    · have HV := Lib.hid (show lv = 0 by rw [HL.out]; unfold lvlS; rw [if_neg (by omega)])
      clear hv
      go_wp2
      go_ret
      exact ⟨by rw [HV.out]; rfl, B3⟩
    · by_cases h17 : 17 < v
      · have HV := Lib.hid (show lv = 0 by rw [HL.out]; unfold lvlS; rw [if_neg (by omega)])
        clear hv
        go_wp2
        go_ret
        exact ⟨by rw [HV.out]; rfl, B3⟩
      · have HV := Lib.hid hv
        have h0' : 0 ≤ v := by omega
        have h17' : v ≤ 17 := by omega
        clear hv
        go_wp2_with fail
        refine (itoa_below v (by omega) (by omega) w3 (HE.out _ B3)).mono ?_
        rintro e w4 ⟨rfl, hb4⟩
        have B4 := below_step B3 (Nat.le_refl _) hb4
        by_cases hi : itoaB v = s
        · have e1 : ((itoaB v).toList == s.toList) = true := str_eq_true hi
          have HF := Lib.hid (show lv = v by rw [HL.out]; unfold lvlS; rw [HV.out, if_pos ⟨h0', h17', hi⟩])
          clear hi
          go_wp2
          go_ret
          exact ⟨by rw [HF.out]; rfl, B4⟩
        · have e1 : ((itoaB v).toList == s.toList) = false := str_eq_false hi
          have HF := Lib.hid (show lv = 0 by rw [HL.out]; unfold lvlS; rw [HV.out, if_neg (fun h => hi h.2.2)])
          clear hi
          go_wp2
          go_ret
          exact ⟨by rw [HF.out]; rfl, B4⟩
  · have HV := Lib.hid (show lv = 0 by rw [HL.out]; unfold lvlS; rw [if_neg (by omega)])
    clear hv
    go_wp2
    go_ret
    exact ⟨by rw [HV.out]; rfl, B3⟩
end Go.Proofs.YtapllmniplgajaaGreatDoor
