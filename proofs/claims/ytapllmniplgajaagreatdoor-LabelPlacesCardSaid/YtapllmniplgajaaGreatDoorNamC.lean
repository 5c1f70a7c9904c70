/- name.Best: the place of a language, and the walk through the names. -/
import Derived.Test.YtapllmniplgajaaGreatDoorNamB
namespace Go.Proofs.YtapllmniplgajaaGreatDoor
open Go.RowKit Go.Shelf

attribute [local go_sem] Oper.semAt_some

/-- Where a text stands in a list. -/
def posS (s : ByteArray) : List ByteArray → Option Nat
  | [] => none
  | x :: l => if x = s then some 0 else (posS s l).map (· + 1)
theorem posS_drop (s : ByteArray) (l : List ByteArray) (k : Nat) (x : ByteArray) (hx : l[k]? = some x) : posS s (l.drop k) = if x = s then some 0 else (posS s (l.drop (k + 1))).map (· + 1) := by
  obtain ⟨hk, rfl⟩ := List.getElem?_eq_some_iff.1 hx
  rw [List.drop_eq_getElem_cons hk]; rfl
def posI : Option Nat → Int
  | some i => i
  | none => -1
theorem posI_map (o : Option Nat) (k : Nat) (h : o = none) : posI (o.map (· + k)) = -1 := by rw [h]; rfl

set_option maxRecDepth 100000 in
set_option maxHeartbeats 1000000 in
theorem idxS_any (v : Value) (l : List ByteArray) (s : ByteArray) (w : World) (hv : StrRow w v l) :
    Calls Tryz.prog 53 #[v, .string s] w fun e w' => e = .returned (.int .i64 (posI (posS s l))) ∧ w' = w := by
  obtain ⟨a, cap, rfl, hn, hsz, hc⟩ := hv
  generalize hN : l.length = N at *
  have HN := Lib.hid hN
  have HC := Lib.hid hc
  have HP0 : Hid (posS s l = (posS s (l.drop 0)).map (· + 0)) := (show _ = _ by rw [List.drop_zero]; cases posS s l <;> rfl)
  generalize hr : posI (posS s l) = r
  have HR := Lib.hid hr
  clear hN hc hsz hr
  go_enter Tryz.func53, Tryz.ntmps53
  go_wp2
  go_loopw [8] (fun i wr => ∃ k : Nat, k ≤ N ∧ i = .int .i64 k ∧ Hid (posS s l = (posS s (l.drop k)).map (· + k)) ∧ wr = w) (fun i _ => N - (intOf i).toNat)
  case atStart => exact ⟨0, by omega, rfl, HP0, rfl⟩
  case round =>
    obtain ⟨k, hk, rfl, hT, rfl⟩ := hrel
    clear HP0
    by_cases hlt : k < N
    · obtain ⟨x, hx⟩ : ∃ x, l[k]? = some x := ⟨l[k]'(by rw [HN.out]; exact hlt), List.getElem?_eq_getElem _⟩
      obtain ⟨b, off, ha, hcell⟩ := HC.out (by omega)
      subst ha
      have c0 := hcell k x hx
      have HD := Lib.hid (posS_drop s l k x hx)
      clear hcell hx
      by_cases hs : x = s
      · have e1 : (s.toList == x.toList) = true := str_eq_true hs.symm
        have HE := Lib.hid (show r = (k : Int) by rw [← HR.out, hT.out, HD.out, if_pos hs]; simp [posI])
        clear hs
        go_wp2
        go_ret
        exact ⟨by rw [HE.out]; rfl, rfl⟩
      · have e1 : (s.toList == x.toList) = false := str_eq_false (fun h => hs h.symm)
        have HG : Hid (posS s l = (posS s (l.drop (k + 1))).map (· + (k + 1))) := by
          show _ = _
          rw [hT.out, HD.out, if_neg hs, Option.map_map]
          congr 1
          funext n
          simp; omega
        clear hs
        go_wp2
        go_roundw
        case rel => exact ⟨k + 1, by omega, by go_num, HG, trivial⟩
        case measure => simp [intOf]; omega
    · obtain rfl : k = N := by omega
      have HE := Lib.hid (show r = -1 by rw [← HR.out, hT.out, List.drop_of_length_le (by rw [HN.out]; exact Nat.le_refl _)]; rfl)
      go_wp2
      go_ret
      exact ⟨by rw [HE.out]; rfl, rfl⟩

/-- The place of a language among those that are asked for. -/
def atB (langs : List ByteArray) (own : ByteArray) : Int :=
  match posS own langs with
  | some i => i
  | none => if own = ⟨#[]⟩ then langs.length else langs.length + 1
theorem posS_lt (s : ByteArray) : ∀ (l : List ByteArray) (i : Nat), posS s l = some i → i < l.length
  | [], i, h => by simp [posS] at h
  | x :: l, i, h => by
    rw [posS] at h
    split at h
    · injection h with h; subst h; simp
    · cases hp : posS s l with
      | none => rw [hp] at h; cases h
      | some j =>
        rw [hp] at h
        have := posS_lt s l j hp
        simp at h; subst h; simp; omega

set_option maxRecDepth 100000 in
set_option maxHeartbeats 1000000 in
theorem at_any (v : Value) (l : List ByteArray) (s : ByteArray) (B : Nat) (w : World) (hl : l.length ≤ 1000000) (hv : StrRow w v l) (hB : w.cell? ⟨B, 0, none⟩ = some v) :
    Calls Tryz.prog 52 #[.string s, .pointer (some ⟨B, 0, none⟩)] w fun e w' => e = .returned (.int .i64 (atB l s)) ∧ w' = w := by
  have IX := Lib.hid (idxS_any v l s w hv)
  obtain ⟨a, cap, rfl, _⟩ := hv
  obtain ⟨r, hr⟩ : ∃ r, r = atB l s := ⟨_, rfl⟩
  rw [← hr]
  cases hp : posS s l with
  | some i =>
    have HR := Lib.hid (show r = (i : Int) by rw [hr]; unfold atB; rw [hp])
    rw [hp] at IX
    have h0 : (0 : Int) ≤ (i : Int) := by omega
    clear hp hr
    have IX := Lib.hid (show Calls Tryz.prog 53 #[.slice a l.length cap, .string s] w fun e w' => e = .returned (.int .i64 (i : Int)) ∧ w' = w from IX.out)
    go_enter Tryz.func52, Tryz.ntmps52
    go_wp2_with fail
    refine IX.out.mono ?_
    rintro e w2 ⟨rfl, rfl⟩
    go_wp2
    go_ret
    exact ⟨by rw [HR.out]; rfl, rfl⟩
  | none =>
    have IX := Lib.hid (show Calls Tryz.prog 53 #[.slice a l.length cap, .string s] w fun e w' => e = .returned (.int .i64 (-1)) ∧ w' = w by have := IX.out; rw [hp] at this; exact this)
    have hw : IntKind.i64.wrap ((l.length : Int) + 1) = (l.length : Int) + 1 := by rw [IntKind.wrap_i64]; omega
    by_cases hs : s = ⟨#[]⟩
    · have HR := Lib.hid (show r = (l.length : Int) by rw [hr]; unfold atB; rw [hp]; simp [hs])
      have e0 : s.toList = [] := by rw [hs, ByteArray.toList_eq]
      have e1 : s.toList.isEmpty = true := by rw [e0]; rfl
      clear hs hp hr
      go_enter Tryz.func52, Tryz.ntmps52
      go_wp2_with fail
      refine IX.out.mono ?_
      rintro e w2 ⟨rfl, rfl⟩
      go_wp2
      go_ret
      exact ⟨by rw [HR.out]; rfl, rfl⟩
    · have HR := Lib.hid (show r = (l.length : Int) + 1 by rw [hr]; unfold atB; rw [hp]; simp [hs])
      have e0 : ¬ s.toList = [] := by
        intro h; apply hs
        rw [ByteArray.toList_eq] at h
        exact ByteArray.ext (Array.toList_inj.mp h)
      have e1 : s.toList.isEmpty = false := by simpa using e0
      clear hs hp hr
      go_enter Tryz.func52, Tryz.ntmps52
      go_wp2_with fail
      refine IX.out.mono ?_
      rintro e w2 ⟨rfl, rfl⟩
      go_wp2
      go_ret
      exact ⟨by rw [HR.out]; rfl, rfl⟩

theorem names_any (v : Value) (w : World) (hv : ∃ a n cap, v = .slice a n cap) : Calls Tryz.prog 54 #[v] w fun e w' => e = .returned (.func (.func 86) #[] #[.pointer (some ⟨w.heap.size, 0, none⟩)]) ∧ w' = w.alloc (.cells #[v] 57) := by
  obtain ⟨a, n, cap, rfl⟩ := hv
  go_enter Tryz.func54, Tryz.ntmps54
  go_wp2
  go_ret
  exact ⟨rfl, rfl⟩

def bestStep (langs : List ByteArray) (st : TagD × Int) (p : ByteArray × TagD) : TagD × Int := if atB langs p.1 < st.2 then (p.2, atB langs p.1) else st
def bestF (langs : List ByteArray) (l : List (ByteArray × TagD)) : TagD × Int := l.foldl (bestStep langs) (⟨⟨#[]⟩, ⟨#[]⟩⟩, langs.length + 2)
/-- The best name of tags for some languages, and its key. -/
def bestB (tags : List TagD) (langs : List ByteArray) : ByteArray × ByteArray :=
  if tagsOK tags then ((bestF langs (namesL tags)).1.val, (bestF langs (namesL tags)).1.key) else (⟨#[]⟩, ⟨#[]⟩)

theorem tags_names : ∀ (l : List TagD) (last : ByteArray), tagsFrom last l = true → ∀ t ∈ l, nameB t.key = true
  | [], _, _, t, ht => by cases ht
  | x :: l, last, h, t, ht => by
    simp only [tagsFrom, Bool.and_eq_true] at h
    rcases List.mem_cons.1 ht with rfl | ht
    · exact h.1.1.1
    · exact tags_names l x.key h.2 t ht

set_option maxRecDepth 100000 in
set_option maxHeartbeats 1000000 in
theorem best_bad (vt vl : Value) (tags : List TagD) (langs : List ByteArray) (w : World) (ht : TagRow w vt tags) (hv : StrRow w vl langs) (hok : tagsOK tags = false) :
    Calls Tryz.prog 29 #[vt, vl] w fun e w' => e = .returned (.tuple #[.string (bestB tags langs).1, .string (bestB tags langs).2]) ∧ Below w.heap.size w w' := by
  have HB := Lib.hid (show bestB tags langs = (⟨#[]⟩, ⟨#[]⟩) by unfold bestB; rw [hok]; rfl)
  have TD := Lib.hid (fun (w' : World) (hb : Below w.heap.size w w') => by have := tags_any vt tags w' (ht.later hb); rw [hok] at this; exact this)
  obtain ⟨a, cap, rfl, _⟩ := hv
  generalize bestB tags langs = bb at HB
  clear ht hok
  go_enter Tryz.func29, Tryz.ntmps29
  go_wp2_with fail
  refine (TD.out _ (by repeat' (first | exact Below.refl _ _ | refine Below.drew ?_ | refine Below.drewN' ?_ | refine Below.setCell ?_ (by first | omega | (simp; done) | exact Below.size (by assumption) | (simp; omega)) _ | refine Below.alloc ?_ (by first | omega | (simp; done) | exact Below.size (by assumption) | (simp; omega)) _ | refine Below.trans ?_ (Below.mono (by assumption) ?_) | (first | omega | (simp; done) | exact Below.size (by assumption) | (simp; omega))))).mono ?_
  rintro e w2 ⟨rfl, hb2⟩
  have B2 : Below w.heap.size w w2 := below_step (((Below.refl _ w).alloc (Nat.le_refl _) _).alloc (by simp) _) (Nat.le_refl _) hb2
  go_wp2
  go_ret2
  exact ⟨by rw [HB.out]; rfl, B2⟩
end Go.Proofs.YtapllmniplgajaaGreatDoor
