/- atlas.at in a valid map: the place of a name, also where it is not there. -/
import Derived.Test.YtbkomdinchiffaaGreatCmp
import Derived.Test.YtbkomdinchiffaaGreatAtlV
import Derived.Deep.LoopGhost
namespace Go.Proofs.YtbkomdinchiffaaGreat
open Go.RowKit

/-- The objects before a place have lesser names, all others do not. -/
def PlaceO (id : ByteArray) (l : List ObjD) (i : Nat) : Prop := i ≤ l.length ∧ (∀ t o, t < i → l[t]? = some o → ltB o.id id = true) ∧ ∀ t o, i ≤ t → l[t]? = some o → ltB o.id id = false
set_option maxHeartbeats 1000000 in
theorem atC_any (id : ByteArray) (kind x y : Int) (vr vt : Value) (refs : List ByteArray) (tags : List TagD) (t : ByteArray) (w : World) (hr : StrRow w vr refs) (ht : TagRow w vt tags) :
    Calls Tryz.prog 97 #[.agg #[.string id, .int .i64 kind, .int .i64 x, .int .i64 y, vr, vt], .string t] w fun e w' => e = .returned (.int .i64 (Lib.compareBytes id.data.toList t.data.toList)) ∧ Below w.heap.size w w' := by
  have SC := Lib.hid (fun w => Tryz.strings_Compare id t w)
  generalize Lib.compareBytes id.data.toList t.data.toList = c at SC ⊢
  obtain ⟨ar, capr, rfl, _⟩ := hr
  obtain ⟨at1, capt, rfl, _⟩ := ht
  go_enter Tryz.func97, Tryz.ntmps97
  go_wp2_with fail
  refine (SC.out _).mono ?_
  rintro e w2 ⟨rfl, rfl⟩
  go_wp2
  go_ret
  exact ⟨rfl, (Below.refl _ _).alloc (Nat.le_refl _) _⟩

def BinPost (id : ByteArray) (l : List ObjD) (w : World) (e : Ending) (w' : World) : Prop :=
  (∃ (i : Nat) (b : Bool), e = .returned (.tuple #[.int .i64 i, .bool b]) ∧ b = (posO id l).isSome ∧ (∀ j, posO id l = some j → i = j) ∧ PlaceO id l i) ∧ Below w.heap.size w w'
set_option maxRecDepth 100000 in
set_option maxHeartbeats 2000000 in
theorem bin_any (v : Value) (l : List ObjD) (id : ByteArray) (w : World) (hv : ObjsIs w v l) (hl : l.length ≤ 1000000) (hs : ∀ (i j : Nat) (x y : ObjD), i < j → l[i]? = some x → l[j]? = some y → ltB x.id y.id = true) :
    Calls Tryz.prog 96 #[v, .string id, .func (.func 97) #[] #[]] w (BinPost id l w) := by
  obtain ⟨a, cap, rfl, hn, hc⟩ := hv
  generalize hN : l.length = N at *
  have HN := Lib.hid hN
  have HC := Lib.hid hc
  have HS := Lib.hid hs
  have CM := Lib.hid (fun (o : ObjD) (vr vt : Value) w h1 h2 => atC_any o.id o.kind o.x o.y vr vt o.refs o.tags id w h1 h2)
  clear hN hc hs
  go_enter Tryz.func96, Tryz.ntmps96
  go_wp2
  go_loopg [9, 10] N (fun kx s9 s10 wr => ∃ lo hi : Nat, s9 = .int .i64 lo ∧ s10 = .int .i64 hi ∧ lo ≤ hi ∧ hi ≤ N ∧ hi - lo ≤ kx ∧ Below w.heap.size w wr ∧
    Hid ((∀ t o, t < lo → l[t]? = some o → ltB o.id id = true) ∧ (∀ t o, hi ≤ t → l[t]? = some o → ltB o.id id = false)))
  case atStart => exact ⟨0, N, rfl, rfl, Nat.zero_le _, Nat.le_refl _, by omega, Below.refl _ _, Lib.hid ⟨fun t o ht => absurd ht (Nat.not_lt_zero _), fun t o h1 h2 => by have := (List.getElem?_eq_some_iff.1 h2).1; rw [HN.out] at this; omega⟩⟩
  case round =>
    obtain ⟨lo, hi, rfl, rfl, hlh, hin, hg, hbr, I⟩ := hrel
    by_cases hlt : lo < hi
    · have hltz : (lo : Int) < (hi : Int) := by omega
      obtain ⟨c, hcc⟩ : ∃ c, c = (lo + hi) / 2 := ⟨_, rfl⟩
      have hczz : ((lo : Int) + (hi : Int)) / 2 = (c : Int) := by omega
      have hlc : lo ≤ c := by omega
      have hch : c < hi := by omega
      have hcN : c < N := by omega
      clear hcc
      obtain ⟨o, ho⟩ : ∃ o, l[c]? = some o := ⟨l[c]'(by rw [HN.out]; exact hcN), List.getElem?_eq_getElem _⟩
      obtain ⟨b, off, ha, hcell⟩ := HC.out (by omega)
      subst ha
      obtain ⟨vr, vt, c0, c1, c2, c3, c4, c5, hr, ht, hz⟩ := (hcell c o ho).later hbr
      have HR := Lib.hid hr
      have HTG := Lib.hid ht
      obtain ⟨ar, capr, evr, _⟩ := hr
      obtain ⟨at1, capt, evt, _⟩ := ht
      subst evr evt
      have bz := lt_of_cell c0
      have HO := Lib.hid ho
      have CL := Lib.hid (comp_lt o.id id)
      clear hcell ho
      go_wp2_with fail
      refine (CM.out o _ _ _ HR.out HTG.out).mono ?_
      rintro e w2 ⟨rfl, hb2⟩
      have B2 := below_step hbr (Nat.le_refl _) hb2
      clear c0 c1 c2 c3 c4 c5
      cases hlo : ltB o.id id with
      | true =>
        have hneg : Lib.compareBytes o.id.data.toList id.data.toList < 0 := CL.out.2 hlo
        have I2 : Hid ((∀ t o, t < c + 1 → l[t]? = some o → ltB o.id id = true) ∧ (∀ t o, hi ≤ t → l[t]? = some o → ltB o.id id = false)) := Lib.hid ⟨fun t o' ht h' => by
          rcases Nat.lt_or_eq_of_le (Nat.le_of_lt_succ ht) with h | h
          · exact ltB_trans (HS.out t c o' o h h' HO.out) hlo
          · subst h; rw [HO.out] at h'; cases h'; exact hlo, I.out.2⟩
        generalize Lib.compareBytes o.id.data.toList id.data.toList = cv at hneg CL
        clear hlo CL I
        go_wp2
        go_roundg (hi - (c + 1))
        case measure => omega
        case rel => exact ⟨c + 1, hi, by go_num, rfl, by omega, hin, by omega, B2, I2⟩
      | false =>
        have hneg : ¬ Lib.compareBytes o.id.data.toList id.data.toList < 0 := fun h => by have := CL.out.1 h; rw [hlo] at this; cases this
        have I2 : Hid ((∀ t o, t < lo → l[t]? = some o → ltB o.id id = true) ∧ (∀ t o, c ≤ t → l[t]? = some o → ltB o.id id = false)) := Lib.hid ⟨I.out.1, fun t o' ht h' => by
          rcases Nat.lt_or_eq_of_le ht with h | h
          · cases hx : ltB o'.id id with
            | false => rfl
            | true => have := ltB_trans (HS.out c t o o' h HO.out h') hx; rw [hlo] at this; cases this
          · subst h; rw [HO.out] at h'; cases h'; exact hlo⟩
        generalize Lib.compareBytes o.id.data.toList id.data.toList = cv at hneg CL
        clear hlo CL I
        go_wp2
        go_roundg (c - lo)
        case measure => omega
        case rel => exact ⟨lo, c, rfl, by go_num, by omega, by omega, by omega, B2, I2⟩
    · obtain rfl : lo = hi := by omega
      have F := Lib.hid (bin_found HS.out I.out.1 I.out.2)
      have HPL : Hid (PlaceO id l lo) := Lib.hid ⟨by rw [HN.out]; exact hin, I.out.1, I.out.2⟩
      clear I
      by_cases hNl : lo < N
      · have hNz : (lo : Int) < (N : Int) := by omega
        obtain ⟨o, ho⟩ : ∃ o, l[lo]? = some o := ⟨l[lo]'(by rw [HN.out]; exact hNl), List.getElem?_eq_getElem _⟩
        obtain ⟨b, off, ha, hcell⟩ := HC.out (by omega)
        subst ha
        obtain ⟨vr, vt, c0, c1, c2, c3, c4, c5, hr, ht, hz⟩ := (hcell lo o ho).later hbr
        have HR := Lib.hid hr
        have HTG := Lib.hid ht
        obtain ⟨ar, capr, evr, _⟩ := hr
        obtain ⟨at1, capt, evt, _⟩ := ht
        subst evr evt
        have bz := lt_of_cell c0
        have HO := Lib.hid ho
        have CL := Lib.hid (comp_eq o.id id)
        clear hcell ho
        have hltz : ¬ (lo : Int) < (lo : Int) := by omega
        go_wp2_with fail
        refine (CM.out o _ _ _ HR.out HTG.out).mono ?_
        rintro e w2 ⟨rfl, hb2⟩
        have B2 := below_step hbr (Nat.le_refl _) hb2
        clear c0 c1 c2 c3 c4 c5
        by_cases he : o.id = id
        · have HP := Lib.hid (F.out.1 o HO.out he)
          have hc0 : (Lib.compareBytes o.id.data.toList id.data.toList == 0) = true := by rw [beq_iff_eq]; exact CL.out.2 he
          generalize Lib.compareBytes o.id.data.toList id.data.toList = cv at hc0 CL
          clear CL he
          go_wp2
          go_ret2
          exact ⟨⟨lo, true, rfl, by rw [HP.out]; rfl, (fun j h => by rw [HP.out] at h; injection h), HPL.out⟩, B2⟩
        · have HP := Lib.hid (show posO id l = none by
            cases hp : posO id l with
            | none => rfl
            | some j => obtain ⟨_, o', ho', e⟩ := F.out.2 j hp; rw [HO.out] at ho'; cases ho'; exact absurd e he)
          have hc0 : (Lib.compareBytes o.id.data.toList id.data.toList == 0) = false := by rw [beq_eq_false_iff_ne]; exact fun h => he (CL.out.1 h)
          generalize Lib.compareBytes o.id.data.toList id.data.toList = cv at hc0 CL
          clear CL he
          go_wp2
          go_ret2
          exact ⟨⟨lo, false, rfl, by rw [HP.out]; rfl, (fun j h => by rw [HP.out] at h; cases h), HPL.out⟩, B2⟩
      · have hNz : ¬ (lo : Int) < (N : Int) := by omega
        have HP := Lib.hid (show posO id l = none by
          cases hp : posO id l with
          | none => rfl
          | some j => obtain ⟨_, o, ho, _⟩ := F.out.2 j hp; have := (List.getElem?_eq_some_iff.1 ho).1; rw [HN.out] at this; omega)
        go_wp2
        go_ret2
        exact ⟨⟨lo, false, rfl, by rw [HP.out]; rfl, (fun j h => by rw [HP.out] at h; cases h), HPL.out⟩, hbr⟩

/-- Contract of atlas.at at a valid map. -/
theorem at_map (v : Value) (l : List ObjD) (id : ByteArray) (w : World) (hv : ObjsIs w v l) (hok : mapOK l = true) :
    Calls Tryz.prog 61 #[.agg #[v], .string id] w (BinPost id l w) := by
  obtain ⟨h1, h2⟩ := mapOK_sorted hok
  have BI := Lib.hid (fun w' hb => bin_any v l id w' (hv.later (w' := w') hb) h1 h2)
  obtain ⟨a, cap, rfl, _⟩ := hv
  clear h2
  go_enter Tryz.func61, Tryz.ntmps61
  go_wp2_with fail
  have B1 : Below w.heap.size w (w.alloc (.cells #[.slice a l.length cap] 24)) := (Below.refl _ w).alloc (Nat.le_refl _) _
  refine (BI.out _ B1).mono ?_
  rintro e w2 ⟨⟨i, b, rfl, hb, hi, hpl⟩, hb2⟩
  have B2 := below_step B1 (Nat.le_refl _) hb2
  have HBI := Lib.hid hb
  have HII := Lib.hid hi
  have HPL := Lib.hid hpl
  clear hb hi hpl
  go_wp2
  go_ret2
  exact ⟨⟨i, b, rfl, HBI.out, HII.out, HPL.out⟩, B2⟩
end Go.Proofs.YtbkomdinchiffaaGreat
