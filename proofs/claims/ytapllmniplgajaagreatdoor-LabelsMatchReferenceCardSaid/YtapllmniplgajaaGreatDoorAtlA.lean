/- atlas.at: the place of a name in a valid map. -/
import Derived.Test.YtapllmniplgajaaGreatDoorAtlV
import Derived.Test.YtapllmniplgajaaGreatDoorLabZ
import Derived.Deep.LoopGhost
namespace Go.Proofs.YtapllmniplgajaaGreatDoor
open Go.RowKit

theorem compL : ∀ (x y : List UInt8), (Lib.compareBytes x y < 0 ↔ x < y) ∧ (Lib.compareBytes x y = 0 ↔ x = y)
  | [], [] => by simp [Lib.compareBytes]
  | [], _ :: _ => by simp [Lib.compareBytes]
  | _ :: _, [] => by simp [Lib.compareBytes]
  | a :: x, b :: y => by
    have ih := compL x y
    simp only [Lib.compareBytes, List.cons_lt_cons_iff, List.cons.injEq]
    rcases Nat.lt_trichotomy a.toNat b.toNat with h | h | h
    · have h1 : a < b := UInt8.lt_iff_toNat_lt.2 h
      have h3 : ¬ a = b := fun e => by subst e; omega
      simp [h1, h3]
    · have e : a = b := UInt8.toNat_inj.1 h
      subst e
      have h2 : ¬ a < a := fun e => by have := UInt8.lt_iff_toNat_lt.1 e; omega
      simp [h2, ih]
    · have h1 : b < a := UInt8.lt_iff_toNat_lt.2 h
      have h2 : ¬ a < b := fun e => by have := UInt8.lt_iff_toNat_lt.1 e; omega
      have h3 : ¬ a = b := fun e => by subst e; omega
      simp [h1, h2, h3]
theorem comp_lt (a b : ByteArray) : (Lib.compareBytes a.data.toList b.data.toList < 0) ↔ ltB a b = true := by
  rw [(compL _ _).1, ltB_eq, Sort.ltStr, decide_eq_true_eq, ByteArray.toList_eq, ByteArray.toList_eq]
theorem comp_eq (a b : ByteArray) : (Lib.compareBytes a.data.toList b.data.toList = 0) ↔ a = b := by
  rw [(compL _ _).2]
  exact ⟨fun h => ByteArray.ext (Array.toList_inj.mp h), fun h => by rw [h]⟩

/-- The place of the object with a name. -/
def posO (id : ByteArray) : List ObjD → Option Nat
  | [] => none
  | o :: l => if o.id = id then some 0 else (posO id l).map (· + 1)
theorem posO_some (id : ByteArray) : ∀ (l : List ObjD) (i : Nat), posO id l = some i → ∃ o, l[i]? = some o ∧ o.id = id
  | [], i, h => by cases h
  | o :: l, i, h => by
    rw [posO] at h
    split at h
    · rename_i e; injection h with h; subst h; exact ⟨o, rfl, e⟩
    · cases hp : posO id l with
      | none => rw [hp] at h; cases h
      | some j =>
        rw [hp] at h
        simp only [Option.map_some] at h
        injection h with h
        subst h
        simpa using posO_some id l j hp
theorem posO_none (id : ByteArray) : ∀ (l : List ObjD), posO id l = none → ∀ o ∈ l, o.id ≠ id
  | [], _, o, ho => by cases ho
  | x :: l, h, o, ho => by
    rw [posO] at h
    split at h
    · cases h
    · rename_i e
      cases hp : posO id l with
      | some j => rw [hp] at h; cases h
      | none =>
        rcases List.mem_cons.1 ho with rfl | ho
        · exact e
        · exact posO_none id l hp o ho
theorem ltB_trans {a b c : ByteArray} (h1 : ltB a b = true) (h2 : ltB b c = true) : ltB a c = true := by rw [ltB_eq] at *; exact Sort.swo_ltStr.trans _ _ _ h1 h2
theorem ltB_irrefl (a : ByteArray) : ltB a a = false := by rw [ltB_eq]; exact Sort.swo_ltStr.irrefl _
/-- The names of a valid map are in strictly increasing order. -/
theorem objs_sorted : ∀ (l : List ObjD) (last : ByteArray), objsFrom last l = true → (∀ o ∈ l, ltB last o.id = true) ∧ ∀ (i j : Nat) (x y : ObjD), i < j → l[i]? = some x → l[j]? = some y → ltB x.id y.id = true
  | [], _, _ => ⟨fun o h => (by cases h), fun i j x y _ h _ => (by simp at h)⟩
  | o :: l, last, h => by
    simp only [objsFrom, Bool.and_eq_true] at h
    obtain ⟨⟨_, h1⟩, h2⟩ := h
    obtain ⟨ha, hb⟩ := objs_sorted l o.id h2
    refine ⟨fun x hx => ?_, fun i j x y hij hx hy => ?_⟩
    · rcases List.mem_cons.1 hx with rfl | hx
      · exact h1
      · exact ltB_trans h1 (ha x hx)
    · cases j with
      | zero => omega
      | succ j =>
        have hy' : l[j]? = some y := by simpa using hy
        cases i with
        | zero =>
          have : o = x := by simpa using hx
          subst this
          exact ha y (List.mem_of_getElem? hy')
        | succ i => exact hb i j x y (by omega) (by simpa using hx) hy'

set_option maxHeartbeats 1000000 in
theorem atC_any (id : ByteArray) (kind x y : Int) (vr vt : Value) (refs : List ByteArray) (tags : List TagD) (t : ByteArray) (w : World) (hr : StrRow w vr refs) (ht : TagRow w vt tags) :
    Calls Tryz.prog 123 #[.agg #[.string id, .int .i64 kind, .int .i64 x, .int .i64 y, vr, vt], .string t] w fun e w' => e = .returned (.int .i64 (Lib.compareBytes id.data.toList t.data.toList)) ∧ Below w.heap.size w w' := by
  have SC := Lib.hid (fun w => Tryz.strings_Compare id t w)
  generalize Lib.compareBytes id.data.toList t.data.toList = c at SC ⊢
  obtain ⟨ar, capr, rfl, _⟩ := hr
  obtain ⟨at1, capt, rfl, _⟩ := ht
  go_enter Tryz.func123, Tryz.ntmps123
  go_wp2_with fail
  refine (SC.out _).mono ?_
  rintro e w2 ⟨rfl, rfl⟩
  go_wp2
  go_ret
  exact ⟨rfl, (Below.refl _ _).alloc (Nat.le_refl _) _⟩

def BinPost (id : ByteArray) (l : List ObjD) (w : World) (e : Ending) (w' : World) : Prop :=
  (∃ (i : Nat) (b : Bool), e = .returned (.tuple #[.int .i64 i, .bool b]) ∧ b = (posO id l).isSome ∧ ∀ j, posO id l = some j → i = j) ∧ Below w.heap.size w w'
theorem bin_found {l : List ObjD} (hs : ∀ (i j : Nat) (x y : ObjD), i < j → l[i]? = some x → l[j]? = some y → ltB x.id y.id = true) {id : ByteArray} {lo : Nat} (h1 : ∀ t o, t < lo → l[t]? = some o → ltB o.id id = true) (h2 : ∀ t o, lo ≤ t → l[t]? = some o → ltB o.id id = false) :
    (∀ o, l[lo]? = some o → o.id = id → posO id l = some lo) ∧ (∀ j, posO id l = some j → j = lo ∧ ∃ o, l[lo]? = some o ∧ o.id = id) := by
  have hb : ∀ j, posO id l = some j → j = lo ∧ ∃ o, l[lo]? = some o ∧ o.id = id := by
    intro j hj
    obtain ⟨o, ho, e⟩ := posO_some id l j hj
    have hge : lo ≤ j := by
      rcases Nat.lt_or_ge j lo with h | h
      · have := h1 j o h ho; rw [e, ltB_irrefl] at this; cases this
      · exact h
    rcases Nat.lt_or_eq_of_le hge with h | h
    · have hjl := (List.getElem?_eq_some_iff.1 ho).1
      have hlo : l[lo]? = some (l[lo]'(by omega)) := List.getElem?_eq_getElem _
      have a := hs lo j _ o h hlo ho
      have b := h2 lo _ (Nat.le_refl _) hlo
      rw [e] at a; rw [a] at b; cases b
    · subst h; exact ⟨rfl, o, ho, e⟩
  refine ⟨fun o ho e => ?_, hb⟩
  cases hp : posO id l with
  | none => exact absurd e (posO_none id l hp o (List.mem_of_getElem? ho))
  | some j => rw [(hb j hp).1]

set_option maxRecDepth 100000 in
set_option maxHeartbeats 2000000 in
theorem bin_any (v : Value) (l : List ObjD) (id : ByteArray) (w : World) (hv : ObjsIs w v l) (hl : l.length ≤ 1000000) (hs : ∀ (i j : Nat) (x y : ObjD), i < j → l[i]? = some x → l[j]? = some y → ltB x.id y.id = true) :
    Calls Tryz.prog 122 #[v, .string id, .func (.func 123) #[] #[]] w (BinPost id l w) := by
  obtain ⟨a, cap, rfl, hn, hc⟩ := hv
  generalize hN : l.length = N at *
  have HN := Lib.hid hN
  have HC := Lib.hid hc
  have HS := Lib.hid hs
  have CM := Lib.hid (fun (o : ObjD) (vr vt : Value) w h1 h2 => atC_any o.id o.kind o.x o.y vr vt o.refs o.tags id w h1 h2)
  clear hN hc hs
  go_enter Tryz.func122, Tryz.ntmps122
  go_wp2
  go_loopg [9, 10] N (fun kx s9 s10 wr => ∃ lo hi : Nat, s9 = .int .i64 lo ∧ s10 = .int .i64 hi ∧ lo ≤ hi ∧ hi ≤ N ∧ hi - lo ≤ kx ∧ Below w.heap.size w wr ∧
    Hid ((∀ t o, t < lo → l[t]? = some o → ltB o.id id = true) ∧ (∀ t o, hi ≤ t → l[t]? = some o → ltB o.id id = false)))
  case atStart => exact ⟨0, N, rfl, rfl, Nat.zero_le _, Nat.le_refl _, by omega, Below.refl _ _, Lib.hid ⟨fun t o ht => absurd ht (Nat.not_lt_zero _), fun t o h1 h2 => by have := (List.getElem?_eq_some_iff.1 h2).1; rw [HN.out] at this; omega⟩⟩
  case round =>
    obtain ⟨lo, hi, rfl, rfl, hlh, hin, hg, hbr, I⟩ := hrel
    by_cases hlt : lo < hi
    · have hltz : (lo : Int) < (hi : Int) := by omega
      obtain ⟨c, hcc⟩ : ∃ c, c = (lo + hi) / 2 := ⟨_, rfl⟩
      have hczz : ((lo : Int) + (hi : Int)) / 2 = (c : Int) := by omega
      have hlc : lo ≤ c := by omega
      have hch : c < hi := by omega
      have hcN : c < N := by omega
      clear hcc
      obtain ⟨o, ho⟩ : ∃ o, l[c]? = some o := ⟨l[c]'(by rw [HN.out]; exact hcN), List.getElem?_eq_getElem _⟩
      obtain ⟨b, off, ha, hcell⟩ := HC.out (by omega)
      subst ha
      obtain ⟨vr, vt, c0, c1, c2, c3, c4, c5, hr, ht, hz⟩ := (hcell c o ho).later hbr
      have HR := Lib.hid hr
      have HTG := Lib.hid ht
      obtain ⟨ar, capr, evr, _⟩ := hr
      obtain ⟨at1, capt, evt, _⟩ := ht
      subst evr evt
      have bz := lt_of_cell c0
      have HO := Lib.hid ho
      have CL := Lib.hid (comp_lt o.id id)
      clear hcell ho
      go_wp2_with fail
      refine (CM.out o _ _ _ HR.out HTG.out).mono ?_
      rintro e w2 ⟨rfl, hb2⟩
      have B2 := below_step hbr (Nat.le_refl _) hb2
      clear c0 c1 c2 c3 c4 c5
      cases hlo : ltB o.id id with
      | true =>
        have hneg : Lib.compareBytes o.id.data.toList id.data.toList < 0 := CL.out.2 hlo
        have I2 : Hid ((∀ t o, t < c + 1 → l[t]? = some o → ltB o.id id = true) ∧ (∀ t o, hi ≤ t → l[t]? = some o → ltB o.id id = false)) := Lib.hid ⟨fun t o' ht h' => by
          rcases Nat.lt_or_eq_of_le (Nat.le_of_lt_succ ht) with h | h
          · exact ltB_trans (HS.out t c o' o h h' HO.out) hlo
          · subst h; rw [HO.out] at h'; cases h'; exact hlo, I.out.2⟩
        generalize Lib.compareBytes o.id.data.toList id.data.toList = cv at hneg CL
        clear hlo CL I
        go_wp2
        go_roundg (hi - (c + 1))
        case measure => omega
        case rel => exact ⟨c + 1, hi, by go_num, rfl, by omega, hin, by omega, B2, I2⟩
      | false =>
        have hneg : ¬ Lib.compareBytes o.id.data.toList id.data.toList < 0 := fun h => by have := CL.out.1 h; rw [hlo] at this; cases this
        have I2 : Hid ((∀ t o, t < lo → l[t]? = some o → ltB o.id id = true) ∧ (∀ t o, c ≤ t → l[t]? = some o → ltB o.id id = false)) := Lib.hid ⟨I.out.1, fun t o' ht h' => by
          rcases Nat.lt_or_eq_of_le ht with h | h
          · cases hx : ltB o'.id id with
            | false => rfl
            | true => have := ltB_trans (HS.out c t o o' h HO.out h') hx; rw [hlo] at this; cases this
          · subst h; rw [HO.out] at h'; cases h'; exact hlo⟩
        generalize Lib.compareBytes o.id.data.toList id.data.toList = cv at hneg CL
        clear hlo CL I
        go_wp2
        go_roundg (c - lo)
        case measure => omega
        case rel => exact ⟨lo, c, rfl, by go_num, by omega, by omega, by omega, B2, I2⟩
    · obtain rfl : lo = hi := by omega
      have F := Lib.hid (bin_found HS.out I.out.1 I.out.2)
      clear I
      by_cases hNl : lo < N
      · have hNz : (lo : Int) < (N : Int) := by omega
        obtain ⟨o, ho⟩ : ∃ o, l[lo]? = some o := ⟨l[lo]'(by rw [HN.out]; exact hNl), List.getElem?_eq_getElem _⟩
        obtain ⟨b, off, ha, hcell⟩ := HC.out (by omega)
        subst ha
        obtain ⟨vr, vt, c0, c1, c2, c3, c4, c5, hr, ht, hz⟩ := (hcell lo o ho).later hbr
        have HR := Lib.hid hr
        have HTG := Lib.hid ht
        obtain ⟨ar, capr, evr, _⟩ := hr
        obtain ⟨at1, capt, evt, _⟩ := ht
        subst evr evt
        have bz := lt_of_cell c0
        have HO := Lib.hid ho
        have CL := Lib.hid (comp_eq o.id id)
        clear hcell ho
        have hltz : ¬ (lo : Int) < (lo : Int) := by omega
        go_wp2_with fail
        refine (CM.out o _ _ _ HR.out HTG.out).mono ?_
        rintro e w2 ⟨rfl, hb2⟩
        have B2 := below_step hbr (Nat.le_refl _) hb2
        clear c0 c1 c2 c3 c4 c5
        by_cases he : o.id = id
        · have HP := Lib.hid (F.out.1 o HO.out he)
          have hc0 : (Lib.compareBytes o.id.data.toList id.data.toList == 0) = true := by rw [beq_iff_eq]; exact CL.out.2 he
          generalize Lib.compareBytes o.id.data.toList id.data.toList = cv at hc0 CL
          clear CL he
          go_wp2
          go_ret2
          exact ⟨⟨lo, true, rfl, by rw [HP.out]; rfl, fun j h => by rw [HP.out] at h; injection h⟩, B2⟩
        · have HP := Lib.hid (show posO id l = none by
            cases hp : posO id l with
            | none => rfl
            | some j => obtain ⟨_, o', ho', e⟩ := F.out.2 j hp; rw [HO.out] at ho'; cases ho'; exact absurd e he)
          have hc0 : (Lib.compareBytes o.id.data.toList id.data.toList == 0) = false := by rw [beq_eq_false_iff_ne]; exact fun h => he (CL.out.1 h)
          generalize Lib.compareBytes o.id.data.toList id.data.toList = cv at hc0 CL
          clear CL he
          go_wp2
          go_ret2
          exact ⟨⟨lo, false, rfl, by rw [HP.out]; rfl, fun j h => by rw [HP.out] at h; cases h⟩, B2⟩
      · have hNz : ¬ (lo : Int) < (N : Int) := by omega
        have HP := Lib.hid (show posO id l = none by
          cases hp : posO id l with
          | none => rfl
          | some j => obtain ⟨_, o, ho, _⟩ := F.out.2 j hp; have := (List.getElem?_eq_some_iff.1 ho).1; rw [HN.out] at this; omega)
        go_wp2
        go_ret2
        exact ⟨⟨lo, false, rfl, by rw [HP.out]; rfl, fun j h => by rw [HP.out] at h; cases h⟩, hbr⟩

theorem mapOK_sorted {l : List ObjD} (h : mapOK l = true) : l.length ≤ 1000000 ∧ ∀ (i j : Nat) (x y : ObjD), i < j → l[i]? = some x → l[j]? = some y → ltB x.id y.id = true := by
  simp only [mapOK, Bool.and_eq_true, decide_eq_true_eq] at h
  exact ⟨h.1, (objs_sorted l _ h.2).2⟩

/-- Contract of atlas.at at a valid map. -/
theorem at_map (v : Value) (l : List ObjD) (id : ByteArray) (w : World) (hv : ObjsIs w v l) (hok : mapOK l = true) :
    Calls Tryz.prog 98 #[.agg #[v], .string id] w (BinPost id l w) := by
  obtain ⟨h1, h2⟩ := mapOK_sorted hok
  have BI := Lib.hid (fun w' hb => bin_any v l id w' (hv.later (w' := w') hb) h1 h2)
  obtain ⟨a, cap, rfl, _⟩ := hv
  clear h2
  go_enter Tryz.func98, Tryz.ntmps98
  go_wp2_with fail
  have B1 : Below w.heap.size w (w.alloc (.cells #[.slice a l.length cap] 35)) := (Below.refl _ w).alloc (Nat.le_refl _) _
  refine (BI.out _ B1).mono ?_
  rintro e w2 ⟨⟨i, b, rfl, hb, hi⟩, hb2⟩
  have B2 := below_step B1 (Nat.le_refl _) hb2
  have HBI := Lib.hid hb
  have HII := Lib.hid hi
  clear hb hi
  go_wp2
  go_ret2
  exact ⟨⟨i, b, rfl, HBI.out, HII.out⟩, B2⟩
end Go.Proofs.YtapllmniplgajaaGreatDoor
