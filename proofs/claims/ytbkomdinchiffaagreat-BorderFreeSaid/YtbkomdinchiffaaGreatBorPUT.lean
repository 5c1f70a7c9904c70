/- atlas.at in a valid map: the place of a name, also where it is not there. atlas.Find. Rows of the call's own, of elements of several cells: parts, copies, slices that overlap. slices.Clone and slices.Insert at objects. atlas.Put of an object that is not there. What Put hands back stays when a map's own block is written. -/
import Derived.Test.YtbkomdinchiffaaGreatCmp
import Derived.Test.YtbkomdinchiffaaGreatAtlV
import Derived.Deep.LoopGhost
import Derived.Test.YtbkomdinchiffaaGreatObRow
import Derived.Laws.AppendOwn
import Derived.Laws.OwnMore
import Derived.Laws.IdiomCopy
import Derived.Laws.Externs
import Derived.Lib.Overlaps
import Derived.Lib.AppendZerosOnto
import Derived.Below
import Derived.Test.YtbkomdinchiffaaGreatBorLaw
import Derived.Test.YtbkomdinchiffaaGreatBorT
import Derived.Test.YtbkomdinchiffaaGreatMixTF
namespace Go.Proofs.YtbkomdinchiffaaGreat
open Go.RowKit

/-- The objects before a place have lesser names, all others do not. -/
def PlaceO (id : ByteArray) (l : List ObjD) (i : Nat) : Prop := i ≤ l.length ∧ (∀ t o, t < i → l[t]? = some o → ltB o.id id = true) ∧ ∀ t o, i ≤ t → l[t]? = some o → ltB o.id id = false
set_option maxHeartbeats 1000000 in
theorem atC_any (id : ByteArray) (kind x y : Int) (vr vt : Value) (refs : List ByteArray) (tags : List TagD) (t : ByteArray) (w : World) (hr : StrRow w vr refs) (ht : TagRow w vt tags) :
    Calls Tryz.prog 97 #[.agg #[.string id, .int .i64 kind, .int .i64 x, .int .i64 y, vr, vt], .string t] w fun e w' => e = .returned (.int .i64 (Lib.compareBytes id.data.toList t.data.toList)) ∧ Below w.heap.size w w' := by
  have SC := Lib.hid (fun w => Tryz.strings_Compare id t w)
  generalize Lib.compareBytes id.data.toList t.data.toList = c at SC ⊢
  obtain ⟨ar, capr, rfl, _⟩ := hr
  obtain ⟨at1, capt, rfl, _⟩ := ht
  go_enter Tryz.func97, Tryz.ntmps97
  go_wp2_with fail
  refine (SC.out _).mono ?_
  rintro e w2 ⟨rfl, rfl⟩
  go_wp2
  go_ret
  exact ⟨rfl, (Below.refl _ _).alloc (Nat.le_refl _) _⟩

def BinPost (id : ByteArray) (l : List ObjD) (w : World) (e : Ending) (w' : World) : Prop :=
  (∃ (i : Nat) (b : Bool), e = .returned (.tuple #[.int .i64 i, .bool b]) ∧ b = (posO id l).isSome ∧ (∀ j, posO id l = some j → i = j) ∧ PlaceO id l i) ∧ Below w.heap.size w w'
set_option maxRecDepth 100000 in
set_option maxHeartbeats 2000000 in
theorem bin_any (v : Value) (l : List ObjD) (id : ByteArray) (w : World) (hv : ObjsIs w v l) (hl : l.length ≤ 1000000) (hs : ∀ (i j : Nat) (x y : ObjD), i < j → l[i]? = some x → l[j]? = some y → ltB x.id y.id = true) :
    Calls Tryz.prog 96 #[v, .string id, .func (.func 97) #[] #[]] w (BinPost id l w) := by
  obtain ⟨a, cap, rfl, hn, hc⟩ := hv
  generalize hN : l.length = N at *
  have HN := Lib.hid hN
  have HC := Lib.hid hc
  have HS := Lib.hid hs
  have CM := Lib.hid (fun (o : ObjD) (vr vt : Value) w h1 h2 => atC_any o.id o.kind o.x o.y vr vt o.refs o.tags id w h1 h2)
  clear hN hc hs
  go_enter Tryz.func96, Tryz.ntmps96
  go_wp2
  go_loopg [9, 10] N (fun kx s9 s10 wr => ∃ lo hi : Nat, s9 = .int .i64 lo ∧ s10 = .int .i64 hi ∧ lo ≤ hi ∧ hi ≤ N ∧ hi - lo ≤ kx ∧ Below w.heap.size w wr ∧
    Hid ((∀ t o, t < lo → l[t]? = some o → ltB o.id id = true) ∧ (∀ t o, hi ≤ t → l[t]? = some o → ltB o.id id = false)))
  case atStart => exact ⟨0, N, rfl, rfl, Nat.zero_le _, Nat.le_refl _, by omega, Below.refl _ _, Lib.hid ⟨fun t o ht => absurd ht (Nat.not_lt_zero _), fun t o h1 h2 => by have := (List.getElem?_eq_some_iff.1 h2).1; rw [HN.out] at this; omega⟩⟩
  case round =>
    obtain ⟨lo, hi, rfl, rfl, hlh, hin, hg, hbr, I⟩ := hrel
    by_cases hlt : lo < hi
    · have hltz : (lo : Int) < (hi : Int) := by omega
      obtain ⟨c, hcc⟩ : ∃ c, c = (lo + hi) / 2 := ⟨_, rfl⟩
      have hczz : ((lo : Int) + (hi : Int)) / 2 = (c : Int) := by omega
      have hlc : lo ≤ c := by omega
      have hch : c < hi := by omega
      have hcN : c < N := by omega
      clear hcc
      obtain ⟨o, ho⟩ : ∃ o, l[c]? = some o := ⟨l[c]'(by rw [HN.out]; exact hcN), List.getElem?_eq_getElem _⟩
      obtain ⟨b, off, ha, hcell⟩ := HC.out (by omega)
      subst ha
      obtain ⟨vr, vt, c0, c1, c2, c3, c4, c5, hr, ht, hz⟩ := (hcell c o ho).later hbr
      have HR := Lib.hid hr
      have HTG := Lib.hid ht
      obtain ⟨ar, capr, evr, _⟩ := hr
      obtain ⟨at1, capt, evt, _⟩ := ht
      subst evr evt
      have bz := lt_of_cell c0
      have HO := Lib.hid ho
      have CL := Lib.hid (comp_lt o.id id)
      clear hcell ho
      go_wp2_with fail
      refine (CM.out o _ _ _ HR.out HTG.out).mono ?_
      rintro e w2 ⟨rfl, hb2⟩
      have B2 := below_step hbr (Nat.le_refl _) hb2
      clear c0 c1 c2 c3 c4 c5
      cases hlo : ltB o.id id with
      | true =>
        have hneg : Lib.compareBytes o.id.data.toList id.data.toList < 0 := CL.out.2 hlo
        have I2 : Hid ((∀ t o, t < c + 1 → l[t]? = some o → ltB o.id id = true) ∧ (∀ t o, hi ≤ t → l[t]? = some o → ltB o.id id = false)) := Lib.hid ⟨fun t o' ht h' => by
          rcases Nat.lt_or_eq_of_le (Nat.le_of_lt_succ ht) with h | h
          · exact ltB_trans (HS.out t c o' o h h' HO.out) hlo
          · subst h; rw [HO.out] at h'; cases h'; exact hlo, I.out.2⟩
        generalize Lib.compareBytes o.id.data.toList id.data.toList = cv at hneg CL
        clear hlo CL I
        go_wp2
        go_roundg (hi - (c + 1))
        case measure => omega
        case rel => exact ⟨c + 1, hi, by go_num, rfl, by omega, hin, by omega, B2, I2⟩
      | false =>
        have hneg : ¬ Lib.compareBytes o.id.data.toList id.data.toList < 0 := fun h => by have := CL.out.1 h; rw [hlo] at this; cases this
        have I2 : Hid ((∀ t o, t < lo → l[t]? = some o → ltB o.id id = true) ∧ (∀ t o, c ≤ t → l[t]? = some o → ltB o.id id = false)) := Lib.hid ⟨I.out.1, fun t o' ht h' => by
          rcases Nat.lt_or_eq_of_le ht with h | h
          · cases hx : ltB o'.id id with
            | false => rfl
            | true => have := ltB_trans (HS.out c t o o' h HO.out h') hx; rw [hlo] at this; cases this
          · subst h; rw [HO.out] at h'; cases h'; exact hlo⟩
        generalize Lib.compareBytes o.id.data.toList id.data.toList = cv at hneg CL
        clear hlo CL I
        go_wp2
        go_roundg (c - lo)
        case measure => omega
        case rel => exact ⟨lo, c, rfl, by go_num, by omega, by omega, by omega, B2, I2⟩
    · obtain rfl : lo = hi := by omega
      have F := Lib.hid (bin_found HS.out I.out.1 I.out.2)
      have HPL : Hid (PlaceO id l lo) := Lib.hid ⟨by rw [HN.out]; exact hin, I.out.1, I.out.2⟩
      clear I
      by_cases hNl : lo < N
      · have hNz : (lo : Int) < (N : Int) := by omega
        obtain ⟨o, ho⟩ : ∃ o, l[lo]? = some o := ⟨l[lo]'(by rw [HN.out]; exact hNl), List.getElem?_eq_getElem _⟩
        obtain ⟨b, off, ha, hcell⟩ := HC.out (by omega)
        subst ha
        obtain ⟨vr, vt, c0, c1, c2, c3, c4, c5, hr, ht, hz⟩ := (hcell lo o ho).later hbr
        have HR := Lib.hid hr
        have HTG := Lib.hid ht
        obtain ⟨ar, capr, evr, _⟩ := hr
        obtain ⟨at1, capt, evt, _⟩ := ht
        subst evr evt
        have bz := lt_of_cell c0
        have HO := Lib.hid ho
        have CL := Lib.hid (comp_eq o.id id)
        clear hcell ho
        have hltz : ¬ (lo : Int) < (lo : Int) := by omega
        go_wp2_with fail
        refine (CM.out o _ _ _ HR.out HTG.out).mono ?_
        rintro e w2 ⟨rfl, hb2⟩
        have B2 := below_step hbr (Nat.le_refl _) hb2
        clear c0 c1 c2 c3 c4 c5
        by_cases he : o.id = id
        · have HP := Lib.hid (F.out.1 o HO.out he)
          have hc0 : (Lib.compareBytes o.id.data.toList id.data.toList == 0) = true := by rw [beq_iff_eq]; exact CL.out.2 he
          generalize Lib.compareBytes o.id.data.toList id.data.toList = cv at hc0 CL
          clear CL he
          go_wp2
          go_ret2
          exact ⟨⟨lo, true, rfl, by rw [HP.out]; rfl, (fun j h => by rw [HP.out] at h; injection h), HPL.out⟩, B2⟩
        · have HP := Lib.hid (show posO id l = none by
            cases hp : posO id l with
            | none => rfl
            | some j => obtain ⟨_, o', ho', e⟩ := F.out.2 j hp; rw [HO.out] at ho'; cases ho'; exact absurd e he)
          have hc0 : (Lib.compareBytes o.id.data.toList id.data.toList == 0) = false := by rw [beq_eq_false_iff_ne]; exact fun h => he (CL.out.1 h)
          generalize Lib.compareBytes o.id.data.toList id.data.toList = cv at hc0 CL
          clear CL he
          go_wp2
          go_ret2
          exact ⟨⟨lo, false, rfl, by rw [HP.out]; rfl, (fun j h => by rw [HP.out] at h; cases h), HPL.out⟩, B2⟩
      · have hNz : ¬ (lo : Int) < (N : Int) := by omega
        have HP := Lib.hid (show posO id l = none by
          cases hp : posO id l with
          | none => rfl
          | some j => obtain ⟨_, o, ho, _⟩ := F.out.2 j hp; have := (List.getElem?_eq_some_iff.1 ho).1; rw [HN.out] at this; omega)
        go_wp2
        go_ret2
        exact ⟨⟨lo, false, rfl, by rw [HP.out]; rfl, (fun j h => by rw [HP.out] at h; cases h), HPL.out⟩, hbr⟩

/-- Contract of atlas.at at a valid map. -/
theorem at_map (v : Value) (l : List ObjD) (id : ByteArray) (w : World) (hv : ObjsIs w v l) (hok : mapOK l = true) :
    Calls Tryz.prog 61 #[.agg #[v], .string id] w (BinPost id l w) := by
  obtain ⟨h1, h2⟩ := mapOK_sorted hok
  have BI := Lib.hid (fun w' hb => bin_any v l id w' (hv.later (w' := w') hb) h1 h2)
  obtain ⟨a, cap, rfl, _⟩ := hv
  clear h2
  go_enter Tryz.func61, Tryz.ntmps61
  go_wp2_with fail
  have B1 : Below w.heap.size w (w.alloc (.cells #[.slice a l.length cap] 24)) := (Below.refl _ w).alloc (Nat.le_refl _) _
  refine (BI.out _ B1).mono ?_
  rintro e w2 ⟨⟨i, b, rfl, hb, hi, hpl⟩, hb2⟩
  have B2 := below_step B1 (Nat.le_refl _) hb2
  have HBI := Lib.hid hb
  have HII := Lib.hid hi
  have HPL := Lib.hid hpl
  clear hb hi hpl
  go_wp2
  go_ret2
  exact ⟨⟨i, b, rfl, HBI.out, HII.out, HPL.out⟩, B2⟩
end Go.Proofs.YtbkomdinchiffaaGreat

namespace Go.Proofs.YtbkomdinchiffaaGreat
open Go.RowKit Go.Sort

/-- The place of the object with a name, or -1. -/
def findI (id : ByteArray) (l : List ObjD) : Int := match posO id l with | some i => (i : Int) | none => -1
theorem findI_step (id : ByteArray) {l : List ObjD} {k : Nat} {o : ObjD} (h : l[k]? = some o) (hp : posO id l = (posO id (l.drop k)).map (· + k)) :
    (o.id = id → findI id l = (k : Int)) ∧ (¬ o.id = id → posO id l = (posO id (l.drop (k + 1))).map (· + (k + 1))) := by
  obtain ⟨hk, e⟩ := List.getElem?_eq_some_iff.1 h
  have hd : l.drop k = o :: l.drop (k + 1) := by rw [List.drop_eq_getElem_cons hk, e]
  rw [hd, posO] at hp
  constructor
  · intro he; unfold findI; rw [hp, if_pos he]; simp
  · intro he
    rw [hp, if_neg he, Option.map_map]
    congr 1
    funext x
    simp only [Function.comp_apply]; omega
set_option maxHeartbeats 1000000 in
theorem find1_any (x : ObM) (id : ByteArray) (Bs : Nat) (w : World) (hx : ObOK w x) (hs : w.heap[Bs]? = some (.cells #[.string id] 9)) :
    Calls Tryz.prog 59 #[.agg #[.string x.1.id, .int .i64 x.1.kind, .int .i64 x.1.x, .int .i64 x.1.y, x.2.1, x.2.2], .pointer (some ⟨Bs, 0, none⟩)] w fun e w' => e = .returned (.bool (decide (x.1.id = id))) ∧ Below w.heap.size w w' := by
  obtain ⟨o, vr, vt⟩ := x
  obtain ⟨⟨ar, capr, evr, _⟩, ⟨at1, capt, evt, _⟩, _⟩ := hx
  simp only [] at evr evt ⊢
  subst evr evt
  have sz := lt_of_block hs
  have s0 := cell_of_row w _ 0 _ _ _ hs
  simp only [List.getElem?_toArray, List.getElem?_cons_zero] at s0
  have hs' := Lib.hid hs
  clear hs
  by_cases e : o.id = id
  · rw [decide_eq_true e]
    rw [e]
    go_enter Tryz.func59, Tryz.ntmps59
    go_wp2
    go_ret
    exact ⟨rfl, (by repeat' (first | exact Below.refl _ _ | refine Below.drew ?_ | refine Below.drewN' ?_ | refine Below.setCell ?_ (by first | omega | (simp; done) | exact Below.size (by assumption) | (simp; omega)) _ | refine Below.alloc ?_ (by first | omega | (simp; done) | exact Below.size (by assumption) | (simp; omega)) _ | refine Below.trans ?_ (Below.mono (by assumption) ?_) | (first | omega | (simp; done) | exact Below.size (by assumption) | (simp; omega))))⟩
  · rw [decide_eq_false e]
    have n1 : (o.id.toList == id.toList) = false := by
      rw [ByteArray.toList_eq, ByteArray.toList_eq]
      exact beq_false_of_ne (fun c => e (ByteArray.ext (Array.toList_inj.mp c)))
    go_enter Tryz.func59, Tryz.ntmps59
    go_wp2
    go_ret
    exact ⟨rfl, (by repeat' (first | exact Below.refl _ _ | refine Below.drew ?_ | refine Below.drewN' ?_ | refine Below.setCell ?_ (by first | omega | (simp; done) | exact Below.size (by assumption) | (simp; omega)) _ | refine Below.alloc ?_ (by first | omega | (simp; done) | exact Below.size (by assumption) | (simp; omega)) _ | refine Below.trans ?_ (Below.mono (by assumption) ?_) | (first | omega | (simp; done) | exact Below.size (by assumption) | (simp; omega))))⟩
set_option maxHeartbeats 2000000 in
theorem idxFind_any (v : Value) (L : List ObM) (id : ByteArray) (Bs : Nat) (w : World) (hv : RowE encOb 6 w v L) (hok : ∀ x ∈ L, ObOK w x) (hl : L.length ≤ 2000000000) (hs : w.heap[Bs]? = some (.cells #[.string id] 9)) :
    Calls Tryz.prog 58 #[v, .func (.func 59) #[] #[.pointer (some ⟨Bs, 0, none⟩)]] w fun e w' => e = .returned (.int .i64 (findI id (L.map (·.1)))) ∧ Below w.heap.size w w' := by
  have FR := Lib.hid (fun x W (h : ObOK w x) (hb : Below w.heap.size w W) => find1_any x id Bs W (h.later hb) (row_later hb hs))
  have HK := Lib.hid hok
  obtain ⟨a, cap, rfl, hc⟩ := hv
  obtain ⟨N, hN⟩ : ∃ N, L.length = N := ⟨_, rfl⟩
  rw [hN] at hc hl ⊢
  have HN := Lib.hid hN
  have HC := Lib.hid hc
  obtain ⟨res, hres⟩ : ∃ z, z = findI id (L.map (·.1)) := ⟨_, rfl⟩
  rw [← hres]
  have HR := Lib.hid hres
  clear hN hc hres hs hok
  go_enter Tryz.func58, Tryz.ntmps58
  go_wp2
  go_loopw [8] (fun i wr => ∃ k : Nat, k ≤ N ∧ i = .int .i64 k ∧ Hid (posO id (L.map (·.1)) = (posO id ((L.map (·.1)).drop k)).map (· + k)) ∧ Below w.heap.size w wr) (fun i _ => N - (intOf i).toNat)
  case atStart => exact ⟨0, by omega, rfl, Lib.hid (by simp), Below.refl _ _⟩
  case round =>
    obtain ⟨k, hk, rfl, HT, hbr⟩ := hrel
    have hzr := hbr.size
    by_cases hlt : k < N
    · obtain ⟨x, hx⟩ : ∃ x, L[k]? = some x := ⟨L[k]'(by rw [HN.out]; exact hlt), List.getElem?_eq_getElem _⟩
      obtain ⟨b, off, ha, hcell⟩ := HC.out (by omega)
      subst ha
      have d0' := cell_later hbr (hcell k x hx 0 _ rfl)
      have d0 : wr.cell? ⟨b, off + k * 6, none⟩ = some (.string x.1.id) := d0'
      have d1 := cell_later hbr (hcell k x hx 1 _ rfl)
      have d2 := cell_later hbr (hcell k x hx 2 _ rfl)
      have d3 := cell_later hbr (hcell k x hx 3 _ rfl)
      have d4 := cell_later hbr (hcell k x hx 4 _ rfl)
      have d5 := cell_later hbr (hcell k x hx 5 _ rfl)
      have hox := HK.out x (List.mem_of_getElem? hx)
      have F1 := Lib.hid (FR.out x wr hox hbr)
      have ST := Lib.hid (findI_step id (l := L.map (·.1)) (k := k) (o := x.1) (by rw [List.getElem?_map, hx]; rfl) HT.out)
      have bz := lt_of_cell d0
      obtain ⟨o, vr, vt⟩ := x
      obtain ⟨⟨ar, capr, evr, _⟩, ⟨at1, capt, evt, _⟩, _⟩ := hox
      simp only [] at evr evt d0 d1 d2 d3 d4 d5 F1 ST
      subst evr evt
      clear hcell d0' hx
      obtain ⟨bd, hbd⟩ : ∃ z, z = decide (o.id = id) := ⟨_, rfl⟩
      rw [← hbd] at F1
      have HBD := Lib.hid hbd
      clear hbd
      go_wp2_with fail
      refine F1.out.mono ?_
      rintro e w2 ⟨rfl, hb2⟩
      have B2 := below_step hbr (Nat.le_refl _) hb2
      clear d0 d1 d2 d3 d4 d5 hb2 F1
      cases bd with
      | true =>
        have HE := Lib.hid (show res = (k : Int) by rw [HR.out]; exact ST.out.1 (of_decide_eq_true HBD.out.symm))
        go_wp2
        go_ret
        exact ⟨by rw [HE.out] <;> rfl, B2⟩
      | false =>
        have HG := Lib.hid (ST.out.2 (of_decide_eq_false HBD.out.symm))
        go_wp2
        go_roundw
        case rel => exact ⟨k + 1, by omega, by go_num, HG, B2⟩
        case measure => simp [intOf]; omega
    · obtain rfl : k = N := by omega
      have HE := Lib.hid (show res = -1 by
        rw [HR.out]
        have := HT.out
        rw [List.drop_eq_nil_of_le (by rw [List.length_map, HN.out]; exact Nat.le_refl _)] at this
        unfold findI; rw [this]; rfl)
      go_wp2
      go_ret
      exact ⟨by rw [HE.out] <;> rfl, hbr⟩
theorem findO_any (v : Value) (l : List ObjD) (id : ByteArray) (w : World) (hv : ObjsIs w v l) (hl : l.length ≤ 2000000000) :
    Calls Tryz.prog 25 #[.agg #[v], .string id] w fun e w' => e = .returned (.int .i64 (findI id l)) ∧ Below w.heap.size w w' := by
  obtain ⟨L, hL, rfl, hok⟩ := objs_row hv
  rw [List.length_map] at hl
  have FN := Lib.hid (fun Bs W hb => idxFind_any v L id Bs W (hL.later hb) (fun x hx => (hok x hx).later hb) hl)
  obtain ⟨a, cap, rfl, hc⟩ := hL
  generalize findI id (L.map (·.1)) = res at FN ⊢
  clear hv hok hc
  go_enter Tryz.func25, Tryz.ntmps25
  go_wp2_with fail
  have BX : Below w.heap.size w ((w.alloc (.cells #[.slice a L.length cap] 24)).alloc (.cells #[.string id] 9)) := (by repeat' (first | exact Below.refl _ _ | refine Below.drew ?_ | refine Below.drewN' ?_ | refine Below.setCell ?_ (by first | omega | (simp; done) | exact Below.size (by assumption) | (simp; omega)) _ | refine Below.alloc ?_ (by first | omega | (simp; done) | exact Below.size (by assumption) | (simp; omega)) _ | refine Below.trans ?_ (Below.mono (by assumption) ?_) | (first | omega | (simp; done) | exact Below.size (by assumption) | (simp; omega))))
  have HX := row_new1 w (.cells #[.slice a L.length cap] 24) (.cells #[.string id] 9)
  refine (FN.out _ _ BX HX).mono ?_
  rintro e w2 ⟨rfl, hb⟩
  have B2 := BX.trans (hb.mono BX.size)
  go_wp2
  go_ret
  exact ⟨rfl, B2⟩
end Go.Proofs.YtbkomdinchiffaaGreat

namespace Go.Proofs.YtbkomdinchiffaaGreat
open Go.RowKit Go.Lib

section
variable {P : Program}
theorem run_copy_k (w : World) (dT sT ty elem : TypeId) (k b o dLen dCap : Nat) (a : Addr) (sLen sCap : Nat) (cs : List Value)
    (hu : P.underlying dT = some (.slice elem)) (hs : (P.info? elem).map (·.size) = some k) (hn : cs.length = Nat.min sLen dLen * k)
    (hsrc : ∀ j v, cs[j]? = some v → w.cell? (a.add j) = some v) (hc : ∀ j, j < cs.length → (w.cell? ⟨b, o + j, none⟩).isSome = true) (hf : ∀ j, j < cs.length → w.frozen? ⟨b, o + j, none⟩ = false) (h1 : ∀ v ∈ cs, v.oneCell' = true) :
    (Builtin.copy_ #[dT, sT] ty #[.slice (some ⟨b, o, none⟩) dLen dCap, .slice (some a) sLen sCap]).run P w = .ok (goInt (Nat.min sLen dLen)) (w.setCells b o cs) := by
  have hl := run_loadCells_list (P := P) w a cs hsrc
  have hst := run_storeCells_cells (P := P) b o cs 0 w (by simpa using hc) (by simpa using hf) h1
  cases hq : P.info? elem with
  | none => simp [hq] at hs
  | some i =>
    have hi : i.size = k := by simpa [hq] using hs
    simp [Builtin.copy_, run_underlying hu, Builtin.lenOf, Builtin.firstCells, sizeOf, typeInfo, hq, hi, ← hn, hl, hst]
theorem wp_copy_own (w : World) {o : Oper} {a : Act} {K : Act → World → Prop} {Q : Exit → Act → World → Prop} (d s : Operand) (t t' : TypeId)
    (ho : o.op = .call { callee := .builtin .copy, args := #[d, s], argTypes := #[t, t'] }) (v u : Value) (hd : a.eval d = v) (hs : a.eval s = u) {v' : Value} {w' : World}
    (hr : (Builtin.copy_ #[t, t'] o.type #[v, u]).run P w = .ok v' w') (h : K (a.put o.dst v') w') : o.wp P a w K Q := by
  unfold Oper.wp execOp
  simp only [ho, resolve, invoke, builtin, Sem.run_bind, Sem.run_pure, Result.andThen_ok, List.map_toArray, List.map_cons, List.map_nil, hd, hs, hr]
  exact h
theorem wpList_copy_own (w : World) {ops : Array Oper} {rest : List Oper} {o : Oper} {a : Act} {Q : Exit → Act → World → Prop} (hgd : o.guard = none) (d s : Operand) (t t' : TypeId)
    (ho : o.op = .call { callee := .builtin .copy, args := #[d, s], argTypes := #[t, t'] }) (v u : Value) (hd : a.eval d = v) (hs : a.eval s = u) {v' : Value} {w' : World}
    (hr : (Builtin.copy_ #[t, t'] o.type #[v, u]).run P w = .ok v' w') (h : wpList P ops Q rest (a.put o.dst v') w') : wpList P ops Q (o :: rest) a w :=
  wpList_plain hgd fun _ hK => wp_copy_own w d s t t' ho v u hd hs hr (hK _ _ h)
theorem step_copy_own {ops : Array Oper} {o : Oper} {a : Act} {w : World} {K : Act → World → Prop} {Q : Exit → Act → World → Prop} {E : Prop}
    (hg : o.guard = none) (d x : Operand) (dT sT : TypeId) (hop : o.op = Op.call { callee := Callee.builtin Builtin.copy, args := #[d, x], argTypes := #[dT, sT] })
    (v u : Value) (hd : a.eval d = v) (hx : a.eval x = u) {v' : Value} {w' : World} (hr : (Builtin.copy_ #[dT, sT] o.type #[v, u]).run P w = .ok v' w') (hK : K (a.put o.dst v') w') :
    if Region.wanted o (yielded ops a.tmps) = true then Oper.wp P o a w K Q else E := by
  have hw : Region.wanted o (yielded ops a.tmps) = true := by simp [Region.wanted, hg]
  rw [if_pos hw]
  unfold Oper.wp
  simp [execOp, hop, resolve, invoke, builtin, hd, hx, hr, Result.andThen]
  exact hK
end

section
variable {base : Nat} {e : TypeId} {size g n cap : Nat}
theorem set_parts (xs : List Value) (o : Nat) (v : Value) (r : List Value) (ho : o < xs.length) :
    (xs.set o v).take (o + 1) ++ r ++ (xs.set o v).drop (o + 1 + r.length) = xs.take o ++ (v :: r) ++ xs.drop (o + (v :: r).length) := by
  have h1 : (xs.set o v).take (o + 1) = xs.take o ++ [v] := by
    rw [List.take_succ_eq_append_getElem (by rw [List.length_set]; exact ho), List.getElem_set_self]
    congr 1
    rw [List.take_set_of_le (Nat.le_refl _)]
  have h2 : (xs.set o v).drop (o + 1 + r.length) = xs.drop (o + 1 + r.length) := List.drop_set_of_lt (by omega)
  rw [h1, h2, List.length_cons]
  simp only [List.append_assoc, List.cons_append, List.nil_append]
  rw [show o + 1 + r.length = o + (r.length + 1) by omega]
/-- A part of an own row, written over. -/
theorem own_setCells : ∀ (vs : List Value) (o : Nat) (xs : List Value) (w : World), w.ownsRow base e size (.slice (some ⟨g, 0, none⟩) n cap) n xs → o + vs.length ≤ n * size →
    (w.setCells g o vs).ownsRow base e size (.slice (some ⟨g, 0, none⟩) n cap) n (xs.take o ++ vs ++ xs.drop (o + vs.length)) ∧ w.grownBy (w.setCells g o vs) (some g)
  | [], o, xs, w, h, _ => by
    refine ⟨?_, rfl, rfl, rfl, Nat.le_refl _, fun _ _ _ => rfl⟩
    simpa [World.setCells] using h
  | v :: r, o, xs, w, h, hl => by
    obtain ⟨h1, h2⟩ := h.stored o v
    have hx := h.1
    rw [List.length_cons] at hl
    obtain ⟨h3, h4⟩ := own_setCells r (o + 1) _ _ h1 (by omega)
    rw [set_parts xs o v r (by omega)] at h3
    refine ⟨h3, h2.os ▸ h4.os, ?_, ?_, ?_, ?_⟩
    · exact h4.tape.trans h2.tape
    · exact h4.output.trans h2.output
    · exact Nat.le_trans h2.size h4.size
    · intro k hk hne
      exact (h4.block k (Nat.lt_of_lt_of_le hk h2.size) hne).trans (h2.block k hk hne)
/-- Its first elements alone. -/
theorem own_less {w : World} {xs : List Value} (h : w.ownsRow base e size (.slice (some ⟨g, 0, none⟩) n cap) n xs) {i : Nat} (hi : i ≤ n) : w.ownsRow base e size (.slice (some ⟨g, 0, none⟩) i cap) i (xs.take (i * size)) := by
  have hm := Nat.mul_le_mul_right size hi
  refine ⟨by rw [List.length_take, h.1]; exact Nat.min_eq_left hm, Or.inr ?_⟩
  rcases h.2 with ⟨h', _⟩ | ⟨g', cap', cur, h', hb, hg, hnc, hcm, hcs, ht⟩
  · cases h'
  · injection h' with h1 h2 h3
    injection h1 with h1
    injection h1 with h1
    subst h1 h3
    exact ⟨g, cap, cur, rfl, hb, hg, Nat.le_trans hi hnc, hcm, hcs, by rw [← ht, List.take_take, Nat.min_eq_left hm]⟩
/-- .. and more of them, where there is room. -/
theorem own_more {w : World} {xs : List Value} (h : w.ownsRow base e size (.slice (some ⟨g, 0, none⟩) n cap) n xs) {m : Nat} (hn : n ≤ m) (hm : m ≤ cap) : ∃ sp : List Value, sp.length = (m - n) * size ∧ w.ownsRow base e size (.slice (some ⟨g, 0, none⟩) m cap) m (xs ++ sp) := by
  rcases h.2 with ⟨h', _⟩ | ⟨g', cap', cur, h', hb, hg, hnc, hcm, hcs, ht⟩
  · cases h'
  · injection h' with h1 h2 h3
    injection h1 with h1
    injection h1 with h1
    subst h1 h3
    have h5 := Nat.mul_le_mul_right size hn
    have h6 := Nat.mul_le_mul_right size hm
    have e1 : cur.toList.take (m * size) = xs ++ (cur.toList.drop (n * size)).take ((m - n) * size) := by
      rw [← ht, show m * size = n * size + (m - n) * size by rw [← Nat.add_mul]; congr 1; omega, List.take_add]
    have hl : ((cur.toList.drop (n * size)).take ((m - n) * size)).length = (m - n) * size := by
      rw [List.length_take, List.length_drop, Array.length_toList, hcs, Nat.sub_mul]; omega
    refine ⟨_, hl, ?_, Or.inr ⟨g, cap, cur, rfl, hb, hg, hm, hcm, hcs, e1⟩⟩
    rw [List.length_append, hl, h.1, ← Nat.add_mul]; congr 1; omega
theorem own_shape {w : World} {xs : List Value} (h : w.ownsRow base e size (.slice (some ⟨g, 0, none⟩) n cap) n xs) : w.shape? g = some (e, cap * size) ∧ n ≤ cap ∧ cap ≤ maxLen := by
  rcases h.2 with ⟨h', _⟩ | ⟨g', cap', cur, h', hb, hg, hnc, hcm, hcs, ht⟩
  · cases h'
  · injection h' with h1 h2 h3
    injection h1 with h1
    injection h1 with h1
    subst h1 h3
    refine ⟨?_, hnc, hcm⟩
    rw [← hcs]
    simp [World.shape?, hg]
/-- A copy into an own row. -/
theorem run_copy_into {P : Program} {w : World} {xs : List Value} (h : w.ownsRow base e size (.slice (some ⟨g, 0, none⟩) n cap) n xs) (dT sT ty : TypeId) (hdT : P.underlying dT = some (.slice e)) (hs : (P.info? e).map (·.size) = some size)
    (o dLen dCap : Nat) (a : Addr) (sLen sCap : Nat) (cs : List Value) (hn : cs.length = Nat.min sLen dLen * size) (hsrc : ∀ j v, cs[j]? = some v → w.cell? (a.add j) = some v) (ho : o + cs.length ≤ n * size) (h1 : ∀ v ∈ cs, v.oneCell' = true) :
    (Builtin.copy_ #[dT, sT] ty #[.slice (some ⟨g, o, none⟩) dLen dCap, .slice (some a) sLen sCap]).run P w = .ok (goInt (Nat.min sLen dLen)) (w.setCells g o cs) ∧
      (w.setCells g o cs).ownsRow base e size (.slice (some ⟨g, 0, none⟩) n cap) n (xs.take o ++ cs ++ xs.drop (o + cs.length)) ∧ w.grownBy (w.setCells g o cs) (some g) := by
  refine ⟨run_copy_k w dT sT ty e size g o dLen dCap a sLen sCap cs hdT hs hn hsrc (fun j hj => ?_) (fun j hj => h.frozenAt _) h1, own_setCells cs o xs w h ho⟩
  rw [h.cellAt _ (by omega), List.getElem?_eq_getElem (by rw [h.1]; omega)]; rfl
end
end Go.Proofs.YtbkomdinchiffaaGreat

namespace Go.Proofs.YtbkomdinchiffaaGreat
open Go.RowKit Go.Sort

set_option maxRecDepth 100000 in
set_option maxHeartbeats 1000000 in
theorem cloneO_any (v : Value) (L : List ObM) (w : World) (hl : L.length ≤ 1000) (hv : RowE encOb 6 w v L) (hok : ∀ x ∈ L, ObOK w x) :
    Calls Tryz.prog 62 #[v] w fun e w' => ∃ v', e = .returned v' ∧ w'.ownsRow w.heap.size 59 6 v' L.length (L.flatMap encOb) ∧ Below w.heap.size w w' := by
  obtain ⟨i0, hi, hi0, hi1, hi2⟩ := info_parts infoOb
  have q22 : ∀ (w : World) (a : Option Addr) (n c n' c' : Nat), (binOp .eql 22 (.slice a n c) (.slice none n' c')).run Tryz.prog w = .ok (.bool a.isNone) w := fun w a n c n' c' => Lib.run_eql_slice_nil w _ _ a n c n' c' Tryz.underlying22
  have HS := Lib.hid (fun (a : Option Addr) (c : Nat) (W : World) (h : RowE encOb 6 W (.slice a L.length c) L) => row_src encOb_len (by omega) h)
  have HR := Lib.hid hv
  obtain ⟨a, cap, rfl, hc⟩ := hv
  cases a with
  | none =>
    have h0 : L.length = 0 := by
      rcases Nat.eq_zero_or_pos L.length with h | h
      · exact h
      · obtain ⟨b, off, h1, _⟩ := hc h; cases h1
    have hl0 : L = [] := List.length_eq_zero_iff.1 h0
    subst hl0
    clear hc HR HS
    go_enter Tryz.func62, Tryz.ntmps62
    go_wp2
    go_ret
    exact ⟨_, rfl, ⟨rfl, Or.inl ⟨rfl, rfl⟩⟩, Below.refl _ _⟩
  | some ad =>
    have HLN := Lib.hid (flat_length encOb 6 encOb_len L)
    have H1 := Lib.hid (obs_one hok)
    have BA : Below w.heap.size w (w.alloc (.cells #[] 59)) := (Below.refl _ _).alloc (Nat.le_refl _) _
    have S5 := Lib.hid (HS.out _ _ _ (HR.out.later BA))
    clear hc HS HR hok
    generalize L.flatMap encOb = news at S5 HLN H1 ⊢
    generalize L.length = n at hl S5 HLN ⊢
    go_enter Tryz.func62, Tryz.ntmps62
    go_wp2_with (at_builtin; refine wpList_append_src rfl _ _ 22 rfl w.heap.size 59 i0 (.agg #[.string ⟨#[]⟩, .int .i64 0, .int .i64 0, .int .i64 0, .slice none 0 0, .slice none 0 0]) 6 88 Tryz.underlying22 hi hi0 hi1 hi2 rfl (by decide) _ _ _ rfl (World.ownsRow_made w #[] 0 (Nat.le_refl _) (Nat.zero_le _) rfl) _ _ S5.out HLN.out H1.out (by unfold maxLen; omega) (by omega) BA.size ?_; intro v' w2 hown hgrow hbel)
    go_ret
    exact ⟨v', rfl, by simpa using hown, BA.trans hbel⟩

theorem grown_trans {a b c : World} {row : Option Nat} (h : a.grownBy b row) (h2 : b.grownBy c row) : a.grownBy c row :=
  ⟨h2.os.trans h.os, h2.tape.trans h.tape, h2.output.trans h.output, Nat.le_trans h.size h2.size, fun k hk hne => (h2.block k (Nat.lt_of_lt_of_le hk h.size) hne).trans (h.block k hk hne)⟩
/-- The row with one element more. -/
def insV (xs news : List Value) (i : Nat) : List Value := xs.take (i * 6) ++ news ++ xs.drop (i * 6)
set_option maxRecDepth 100000 in
set_option maxHeartbeats 4000000 in
/-- At the end. -/
theorem insEnd_any (v : Value) (n vb base : Nat) (xs news : List Value) (w : World) (hown : w.ownsRow base 59 6 v n xs) (hn : n ≤ 1000000) (hrow : w.heap[vb]? = some (.cells news.toArray 59)) (hnl : news.length = 6) (h1n : ∀ u ∈ news, u.oneCell' = true) (hbw : base ≤ w.heap.size) :
    Calls Tryz.prog 63 #[v, .int .i64 n, .slice (some ⟨vb, 0, none⟩) 1 1] w fun e w' => ∃ v', e = .returned v' ∧ w'.ownsRow base 59 6 v' (n + 1) (xs ++ news) ∧ w.grownBy w' v.ownBlock := by
  obtain ⟨i0, hi0', hi0, hi1, hi2⟩ := info_parts infoOb
  have mixed : Tryz.prog.follows .mixedOrders = true := by kernel_rfl
  have hsz : (Tryz.prog.info? 59).map (·.size) = some 6 := by kernel_rfl
  have HO := Lib.hid hown
  have HC := Lib.hid (cells_row hrow)
  rcases hown.2 with ⟨rfl, rfl⟩ | ⟨g, cap, cur, rfl, hb, hg, hnc, hcm, hcs, ht⟩
  · clear hown hrow
    go_enter Tryz.func63, Tryz.ntmps63
    go_wp2_with (at_builtin; refine wpList_append_own _ rfl _ _ 22 rfl base 59 i0 (.agg #[.string ⟨#[]⟩, .int .i64 0, .int .i64 0, .int .i64 0, .slice none 0 0, .slice none 0 0]) 6 88 Tryz.underlying22 hi0' hi0 hi1 hi2 rfl (by decide) _ _ _ rfl HO.out ⟨vb, 0, none⟩ 1 1 news rfl hnl HC.out h1n (by unfold maxLen; omega) (by omega) hbw ?_; intro v' w2 hown2 hgrow _)
    all_goals (go_ret; exact ⟨v', rfl, hown2, hgrow⟩)
  · clear hown hrow hg hcs ht
    go_enter Tryz.func63, Tryz.ntmps63
    go_wp2_with (at_builtin; refine wpList_append_own _ rfl _ _ 22 rfl base 59 i0 (.agg #[.string ⟨#[]⟩, .int .i64 0, .int .i64 0, .int .i64 0, .slice none 0 0, .slice none 0 0]) 6 88 Tryz.underlying22 hi0' hi0 hi1 hi2 rfl (by decide) _ _ _ rfl HO.out ⟨vb, 0, none⟩ 1 1 news rfl hnl HC.out h1n (by unfold maxLen; omega) (by omega) hbw ?_; intro v' w2 hown2 hgrow _)
    all_goals (go_ret; exact ⟨v', rfl, hown2, hgrow⟩)

theorem ins_parts {xs news : List Value} {n i : Nat} (hx : xs.length = n * 6) (hnl : news.length = 6) (hi : i < n) (sp : List Value) (hsp : sp.length = 6) :
    (((xs ++ sp).take ((i + 1) * 6) ++ xs.drop (i * 6) ++ (xs ++ sp).drop ((i + 1) * 6 + (xs.drop (i * 6)).length)).take (i * 6) ++ news ++ ((xs ++ sp).take ((i + 1) * 6) ++ xs.drop (i * 6) ++ (xs ++ sp).drop ((i + 1) * 6 + (xs.drop (i * 6)).length)).drop (i * 6 + news.length)) = insV xs news i := by
  unfold insV
  have h1 : (xs.drop (i * 6)).length = n * 6 - i * 6 := by rw [List.length_drop, hx]
  have h2 : (xs ++ sp).drop ((i + 1) * 6 + (xs.drop (i * 6)).length) = [] := by
    rw [h1]; exact List.drop_eq_nil_of_le (by rw [List.length_append, hx, hsp]; omega)
  have h3 : (xs ++ sp).take ((i + 1) * 6) = xs.take ((i + 1) * 6) := List.take_append_of_le_length (by omega)
  rw [h2, h3, List.append_nil, hnl]
  congr 1
  · congr 1
    rw [List.take_append_of_le_length (by rw [List.length_take]; omega), List.take_take, Nat.min_eq_left (by omega)]
  · rw [show i * 6 + 6 = (xs.take ((i + 1) * 6)).length by rw [List.length_take]; omega]
    exact List.drop_left

set_option maxRecDepth 100000 in
set_option maxHeartbeats 4000000 in
/-- There is room. -/
theorem insRoom_any (g n cap i vb base : Nat) (xs news : List Value) (w : World) (hown : w.ownsRow base 59 6 (.slice (some ⟨g, 0, none⟩) n cap) n xs) (hi : i < n) (hroom : n + 1 ≤ cap) (hn : n ≤ 1000000) (h1x : ∀ u ∈ xs, u.oneCell' = true) (hrow : w.heap[vb]? = some (.cells news.toArray 59)) (hnl : news.length = 6) (h1n : ∀ u ∈ news, u.oneCell' = true) (hne : vb ≠ g) :
    Calls Tryz.prog 63 #[.slice (some ⟨g, 0, none⟩) n cap, .int .i64 i, .slice (some ⟨vb, 0, none⟩) 1 1] w fun e w' => ∃ v', e = .returned v' ∧ w'.ownsRow base 59 6 v' (n + 1) (insV xs news i) ∧ w.grownBy w' (some g) := by
  obtain ⟨i0, hi0', hi0, hi1, hi2⟩ := info_parts infoOb
  have mixed : Tryz.prog.follows .mixedOrders = true := by kernel_rfl
  have hsz : (Tryz.prog.info? 59).map (·.size) = some 6 := by kernel_rfl
  obtain ⟨hshape, hnc, hcm⟩ := own_shape hown
  obtain ⟨sp, hspl, hown2⟩ := own_more hown (Nat.le_succ n) hroom
  have hspl : sp.length = 6 := by rw [hspl]; omega
  have hx := hown.1
  have hbg : base ≤ g := (hown.lt g rfl).1
  have hz1 : ¬ ((i : Int) = (n : Int)) := by omega
  have hdl : (xs.drop (i * 6)).length = (n - i) * 6 := by rw [List.length_drop, hx, Nat.sub_mul]
  have hrf : w.frozen? ⟨vb, 0, none⟩ = false := frozen_of_row w _ 0 _ _ hrow
  have hre : w.frozen? ⟨vb, 6, none⟩ = false := frozen_of_row w _ 6 _ _ hrow
  have hrs : w.shape? vb = some (59, 6) := by simp [World.shape?, hrow, hnl]
  have hov : ∀ lb cb, (callFunc 99 #[.slice (some ⟨vb, 0, none⟩) 1 1, .slice (some ⟨g, (i + 1) * 6, none⟩) lb cb]).run Tryz.prog w = .ok (.value (.bool false)) w := fun lb cb => by
    rw [run_callFunc_extern Tryz.func99 (by kernel_rfl) (by kernel_rfl) (by kernel_rfl) (e := Extern.SlicesOverlaps.overlaps #[22, 22] #[4]) (by kernel_rfl),
      Lib.run_overlaps_apart w 22 4 59 Tryz.underlying22 6 (fun w => by simp [sizeOf, typeInfo, hi0', hi1]) ⟨vb, 0, none⟩ ⟨g, (i + 1) * 6, none⟩ 1 1 lb cb hne 59 59 6 (cap * 6) hrs hshape (by omega) hrf hre]
    rfl
  have hmin : Nat.min (n + 1 - i) (n + 1 - (i + 1)) = n - i := by simp only [Nat.min_def]; split <;> omega
  have hmin2 : Nat.min 1 (n + 1 - i) = 1 := by simp only [Nat.min_def]; split <;> omega
  have hc1 : ∀ ty dc sc, (Builtin.copy_ #[22, 22] ty #[.slice (some ⟨g, (i + 1) * 6, none⟩) (n + 1 - (i + 1)) dc, .slice (some ⟨g, i * 6, none⟩) (n + 1 - i) sc]).run Tryz.prog w.drew = .ok (goInt (n - i : Nat)) (w.drew.setCells g ((i + 1) * 6) (xs.drop (i * 6))) := fun ty dc sc => by
    rw [← hmin]
    exact (run_copy_into (P := Tryz.prog) (w := w.drew) hown2 22 22 ty Tryz.underlying22 hsz ((i + 1) * 6) (n + 1 - (i + 1)) dc ⟨g, i * 6, none⟩ (n + 1 - i) sc (xs.drop (i * 6)) (by rw [hmin]; exact hdl) (fun j v hj => by
      have hjl := (List.getElem?_eq_some_iff.1 hj).1
      rw [Addr.add_lit]
      have := World.ownsRow.cellAt (w := w.drew) hown2 (i * 6 + j) (by omega)
      rw [this, List.getElem?_append_left (by omega)]
      rwa [List.getElem?_drop] at hj) (by omega) (fun v hv => h1x v (List.mem_of_mem_drop hv))).1
  have hown3 := own_setCells (w := w.drew) (xs.drop (i * 6)) ((i + 1) * 6) _ hown2 (by omega)
  obtain ⟨W1, hW1⟩ : ∃ W1, W1 = w.drew.setCells g ((i + 1) * 6) (xs.drop (i * 6)) := ⟨_, rfl⟩
  rw [← hW1] at hc1 hown3
  obtain ⟨X1, hX1⟩ : ∃ X1, X1 = (xs ++ sp).take ((i + 1) * 6) ++ xs.drop (i * 6) ++ (xs ++ sp).drop ((i + 1) * 6 + (xs.drop (i * 6)).length) := ⟨_, rfl⟩
  have hIP : X1.take (i * 6) ++ news ++ X1.drop (i * 6 + news.length) = insV xs news i := by rw [hX1]; exact ins_parts hx hnl hi sp hspl
  rw [← hX1] at hown3
  have hc2 : ∀ (W : World), W.heap = W1.heap → ∀ ty dc, (Builtin.copy_ #[22, 22] ty #[.slice (some ⟨g, i * 6, none⟩) (n + 1 - i) dc, .slice (some ⟨vb, 0, none⟩) 1 1]).run Tryz.prog W = .ok (goInt 1) (W.setCells g (i * 6) news) ∧ (W.setCells g (i * 6) news).ownsRow base 59 6 (.slice (some ⟨g, 0, none⟩) (n + 1) cap) (n + 1) (insV xs news i) ∧ W.grownBy (W.setCells g (i * 6) news) (some g) := fun W hW ty dc => by
    have hrw : W.heap[vb]? = some (.cells news.toArray 59) := by
      rw [hW]
      exact row_grown (w := w.drew) hown3.2 hrow (fun e => hne (Option.some.inj e))
    have hoW : W.ownsRow base 59 6 (.slice (some ⟨g, 0, none⟩) (n + 1) cap) (n + 1) X1 := by
      have := hown3.1
      unfold World.ownsRow at this ⊢
      rw [hW]
      exact this
    have h := run_copy_into (P := Tryz.prog) (w := W) hoW 22 22 ty Tryz.underlying22 hsz (i * 6) (n + 1 - i) dc ⟨vb, 0, none⟩ 1 1 news (by rw [hmin2, hnl]) (cells_row hrw) (by rw [hnl]; omega) h1n
    rw [hmin2, hIP] at h
    exact h
  have hG1 := hown3.2
  have hb1 : (0 : Int) ≤ (i : Int) + 1 := by omega
  have hb3 : (i : Int) ≤ (n : Int) + 1 := by omega
  rw [show n + 1 - (i + 1) = n - i by omega] at hc1
  have hw1 : IntKind.i64.wrap ((i : Int) + 1) = (i : Int) + 1 := by rw [IntKind.wrap_i64]; omega
  have hb2 : ¬ (cap = i + 1) := by omega
  have hb4 : ¬ (cap = i) := by omega
  have hil : i ≤ n := by omega
  have hcap : cap ≤ 9223372036854775807 := by unfold maxLen at hcm; omega
  have HW1 := Lib.hid hW1
  have HG1 := Lib.hid hG1
  have HC2 := Lib.hid hc2
  have HBF := Lib.hid (grown_trans (a := w) ⟨hG1.os, hG1.tape, hG1.output, hG1.size, hG1.block⟩ (hc2 W1 rfl 0 0).2.2)
  clear hown hown2 hown3 hc2 hW1 hG1 hshape hrf hre hrs hrow hmin hmin2
  go_enter Tryz.func63, Tryz.ntmps63
  go_wp2_with (simp only [hov])
  go_region_law_o (refine step_copy_own rfl _ _ 22 22 rfl _ _ (by simp [Act.eval, Act.put]) (by simp [Act.eval, Act.put]) (hc1 _ _ _) ?_)
  have hc3 := (HC2.out W1 rfl 3 (cap - i)).1
  go_wp2
  go_ret
  exact ⟨_, rfl, (HC2.out W1 rfl 3 (cap - i)).2.1, HBF.out⟩

theorem grow_parts {A Z xs news : List Value} {n i : Nat} (hA : A.length = i * 6) (hZ : Z.length = (n + 1 - i) * 6) (hx : xs.length = n * 6) (hnl : news.length = 6) (hi : i < n) (hA2 : A = xs.take (i * 6)) :
    (((A ++ Z).take (i * 6) ++ news ++ (A ++ Z).drop (i * 6 + news.length)).take ((i + 1) * 6) ++ xs.drop (i * 6) ++ ((A ++ Z).take (i * 6) ++ news ++ (A ++ Z).drop (i * 6 + news.length)).drop ((i + 1) * 6 + (xs.drop (i * 6)).length)) = insV xs news i := by
  have h1 : (A ++ Z).take (i * 6) = A := by rw [← hA]; exact List.take_left
  have h2 : (A ++ Z).drop (i * 6 + news.length) = Z.drop 6 := by rw [← hA, hnl, List.drop_append]; simp
  have h3 : (xs.drop (i * 6)).length = (n - i) * 6 := by rw [List.length_drop, hx, Nat.sub_mul]
  rw [h1, h2, h3]
  have h4 : (A ++ news ++ Z.drop 6).take ((i + 1) * 6) = A ++ news := by
    rw [show (i + 1) * 6 = (A ++ news).length by rw [List.length_append, hA, hnl]; omega]; exact List.take_left
  have h5 : (A ++ news ++ Z.drop 6).drop ((i + 1) * 6 + (n - i) * 6) = [] := List.drop_eq_nil_of_le (by simp only [List.length_append, List.length_drop, hA, hnl, hZ]; omega)
  rw [h4, h5, List.append_nil, hA2]
  rfl
set_option maxRecDepth 100000 in
set_option maxHeartbeats 4000000 in
/-- There is none: a new row. -/
theorem insGrow_any (g n cap i vb base : Nat) (xs news : List Value) (w : World) (hown : w.ownsRow base 59 6 (.slice (some ⟨g, 0, none⟩) n cap) n xs) (hi : i < n) (hroom : cap < n + 1) (hn : n ≤ 1000000) (h1x : ∀ u ∈ xs, u.oneCell' = true) (hrow : w.heap[vb]? = some (.cells news.toArray 59)) (hnl : news.length = 6) (h1n : ∀ u ∈ news, u.oneCell' = true) (hbw : base ≤ w.heap.size) :
    Calls Tryz.prog 63 #[.slice (some ⟨g, 0, none⟩) n cap, .int .i64 i, .slice (some ⟨vb, 0, none⟩) 1 1] w fun e w' => ∃ v', e = .returned v' ∧ w'.ownsRow base 59 6 v' (n + 1) (insV xs news i) ∧ w.grownBy w' (some g) := by
  obtain ⟨i0, hi0', hi0, hi1, hi2⟩ := info_parts infoOb
  have mixed : Tryz.prog.follows .mixedOrders = true := by kernel_rfl
  have hsz : (Tryz.prog.info? 59).map (·.size) = some 6 := by kernel_rfl
  obtain ⟨hshape, hnc, hcm⟩ := own_shape hown
  have hx := hown.1
  have hgw : g < w.heap.size := (hown.lt g rfl).2
  have hvw : vb < w.heap.size := lt_of_block hrow
  have hz1 : ¬ ((i : Int) = (n : Int)) := by omega
  have hz3 : (cap : Int) < (n : Int) + 1 := by omega
  have hik : i + (n + 1 - i) = n + 1 := by omega
  have hkk : (n : Int) + 1 - (i : Int) = ((n + 1 - i : Nat) : Int) := by omega
  have hdl : (xs.drop (i * 6)).length = (n - i) * 6 := by rw [List.length_drop, hx, Nat.sub_mul]
  have hless := own_less hown (Nat.le_of_lt hi)
  have hold : (Builtin.firstCells i0.size i (.slice (some ⟨g, 0, none⟩) i cap)).run Tryz.prog w.drew = .ok (xs.take (i * 6)).toArray w.drew := by
    rw [hi1]
    exact run_firstCells_some w.drew 6 i ⟨g, 0, none⟩ i cap (xs.take (i * 6)) hless.1 (World.ownsRow.cells (w := w.drew) hless rfl)
  have hrz : ∀ ty, (Builtin.append_ #[22, 3] ty #[.slice (some ⟨g, 0, none⟩) i cap, .int .i64 ((n : Int) + 1 - (i : Int))]).run Tryz.prog w = .ok (.slice (some ⟨w.heap.size, 0, none⟩) (n + 1) (grownCap w (n + 1) cap 59)) (w.drew.alloc (.cells ((xs.take (i * 6)).toArray ++ Builtin.zeroCells (Value.agg #[.string ⟨#[]⟩, .int .i64 0, .int .i64 0, .int .i64 0, .slice none 0 0, .slice none 0 0]).cells (n + 1 - i) ++ Builtin.zeroCells (Value.agg #[.string ⟨#[]⟩, .int .i64 0, .int .i64 0, .int .i64 0, .slice none 0 0, .slice none 0 0]).cells (grownCap w (n + 1) cap 59 - (n + 1))) 59)) := fun ty => by
    have h := Lib.run_append_grow_zeros w 22 3 ty 59 i0 _ .i64 .i64 Tryz.underlying22 Tryz.underlying3 hi0' hi0 (some ⟨g, 0, none⟩) i cap (xs.take (i * 6)) hold (n + 1 - i) (by omega) (by rw [hi1]; omega) (by omega) (by omega) (by rw [hi2]; omega) (by rw [hi2, hik]; exact growslice_fits hroom (by omega))
    rw [hik] at h
    rw [hkk]
    exact h
  obtain ⟨G, hG⟩ : ∃ G, G = grownCap w (n + 1) cap 59 := ⟨_, rfl⟩
  have hGn : n + 1 ≤ G := by rw [hG]; exact grownCap_ge w _ _ _
  have hGm : G ≤ maxLen := by rw [hG]; exact grownCap_le_maxLen w (n + 1) cap _ (by unfold maxLen; omega)
  rw [← hG] at hrz
  obtain ⟨Z, hZ⟩ : ∃ Z, Z = Builtin.zeroCells (Value.agg #[.string ⟨#[]⟩, .int .i64 0, .int .i64 0, .int .i64 0, .slice none 0 0, .slice none 0 0]).cells (n + 1 - i) := ⟨_, rfl⟩
  obtain ⟨Z2, hZ2⟩ : ∃ Z2, Z2 = Builtin.zeroCells (Value.agg #[.string ⟨#[]⟩, .int .i64 0, .int .i64 0, .int .i64 0, .slice none 0 0, .slice none 0 0]).cells (G - (n + 1)) := ⟨_, rfl⟩
  have hZl : Z.size = (n + 1 - i) * 6 := by rw [hZ, size_zeroCells]; rfl
  have hZ2l : Z2.size = (G - (n + 1)) * 6 := by rw [hZ2, size_zeroCells]; rfl
  rw [← hZ, ← hZ2] at hrz
  obtain ⟨WN, hWN⟩ : ∃ WN, WN = w.drew.alloc (.cells ((xs.take (i * 6)).toArray ++ Z ++ Z2) 59) := ⟨_, rfl⟩
  rw [← hWN] at hrz
  have hAl : (xs.take (i * 6)).length = i * 6 := by rw [List.length_take, hx]; omega
  obtain ⟨NB, hNB⟩ : ∃ NB, NB = w.heap.size := ⟨_, rfl⟩
  have hoN : WN.ownsRow base 59 6 (.slice (some ⟨NB, 0, none⟩) (n + 1) G) (n + 1) (xs.take (i * 6) ++ Z.toList) := by
    refine ⟨by rw [List.length_append, hAl, Array.length_toList, hZl]; omega, .inr ⟨NB, G, (xs.take (i * 6)).toArray ++ Z ++ Z2, rfl, by omega, ?_, hGn, hGm, ?_, ?_⟩⟩
    · rw [hWN, hNB]; exact heap_alloc_new w.drew _
    · simp only [Array.size_append, List.size_toArray, hAl, hZl, hZ2l]; omega
    · simp only [Array.toList_append]
      rw [show (n + 1) * 6 = (xs.take (i * 6) ++ Z.toList).length by rw [List.length_append, hAl, Array.length_toList, hZl]; omega]
      exact List.take_left
  have hbN : Below w.heap.size w WN := by rw [hWN]; exact ((Below.refl _ w).drew).alloc (Nat.le_refl _) _
  have hrN := row_later hbN hrow
  have hmin1 : Nat.min 1 (n + 1 - i) = 1 := by simp only [Nat.min_def]; split <;> omega
  have hc1 := run_copy_into (P := Tryz.prog) hoN 22 22 3 Tryz.underlying22 hsz (i * 6) (n + 1 - i) (G - i) ⟨vb, 0, none⟩ 1 1 news (by rw [hmin1, hnl]) (cells_row hrN) (by rw [hnl]; omega) h1n
  rw [hmin1] at hc1
  obtain ⟨W1, hW1⟩ : ∃ W1, W1 = WN.setCells NB (i * 6) news := ⟨_, rfl⟩
  obtain ⟨X1, hX1⟩ : ∃ X1, X1 = (xs.take (i * 6) ++ Z.toList).take (i * 6) ++ news ++ (xs.take (i * 6) ++ Z.toList).drop (i * 6 + news.length) := ⟨_, rfl⟩
  rw [← hW1, ← hX1] at hc1
  have hIP : X1.take ((i + 1) * 6) ++ xs.drop (i * 6) ++ X1.drop ((i + 1) * 6 + (xs.drop (i * 6)).length) = insV xs news i := by rw [hX1]; exact grow_parts hAl (by rw [Array.length_toList, hZl]) hx hnl hi rfl
  obtain ⟨hr1, ho1, hg1⟩ := hc1
  have hb1W : Below w.heap.size w W1 := hbN.grown hg1 hbN.size (fun j hj => by injection hj with hj; omega)
  have hsrc : ∀ (W : World), W.heap = W1.heap → ∀ j u, (xs.drop (i * 6))[j]? = some u → W.cell? ((⟨g, i * 6, none⟩ : Addr).add j) = some u := fun W hW j u hj => by
    rw [Addr.add_lit]
    rw [List.getElem?_drop] at hj
    have h := hown.cells (g := g) rfl (i * 6 + j) u hj
    rw [Addr.add_lit, Nat.zero_add] at h
    have := cell_later hb1W h
    unfold World.cell? at this ⊢
    rw [hW]; exact this
  have hmin2 : Nat.min (n - i) (n - i) = n - i := Nat.min_self _
  have hc2 : ∀ (W : World), W.heap = W1.heap → ∀ ty dc sc, (Builtin.copy_ #[22, 22] ty #[.slice (some ⟨NB, (i + 1) * 6, none⟩) (n - i) dc, .slice (some ⟨g, i * 6, none⟩) (n - i) sc]).run Tryz.prog W = .ok (goInt (n - i : Nat)) (W.setCells NB ((i + 1) * 6) (xs.drop (i * 6))) ∧ (W.setCells NB ((i + 1) * 6) (xs.drop (i * 6))).ownsRow base 59 6 (.slice (some ⟨NB, 0, none⟩) (n + 1) G) (n + 1) (insV xs news i) ∧ W.grownBy (W.setCells NB ((i + 1) * 6) (xs.drop (i * 6))) (some NB) := fun W hW ty dc sc => by
    have hoW : W.ownsRow base 59 6 (.slice (some ⟨NB, 0, none⟩) (n + 1) G) (n + 1) X1 := by
      unfold World.ownsRow at ho1 ⊢
      rw [hW]
      exact ho1
    have h := run_copy_into (P := Tryz.prog) hoW 22 22 ty Tryz.underlying22 hsz ((i + 1) * 6) (n - i) dc ⟨g, i * 6, none⟩ (n - i) sc (xs.drop (i * 6)) (by rw [hmin2]; exact hdl) (hsrc W hW) (by rw [hdl]; omega) (fun v hv => h1x v (List.mem_of_mem_drop hv))
    rw [hmin2, hIP] at h
    exact h
  have hBF : ∀ W : World, W = W1.drew → w.grownBy (W.setCells NB ((i + 1) * 6) (xs.drop (i * 6))) (some g) := fun W hW => by
    subst hW
    have h := (hb1W.drew).grown (hc2 W1.drew rfl 0 0 0).2.2 hb1W.size (fun j hj => by injection hj with hj; omega)
    exact ⟨h.os, h.tape, h.output, h.size, fun k hk _ => h.block k hk⟩
  have HBF := Lib.hid (hBF _ rfl)
  have HC2 := Lib.hid hc2
  have HRZ := Lib.hid hrz
  rw [← hNB] at HRZ
  have hw1 : IntKind.i64.wrap ((i : Int) + 1) = (i : Int) + 1 := by rw [IntKind.wrap_i64]; omega
  have hc63 : cap ≤ 9223372036854775807 := by unfold maxLen at hcm; omega
  have hG63 : G ≤ 9223372036854775807 := by unfold maxLen at hGm; omega
  have hb0 : (0 : Int) ≤ (i : Int) + 1 := by omega
  have hb2 : ¬ (cap = i) := by omega
  have hb3 : (i : Int) ≤ (n : Int) + 1 := by omega
  have hb4 : ¬ (G = i) := by omega
  have hb5 : ¬ (G = i + 1) := by omega
  have hb6 : (i : Int) ≤ (n : Int) := by omega
  clear hown hc2 hBF hrz hW1 hWN hX1 hIP hsrc hmin1 hmin2 ho1 hg1 hb1W hrN hbN hoN hAl hZl hZ2l hZ hZ2 hG hold hless hshape hrow hNB hik hkk
  go_enter Tryz.func63, Tryz.ntmps63
  go_wp2_with (at_builtin; refine Lib.wpList_append_run _ rfl _ _ _ _ rfl _ _ rfl rfl _ _ (HRZ.out _) ?_)
  have hc3 := (HC2.out W1.drew rfl 3 (G - (i + 1)) (cap - i)).1
  go_region_law_o (refine step_copy_own rfl _ _ 22 22 rfl _ _ (by simp [Act.eval, Act.put]) (by simp [Act.eval, Act.put]) hc3 ?_)
  go_wp2
  go_ret
  exact ⟨_, rfl, (HC2.out W1.drew rfl 3 (G - (i + 1)) (cap - i)).2.1, HBF.out⟩
/-- slices.Insert of one object into an own row. -/
theorem insertO_any (v : Value) (n i vb base : Nat) (xs news : List Value) (w : World) (hown : w.ownsRow base 59 6 v n xs) (hi : i ≤ n) (hn : n ≤ 1000000) (h1x : ∀ u ∈ xs, u.oneCell' = true) (hrow : w.heap[vb]? = some (.cells news.toArray 59)) (hnl : news.length = 6) (h1n : ∀ u ∈ news, u.oneCell' = true) (hne : v.ownBlock ≠ some vb) (hbw : base ≤ w.heap.size) :
    Calls Tryz.prog 63 #[v, .int .i64 i, .slice (some ⟨vb, 0, none⟩) 1 1] w fun e w' => ∃ v', e = .returned v' ∧ w'.ownsRow base 59 6 v' (n + 1) (insV xs news i) ∧ w.grownBy w' v.ownBlock := by
  have hx := hown.1
  rcases Nat.lt_or_eq_of_le hi with h | h
  · rcases hown.2 with ⟨_, h0⟩ | ⟨g, cap, cur, rfl, _⟩
    · omega
    · by_cases hr : n + 1 ≤ cap
      · exact insRoom_any g n cap i vb base xs news w hown h hr hn h1x hrow hnl h1n (fun e => hne (by rw [e]; rfl))
      · exact insGrow_any g n cap i vb base xs news w hown h (by omega) hn h1x hrow hnl h1n hbw
  · subst h
    have e : insV xs news i = xs ++ news := by unfold insV; rw [List.take_of_length_le (by omega), List.drop_eq_nil_of_le (by omega), List.append_nil]
    rw [e]
    exact insEnd_any v i vb base xs news w hown hn hrow hnl h1n hbw
end Go.Proofs.YtbkomdinchiffaaGreat

namespace Go.Proofs.YtbkomdinchiffaaGreat
open Go.RowKit Go.Sort

def insO (o : ObjD) (i : Nat) (l : List ObjD) : List ObjD := l.take i ++ o :: l.drop i
theorem ins_from (o : ObjD) (ho : objOK o = true) : ∀ (l : List ObjD) (i : Nat) (last : ByteArray), objsFrom last l = true → PlaceO o.id l i → (∀ x ∈ l, x.id ≠ o.id) → ltB last o.id = true → objsFrom last (insO o i l) = true
  | l, 0, last, h, hp, hno, hlt => by
    unfold insO
    rw [List.take_zero, List.drop_zero, List.nil_append, objsFrom]
    simp only [Bool.and_eq_true]
    refine ⟨⟨ho, hlt⟩, ?_⟩
    cases l with
    | nil => rfl
    | cons x r =>
      simp only [objsFrom, Bool.and_eq_true] at h ⊢
      refine ⟨⟨h.1.1, ?_⟩, h.2⟩
      have h1 := hp.2.2 0 x (Nat.le_refl _) rfl
      cases h2 : ltB o.id x.id with
      | true => rfl
      | false => exact absurd (ltB_total h1 h2) (hno x (List.mem_cons_self ..))
  | [], i + 1, last, h, hp, hno, hlt => absurd hp.1 (by simp)
  | x :: r, i + 1, last, h, hp, hno, hlt => by
    unfold insO
    rw [List.take_succ_cons, List.drop_succ_cons, List.cons_append, objsFrom]
    simp only [objsFrom, Bool.and_eq_true] at h ⊢
    refine ⟨⟨h.1.1, h.1.2⟩, ?_⟩
    exact ins_from o ho r i x.id h.2 ⟨by have := hp.1; simp at this; omega, fun t y ht hy => hp.2.1 (t + 1) y (by omega) (by simpa using hy), fun t y ht hy => hp.2.2 (t + 1) y (by omega) (by simpa using hy)⟩ (fun y hy => hno y (List.mem_cons_of_mem _ hy)) (hp.2.1 0 x (by omega) rfl)
theorem id_pos {o : ObjD} (h : objOK o = true) : ltB ⟨#[]⟩ o.id = true := by
  simp only [objOK, Bool.and_eq_true] at h
  have hn := h.1.1.1.1.1.2
  unfold nameB nameL at hn
  simp only [Bool.and_eq_true, decide_eq_true_eq] at hn
  have h1 := hn.1.1
  rw [ltB_eq, ltStr, decide_eq_true_eq, ByteArray.toList_eq, ByteArray.toList_eq]
  cases he : o.id.data.toList with
  | nil => rw [he] at h1; simp at h1
  | cons a r => simp
theorem ins_ok {o : ObjD} {l : List ObjD} {i : Nat} (ho : objOK o = true) (hok : mapOK l = true) (hp : PlaceO o.id l i) (hno : ∀ x ∈ l, x.id ≠ o.id) (hl : l.length ≤ 1000) : mapOK (insO o i l) = true := by
  simp only [mapOK, Bool.and_eq_true, decide_eq_true_eq] at hok ⊢
  refine ⟨?_, ins_from o ho l i _ hok.2 hp hno (id_pos ho)⟩
  unfold insO
  rw [List.length_append, List.length_cons, List.length_take, List.length_drop]; omega
theorem ins_mem {o : ObjD} {l : List ObjD} {i : Nat} (x : ObjD) : x ∈ insO o i l ↔ x = o ∨ x ∈ l := by
  unfold insO
  rw [List.mem_append, List.mem_cons]
  constructor
  · rintro (h | h | h)
    · exact Or.inr (List.mem_of_mem_take h)
    · exact Or.inl h
    · exact Or.inr (List.mem_of_mem_drop h)
  · rintro (h | h)
    · exact Or.inr (Or.inl h)
    · rw [← List.take_append_drop i l] at h
      rcases List.mem_append.1 h with h | h
      · exact Or.inl h
      · exact Or.inr (Or.inr h)
theorem insV_flat (L : List ObM) (x : ObM) (i : Nat) : insV (L.flatMap encOb) (encOb x) i = (L.take i ++ x :: L.drop i).flatMap encOb := by
  unfold insV
  rw [List.flatMap_append, List.flatMap_cons, ← flat_take' encOb_len]
  have : (L.flatMap encOb).drop (i * 6) = (L.drop i).flatMap encOb := by
    have h := List.take_append_drop i L
    have h2 : L.flatMap encOb = (L.take i).flatMap encOb ++ (L.drop i).flatMap encOb := by rw [← List.flatMap_append, h]
    by_cases hi : i ≤ L.length
    · have e : ((L.take i).flatMap encOb).length = i * 6 := by rw [flat_length encOb 6 encOb_len, List.length_take, Nat.min_eq_left hi]
      rw [h2, ← e]; exact List.drop_left
    · rw [List.drop_eq_nil_of_le (by rw [flat_length encOb 6 encOb_len]; omega), List.drop_eq_nil_of_le (by omega)]; rfl
  rw [this, List.append_assoc]

/-- What Put returns. -/
def PutPostO (o : ObjD) (l : List ObjD) (w : World) (e : Ending) (w' : World) : Prop :=
  ((objOK o = false ∧ e = .returned (.tuple #[.agg #[.slice none 0 0], .int .i64 1])) ∨
    (objOK o = true ∧ ∃ v' i, e = .returned (.tuple #[.agg #[v'], .int .i64 0]) ∧ PlaceO o.id l i ∧ ObjsIs w' v' (insO o i l))) ∧ Below w.heap.size w w'
set_option maxRecDepth 100000 in
set_option maxHeartbeats 4000000 in
theorem put_any (v : Value) (l : List ObjD) (o : ObjD) (vr vt : Value) (w : World) (hv : ObjsIs w v l) (hok : mapOK l = true) (hl : l.length ≤ 1000) (hno : posO o.id l = none) (ho : ObOK w (o, vr, vt)) :
    Calls Tryz.prog 26 #[.agg #[v], .agg #[.string o.id, .int .i64 o.kind, .int .i64 o.x, .int .i64 o.y, vr, vt]] w (PutPostO o l w) := by
  have VS := Lib.hid (fun B w' hb hB => validS_any v l B w' (hv.later (w' := w') hb) hB)
  have VO := Lib.hid (fun w' (hb : Below w.heap.size w w') => validO_any o.id o.kind o.x o.y vr vt o.refs o.tags w' ho.2.2 (ho.1.later hb) (ho.2.1.later hb))
  have AT := Lib.hid (fun w' hb => at_map v l o.id w' (hv.later (w' := w') hb) hok)
  obtain ⟨L, hL, hLm, hLo⟩ := objs_row hv
  have HLM := Lib.hid hLm
  have HNO := Lib.hid hno
  have HLO := Lib.hid hLo
  have HOO := Lib.hid ho
  have hLl : L.length = l.length := by rw [← hLm, List.length_map]
  have CL := Lib.hid (fun w' hb => cloneO_any v L w' (by omega) (hL.later (w' := w') hb) (fun x hx => (hLo x hx).later hb))
  have HX1 := Lib.hid (obs_one hLo)
  have HX2 := Lib.hid ho.one
  obtain ⟨a, cap, rfl, _⟩ := hL
  obtain ⟨⟨ar, capr, evr, _⟩, ⟨at1, capt, evt, _⟩, _⟩ := ho
  simp only [] at evr evt
  subst evr evt
  rw [hok] at VS
  obtain ⟨N, hN⟩ : ∃ N, L.length = N := ⟨_, rfl⟩
  have hN10 : N ≤ 1000 := by omega
  have HNN := Lib.hid hN
  have HNL := Lib.hid (show N = l.length by rw [← hLl, hN])
  rw [hN] at VS AT CL ⊢
  clear hok hno hv hLm hLo hLl hN hl
  go_enter Tryz.func26, Tryz.ntmps26
  go_wp2_with fail
  obtain ⟨B, hB⟩ : ∃ B, B = w.heap.size := ⟨_, rfl⟩
  have BX : Below w.heap.size w ((((w.alloc (.cells #[.slice a N cap] 24)).alloc (.cells #[.string o.id, .int .i64 o.kind, .int .i64 o.x, .int .i64 o.y, .slice ar o.refs.length capr, .slice at1 o.tags.length capt] 59)).alloc (.cells #[.slice none 0 0] 24)).alloc (.cells #[.slice a N cap] 24)) := (by repeat' (first | exact Below.refl _ _ | refine Below.drew ?_ | refine Below.drewN' ?_ | refine Below.setCell ?_ (by first | omega | (simp; done) | exact Below.size (by assumption) | (simp; omega)) _ | refine Below.alloc ?_ (by first | omega | (simp; done) | exact Below.size (by assumption) | (simp; omega)) _ | refine Below.trans ?_ (Below.mono (by assumption) ?_) | (first | omega | (simp; done) | exact Below.size (by assumption) | (simp; omega))))
  have H4 := row_new (((w.alloc (.cells #[.slice a N cap] 24)).alloc (.cells #[.string o.id, .int .i64 o.kind, .int .i64 o.x, .int .i64 o.y, .slice ar o.refs.length capr, .slice at1 o.tags.length capt] 59)).alloc (.cells #[.slice none 0 0] 24)) (.cells #[.slice a N cap] 24)
  have H3 := row_past (o' := .cells #[.slice a N cap] 24) (row_new ((w.alloc (.cells #[.slice a N cap] 24)).alloc (.cells #[.string o.id, .int .i64 o.kind, .int .i64 o.x, .int .i64 o.y, .slice ar o.refs.length capr, .slice at1 o.tags.length capt] 59)) (.cells #[.slice none 0 0] 24))
  have H2 := row_past (o' := .cells #[.slice a N cap] 24) (row_past (o' := .cells #[.slice none 0 0] 24) (row_new (w.alloc (.cells #[.slice a N cap] 24)) (.cells #[.string o.id, .int .i64 o.kind, .int .i64 o.x, .int .i64 o.y, .slice ar o.refs.length capr, .slice at1 o.tags.length capt] 59)))
  have H1 := row_past (o' := .cells #[.slice a N cap] 24) (row_past (o' := .cells #[.slice none 0 0] 24) (row_past (o' := .cells #[.string o.id, .int .i64 o.kind, .int .i64 o.x, .int .i64 o.y, .slice ar o.refs.length capr, .slice at1 o.tags.length capt] 59) (row_new w (.cells #[.slice a N cap] 24))))
  generalize hw1 : ((((w.alloc (.cells #[.slice a N cap] 24)).alloc (.cells #[.string o.id, .int .i64 o.kind, .int .i64 o.x, .int .i64 o.y, .slice ar o.refs.length capr, .slice at1 o.tags.length capt] 59)).alloc (.cells #[.slice none 0 0] 24)).alloc (.cells #[.slice a N cap] 24)) = w1
  rw [hw1] at BX H1 H2 H3 H4
  simp only [World.size_alloc] at H2 H3 H4
  rw [← hB] at H1 H2 H3 H4 ⊢
  have hz1 := BX.size
  have hz4 : B + 3 < w1.heap.size := lt_of_block H4
  have hBw : w.heap.size ≤ B := by omega
  have HB := Lib.hid hB
  have K1 := Lib.hid H1
  have K2 := Lib.hid H2
  have K3 := Lib.hid H3
  refine (VS.out _ _ BX (cell_of_row w1 _ 0 _ _ _ H4)).mono ?_
  rintro e w2 ⟨rfl, hb⟩
  have B2 := BX.trans (hb.mono hz1)
  replace K1 := Lib.hid (row_later hb K1.out)
  replace K2 := Lib.hid (row_later hb K2.out)
  replace K3 := Lib.hid (row_later hb K3.out)
  have hz2 := Nat.lt_of_lt_of_le hz4 hb.size
  clear hw1 H1 H2 H3 H4 BX hb VS hB hz1 hz4
  have qz := lt_of_block K2.out
  have q0 := cell_of_row w2 _ 0 _ _ _ K2.out
  have q1 := cell_of_row w2 _ 1 _ _ _ K2.out
  have q2 := cell_of_row w2 _ 2 _ _ _ K2.out
  have q3 := cell_of_row w2 _ 3 _ _ _ K2.out
  have q4 := cell_of_row w2 _ 4 _ _ _ K2.out
  have q5 := cell_of_row w2 _ 5 _ _ _ K2.out
  simp only [List.getElem?_toArray, List.getElem?_cons_zero, List.getElem?_cons_succ] at q0 q1 q2 q3 q4 q5
  go_wp2_with fail
  refine (VO.out _ B2).mono ?_
  rintro e w3 ⟨rfl, hb⟩
  have B3 := B2.trans (hb.mono B2.size)
  replace K1 := Lib.hid (row_later hb K1.out)
  replace K2 := Lib.hid (row_later hb K2.out)
  replace K3 := Lib.hid (row_later hb K3.out)
  replace hz2 := Nat.lt_of_lt_of_le hz2 hb.size
  clear q0 q1 q2 q3 q4 q5 qz
  clear hb B2 VO
  have rz := lt_of_block K3.out
  have r0 := cell_of_row w3 _ 0 _ _ _ K3.out
  have rf0 := frozen_of_row w3 _ 0 _ _ K3.out
  simp only [List.getElem?_toArray, List.getElem?_cons_zero] at r0
  cases hob : objOK o with
  | false =>
    go_wp2
    refine bodyPost_ret (v := .tuple #[.agg #[.slice none 0 0], .int .i64 1]) ?_ rfl ⟨Or.inl ⟨hob, rfl⟩, B3.setCell (p := ⟨B + 1 + 1, 0, none⟩) (by simp; omega) _⟩
    simp [results, Tryz.results26, go_sem, r0]
  | true =>
    have pz := lt_of_block K1.out
    have p0 := cell_of_row w3 _ 0 _ _ _ K1.out
    simp only [List.getElem?_toArray, List.getElem?_cons_zero] at p0
    have qz := lt_of_block K2.out
    have q0 := cell_of_row w3 _ 0 _ _ _ K2.out
    have q1 := cell_of_row w3 _ 1 _ _ _ K2.out
    have q2 := cell_of_row w3 _ 2 _ _ _ K2.out
    have q3 := cell_of_row w3 _ 3 _ _ _ K2.out
    have q4 := cell_of_row w3 _ 4 _ _ _ K2.out
    have q5 := cell_of_row w3 _ 5 _ _ _ K2.out
    simp only [List.getElem?_toArray, List.getElem?_cons_zero, List.getElem?_cons_succ] at q0 q1 q2 q3 q4 q5
    go_wp2_with fail
    refine (AT.out _ B3).mono ?_
    rintro e w4 ⟨⟨i, b, rfl, hbs, _, hpl⟩, hb⟩
    rw [HNO.out] at hbs
    obtain rfl : b = false := hbs
    have HPL := Lib.hid hpl
    have hiN : i ≤ N := by rw [HNL.out]; exact hpl.1
    have B4 := B3.trans (hb.mono B3.size)
    replace K1 := Lib.hid (row_later hb K1.out)
    replace K2 := Lib.hid (row_later hb K2.out)
    replace K3 := Lib.hid (row_later hb K3.out)
    replace hz2 := Nat.lt_of_lt_of_le hz2 hb.size
    clear p0 pz
    clear q0 q1 q2 q3 q4 q5 qz
    clear r0 rz
    clear hb B3 AT hpl
    have pz := lt_of_block K1.out
    have p0 := cell_of_row w4 _ 0 _ _ _ K1.out
    simp only [List.getElem?_toArray, List.getElem?_cons_zero] at p0
    go_wp2_with fail
    refine (CL.out _ B4).mono ?_
    rintro e w5 ⟨v', rfl, hown, hb⟩
    have B5 := B4.trans (hb.mono B4.size)
    replace K1 := Lib.hid (row_later hb K1.out)
    replace K2 := Lib.hid (row_later hb K2.out)
    replace K3 := Lib.hid (row_later hb K3.out)
    have hzB4 := hz2
    replace hz2 := Nat.lt_of_lt_of_le hz2 hb.size
    clear p0 pz
    have hz45 := hb.size
    have hz34 := B4.size
    clear hb CL
    obtain ⟨ao, c, rfl⟩ := own_form hown
    have HO := Lib.hid hown
    clear hown
    have pz := lt_of_block K1.out
    have p0 := cell_of_row w5 _ 0 _ _ _ K1.out
    simp only [List.getElem?_toArray, List.getElem?_cons_zero] at p0
    have qz := lt_of_block K2.out
    have q0 := cell_of_row w5 _ 0 _ _ _ K2.out
    have q1 := cell_of_row w5 _ 1 _ _ _ K2.out
    have q2 := cell_of_row w5 _ 2 _ _ _ K2.out
    have q3 := cell_of_row w5 _ 3 _ _ _ K2.out
    have q4 := cell_of_row w5 _ 4 _ _ _ K2.out
    have q5 := cell_of_row w5 _ 5 _ _ _ K2.out
    simp only [List.getElem?_toArray, List.getElem?_cons_zero, List.getElem?_cons_succ] at q0 q1 q2 q3 q4 q5
    have hN2 : ¬ (N : Int) = 1000000 := by omega
    go_wp2_with fail
    have BA : Below w5.heap.size w5 (w5.alloc (.cells #[.slice ao N c] 24)) := (by repeat' (first | exact Below.refl _ _ | refine Below.drew ?_ | refine Below.drewN' ?_ | refine Below.setCell ?_ (by first | omega | (simp; done) | exact Below.size (by assumption) | (simp; omega)) _ | refine Below.alloc ?_ (by first | omega | (simp; done) | exact Below.size (by assumption) | (simp; omega)) _ | refine Below.trans ?_ (Below.mono (by assumption) ?_) | (first | omega | (simp; done) | exact Below.size (by assumption) | (simp; omega))))
    have HA := row_new w5 (.cells #[.slice ao N c] 24)
    have hzA : (w5.alloc (.cells #[.slice ao N c] 24)).heap.size = w5.heap.size + 1 := by simp
    generalize hw6 : (w5.alloc (.cells #[.slice ao N c] 24)) = w6
    rw [hw6] at BA HA hzA
    obtain ⟨O, hO⟩ : ∃ O, O = w5.heap.size := ⟨_, rfl⟩
    rw [← hO] at HA hzA ⊢
    have BO : Below w6.heap.size w6 (w6.alloc (.cells #[.string o.id, .int .i64 o.kind, .int .i64 o.x, .int .i64 o.y, .slice ar o.refs.length capr, .slice at1 o.tags.length capt] 59)) := (Below.refl _ _).alloc (Nat.le_refl _) _
    have HX := row_new w6 (.cells #[.string o.id, .int .i64 o.kind, .int .i64 o.x, .int .i64 o.y, .slice ar o.refs.length capr, .slice at1 o.tags.length capt] 59)
    rw [hzA] at HX
    have B7 := B5.trans (((BA.mono (Nat.le_refl _)).trans (BO.mono (by omega))).mono B5.size)
    have B57 := BA.trans (BO.mono (by omega))
    generalize hw7 : w6.alloc (.cells #[.string o.id, .int .i64 o.kind, .int .i64 o.x, .int .i64 o.y, .slice ar o.refs.length capr, .slice at1 o.tags.length capt] 59) = w7
    rw [hw7] at BO HX B7 B57
    have HO7 := Lib.hid (own_later HO.out B57)
    have hne : (Value.slice ao N c).ownBlock ≠ some (O + 1) := fun e => by
      have := (HO.out.lt _ e).2
      omega
    have h57 := B57.size
    have H7 := row_later BO HA
    replace K3 := Lib.hid (row_later B57 K3.out)
    refine (insertO_any _ N i (O + 1) w4.heap.size _ (encOb (o, .slice ar o.refs.length capr, .slice at1 o.tags.length capt)) w7 HO7.out hiN (by omega) HX1.out HX (encOb_len _) HX2.out hne (by omega)).mono ?_
    rintro e w8 ⟨v8, rfl, hown8, hg8⟩
    have hz78 := hg8.size
    have Q8 := row_grown hg8 K3.out (fun e => by
      have := (HO.out.lt _ e.symm).1
      omega)
    have H8 := row_grown hg8 H7 (fun e => by
      have := (HO.out.lt _ e.symm).2
      omega)
    have B8 := B7.grown hg8 B7.size (fun k hk => Nat.le_trans B4.size ((HO.out.lt k hk).1))
    obtain ⟨ao8, c8, rfl⟩ := own_form hown8
    have HO8 := Lib.hid hown8
    have h5O : w8.heap.size > O + 1 := by have := lt_of_block HX; omega
    have hwB : w.heap.size ≤ B + 1 + 1 := by omega
    have hwO : w.heap.size ≤ O := by omega
    have hOB : O ≠ B + 1 + 1 := by omega
    clear hown8 hg8 BA HA BO HX B7 B57 HO7 H7 hw6 hw7
    have HQ8 := Lib.hid Q8
    have HH8 := Lib.hid H8
    clear Q8 H8 hO
    have sz := lt_of_block HH8.out
    have s0 := cell_of_row w8 _ 0 _ _ _ HH8.out
    have sf0 := frozen_of_row w8 _ 0 _ _ HH8.out
    simp only [List.getElem?_toArray, List.getElem?_cons_zero] at s0
    have rz := lt_of_block HQ8.out
    have r0 := cell_of_row w8 _ 0 _ _ _ HQ8.out
    have rf0 := frozen_of_row w8 _ 0 _ _ HQ8.out
    simp only [List.getElem?_toArray, List.getElem?_cons_zero] at r0
    go_wp2_with fail
    have hneO : (Value.slice ao8 (N + 1) c8).ownBlock ≠ some O := fun e => by
      rcases HO8.out.2 with ⟨_, h0⟩ | ⟨g, cap', cur, ev, _, hg, _⟩
      · omega
      · rw [ev] at e
        injection e with e
        have e : g = O := e
        subst e
        rw [HH8.out] at hg
        simp at hg
    have hneB : (Value.slice ao8 (N + 1) c8).ownBlock ≠ some (B + 1 + 1) := fun e => by
      have := (HO8.out.lt _ e).1
      omega
    have g1 : w8.grownBy (w8.setCell ⟨O, 0, none⟩ (.slice ao8 (N + 1) c8)) (some O) := setCells_grown (g := O) [.slice ao8 (N + 1) c8] 0 w8
    have O9 := HO8.out.kept g1 (Or.inr hneO)
    obtain ⟨w9, hw9⟩ : ∃ w9, w9 = w8.setCell ⟨O, 0, none⟩ (.slice ao8 (N + 1) c8) := ⟨_, rfl⟩
    rw [← hw9] at O9
    have g2 : w9.grownBy (w9.setCell ⟨B + 1 + 1, 0, none⟩ (.slice ao8 (N + 1) c8)) (some (B + 1 + 1)) := setCells_grown (g := B + 1 + 1) [.slice ao8 (N + 1) c8] 0 w9
    have O10 := O9.kept g2 (Or.inr hneB)
    have B9 : Below w.heap.size w (w9.setCell ⟨B + 1 + 1, 0, none⟩ (.slice ao8 (N + 1) c8)) := by
      rw [hw9]
      exact (B8.setCell (p := ⟨O, 0, none⟩) hwO _).setCell (p := ⟨B + 1 + 1, 0, none⟩) hwB _
    rw [insV_flat] at O10
    have OB := objs_of (RowE.of_own (n := N + 1) encOb_len (by rw [List.length_append, List.length_cons, List.length_take, List.length_drop, HNN.out]; omega) O10) (fun x hx => by
      rcases List.mem_append.1 hx with hx | hx
      · exact (HLO.out x (List.mem_of_mem_take hx)).later B9
      · rcases List.mem_cons.1 hx with rfl | hx
        · exact HOO.out.later B9
        · exact (HLO.out x (List.mem_of_mem_drop hx)).later B9) (by rw [List.length_append, List.length_cons, List.length_take, List.length_drop, HNN.out]; omega)
    rw [List.map_append, List.map_cons, List.map_take, List.map_drop, HLM.out] at OB
    rw [hw9] at OB B9
    refine bodyPost_ret (v := .tuple #[.agg #[.slice ao8 (N + 1) c8], .int .i64 0]) ?_ rfl ⟨Or.inr ⟨hob, _, i, rfl, HPL.out, OB⟩, B9⟩
    simp [results, Tryz.results26, go_sem, r0]
end Go.Proofs.YtbkomdinchiffaaGreat

namespace Go.Proofs.YtbkomdinchiffaaGreat
open Go.RowKit Go.Sort

theorem map_apart {w : World} {g b j : Nat} {a : Option Addr} {n c : Nat} {T : TypeId} {s : ByteArray} (hrow : w.heap[g]? = some (.cells #[.slice a n c] T)) (h : w.cell? ⟨b, j, none⟩ = some (.string s)) : some b ≠ some g := fun e => by
  injection e with e
  subst e
  rw [cell_of_row w _ j _ _ _ hrow] at h
  cases j with
  | zero => simp at h
  | succ j => simp at h
section
variable {w W' : World} {g : Nat} {a : Option Addr} {n c : Nat} {T : TypeId}
theorem str_apart (hrow : w.heap[g]? = some (.cells #[.slice a n c] T)) (hg : w.grownBy W' (some g)) {v : Value} {l : List ByteArray} (h : StrRow w v l) : StrRow W' v l := by
  obtain ⟨a', cap, h1, h2, h3, h4⟩ := h
  refine ⟨a', cap, h1, h2, h3, fun h0 => ?_⟩
  obtain ⟨b, off, e, hc⟩ := h4 h0
  exact ⟨b, off, e, fun i s hi => hg.cell (hc i s hi) (map_apart hrow (hc i s hi))⟩
theorem tag_apart (hrow : w.heap[g]? = some (.cells #[.slice a n c] T)) (hg : w.grownBy W' (some g)) {v : Value} {l : List TagD} (h : TagRow w v l) : TagRow W' v l := by
  obtain ⟨a', cap, h1, h2, h3, h4⟩ := h
  refine ⟨a', cap, h1, h2, h3, fun h0 => ?_⟩
  obtain ⟨b, off, e, hc⟩ := h4 h0
  exact ⟨b, off, e, fun i t hi => ⟨hg.cell (hc i t hi).1 (map_apart hrow (hc i t hi).1), hg.cell (hc i t hi).2 (map_apart hrow (hc i t hi).2)⟩⟩
theorem objs_apart (hrow : w.heap[g]? = some (.cells #[.slice a n c] T)) (hg : w.grownBy W' (some g)) {v : Value} {l : List ObjD} (h : ObjsIs w v l) : ObjsIs W' v l := by
  obtain ⟨a', cap, h1, h2, h3⟩ := h
  refine ⟨a', cap, h1, h2, fun h0 => ?_⟩
  obtain ⟨b, off, e, hc⟩ := h3 h0
  refine ⟨b, off, e, fun i o hi => ?_⟩
  obtain ⟨vr, vt, c0, c1, c2, c3, c4, c5, hr, ht, hz⟩ := hc i o hi
  have hb := map_apart hrow c0
  exact ⟨vr, vt, hg.cell c0 hb, hg.cell c1 hb, hg.cell c2 hb, hg.cell c3 hb, hg.cell c4 hb, hg.cell c5 hb, str_apart hrow hg hr, tag_apart hrow hg ht, hz⟩
end
/-- What Put hands back, and what holds then. -/
abbrev PutX := Option (Option Addr × Nat × Nat)
def putA (x : PutX) : Value := match x with | none => .slice none 0 0 | some y => .slice y.1 y.2.1 y.2.2
def putE (x : PutX) : Value := match x with | none => .int .i64 1 | some _ => .int .i64 0
def PutR (o : ObjD) (l : List ObjD) (x : PutX) (W : World) : Prop := match x with | none => objOK o = false | some y => objOK o = true ∧ ∃ pi, PlaceO o.id l pi ∧ ObjsIs W (.slice y.1 y.2.1 y.2.2) (insO o pi l)
theorem PutR.later {o : ObjD} {l : List ObjD} {x : PutX} {W W' : World} (h : PutR o l x W) (hb : Below W.heap.size W W') : PutR o l x W' := by
  cases x with
  | none => exact h
  | some y => obtain ⟨h1, pi, h2, h3⟩ := h; exact ⟨h1, pi, h2, h3.later hb⟩
theorem PutR.apart {o : ObjD} {l : List ObjD} {x : PutX} {W W' : World} {g : Nat} {a : Option Addr} {n c : Nat} {T : TypeId} (h : PutR o l x W) (hrow : W.heap[g]? = some (.cells #[.slice a n c] T)) (hg : W.grownBy W' (some g)) : PutR o l x W' := by
  cases x with
  | none => exact h
  | some y => obtain ⟨h1, pi, h2, h3⟩ := h; exact ⟨h1, pi, h2, objs_apart hrow hg h3⟩
def PutT (o : ObjD) (l : List ObjD) (wa : World) (x : PutX) (W : World) : Prop := Below wa.heap.size wa W ∧ PutR o l x W
theorem PutT.stable (o : ObjD) (l : List ObjD) (wa : World) (x : PutX) : StableW (PutT o l wa x) := fun _ _ h hb => ⟨h.1.trans (hb.mono h.1.size), h.2.later hb⟩
/-- A new map variable, still empty. -/
def FreeG (wa : World) (g : Nat) (W : World) : Prop := W.heap[g]? = some (.cells #[.slice none 0 0] 24) ∧ wa.heap.size ≤ g
theorem FreeG.stable (wa : World) (g : Nat) : StableW (FreeG wa g) := (StableW.row _ _).and (StableW.const _)
end Go.Proofs.YtbkomdinchiffaaGreat
