/- The plain law of the names: which objects have a label. -/
import Derived.Test.YtapllmniplgajaaGreatDoorLawZ
import Derived.Test.YtapllmniplgajaaGreatDoorRefEF
namespace Go.Proofs.YtapllmniplgajaaGreatDoor
open Go.Sort

/-- Whether an object of a valid map has a label. -/
def wantB (l : List ObjD) (z : Int) (langs : List ByteArray) (o : ObjD) : Bool :=
  decide (o.kind ≤ 3) && soundB l o && decide (levelO o.tags ≤ z) && decide ((bestB o.tags langs).1.size ≠ 0)
theorem pos_self {l : List ObjD} (h : mapOK l = true) {k : Nat} {o : ObjD} (ho : l[k]? = some o) : posO o.id l = some k := by
  refine pos_at o.id l k o ho (fun j y hj hy => ?_) rfl
  intro e
  have h2 : objsFrom ⟨#[]⟩ l = true := by
    unfold mapOK at h; rw [Bool.and_eq_true] at h; exact h.2
  have := (objs_sorted l _ h2).2 j k y o hj hy ho
  rw [e, ltB_irrefl] at this
  cases this
theorem filterMap_all {α β : Type} (f : α → Option β) : ∀ l : List α, (l.all fun x => (f x).isSome) = true → (l.filterMap f).length = l.length
  | [], _ => rfl
  | x :: l, h => by
    rw [List.all_cons, Bool.and_eq_true] at h
    obtain ⟨y, hy⟩ := Option.isSome_iff_exists.1 h.1
    rw [List.filterMap_cons_some hy, List.length_cons, List.length_cons, filterMap_all f l h.2]
theorem anchorP_some (kind : Int) (ps : List (Int × Int)) (h : ps ≠ []) : (anchorP kind ps).isSome = true := by
  unfold anchorP
  rw [if_neg h]
  split
  · rfl
  · have hl := List.length_pos_iff.2 h
    rw [List.getElem?_eq_getElem (by omega)]; rfl
theorem obj_least {o : ObjD} (h : objOK o = true) : leastK o.kind ≤ o.refs.length := by
  simp only [objOK, Bool.and_eq_true, decide_eq_true_eq] at h
  exact h.1.1.1.2
theorem anchor_iff {l : List ObjD} (h : mapOK l = true) {k : Nat} {o : ObjD} (ho : l[k]? = some o) : (anchorO l o).isSome = (decide (o.kind ≤ 3) && soundB l o) := by
  have hob := map_obj h (List.mem_of_getElem? ho)
  have hk := obj_kind hob
  unfold anchorO
  rw [ptsO_some l o.id h k (pos_self h ho) o ho]
  unfold ptsK
  by_cases h1 : o.kind = 1
  · have hr := node_refs hob h1
    have hs : soundB l o = true := by unfold soundB; rw [hr]; rfl
    rw [if_pos h1, hs, decide_eq_true (show o.kind ≤ 3 by omega)]
    simp only [if_true]
    exact anchorP_some _ _ (by simp)
  · rw [if_neg h1]
    by_cases h23 : o.kind = 2 ∨ o.kind = 3
    · rw [if_pos h23, decide_eq_true (show o.kind ≤ 3 by omega)]
      have hl := obj_least hob
      cases hs : soundB l o with
      | false =>
        unfold soundB at hs
        rw [hs]; rfl
      | true =>
        unfold soundB at hs
        rw [hs]
        simp only [if_true]
        refine anchorP_some _ _ ?_
        have := filterMap_all (nodeAt l) o.refs hs
        intro e
        rw [e] at this
        unfold leastK at hl
        simp at this
        rcases h23 with h2 | h2
        · rw [if_neg h1, if_pos h2] at hl; omega
        · rw [if_neg h1, if_neg (by omega), if_pos h2] at hl; omega
    · rw [if_neg h23, decide_eq_false (show ¬ o.kind ≤ 3 by omega)]
      simp
theorem lab1_iff {l : List ObjD} (h : mapOK l = true) {k : Nat} {o : ObjD} (ho : l[k]? = some o) (z : Nat) (langs : List ByteArray) : (lab1 l z langs o).isSome = wantB l z langs o := by
  unfold lab1 wantB
  rw [← anchor_iff h ho]
  by_cases h1 : (bestB o.tags langs).1.size = 0
  · have e : decide ((bestB o.tags langs).1.size ≠ 0) = false := decide_eq_false (fun h => h h1)
    rw [if_pos h1, e]; simp
  · rw [if_neg h1, decide_eq_true (show (bestB o.tags langs).1.size ≠ 0 from h1)]
    by_cases h2 : (z : Int) < levelO o.tags
    · have e : decide (levelO o.tags ≤ (z : Int)) = false := decide_eq_false (by omega)
      rw [if_pos h2, e]; simp
    · have e : decide (levelO o.tags ≤ (z : Int)) = true := decide_eq_true (by omega)
      rw [if_neg h2, e]; simp
theorem labelsL_eq {l : List ObjD} (h : mapOK l = true) (z : Nat) (hz : z ≤ 17) (langs : List ByteArray) : labelsL l z langs = isort (ltOf cfL) (l.filterMap (lab1 l z langs)) := by
  unfold labelsL
  rw [h, decide_eq_true (show (0 : Int) ≤ (z : Int) ∧ (z : Int) ≤ 17 by omega), Int.toNat_natCast]; rfl
theorem find_none_of {l : List LabD} {id : ByteArray} (h : ∀ y ∈ l, y.id ≠ id) : findL id l = none := by
  unfold findL
  rw [List.find?_eq_none]
  intro y hy
  simpa using h y hy
/-- The label that is found for an object. -/
theorem find_obj {l : List ObjD} (h : mapOK l = true) (z : Nat) (hz : z ≤ 17) (langs : List ByteArray) {k : Nat} {o : ObjD} (ho : l[k]? = some o) : findL o.id (labelsL l z langs) = lab1 l z langs o := by
  rw [labelsL_eq h z hz langs]
  cases hl : lab1 l z langs o with
  | some x =>
    have hid : o.id = x.id := by obtain ⟨_, _, _, _, rfl⟩ := lab1_some hl; rfl
    rw [hid]
    exact find_dist _ x (dist_perm (isort_perm _ _).symm (labs_dist h z langs)) ((isort_perm _ _).mem_iff.2 (List.mem_filterMap.2 ⟨o, List.mem_of_getElem? ho, hl⟩))
  | none =>
    refine find_none_of fun y hy => ?_
    intro e
    obtain ⟨o', ho', hox⟩ := List.mem_filterMap.1 ((isort_perm _ _).mem_iff.1 hy)
    have hid : y.id = o'.id := by obtain ⟨_, _, _, _, rfl⟩ := lab1_some hox; rfl
    obtain ⟨j, hj, rfl⟩ := List.getElem_of_mem ho'
    have hp := pos_self h (List.getElem?_eq_getElem hj)
    rw [← hid, e, pos_self h ho] at hp
    obtain rfl := Option.some.inj hp
    have : l[k] = o := Option.some.inj ((List.getElem?_eq_getElem hj).symm.trans ho)
    rw [this, hl] at hox
    cases hox
/-- The labels are in strictly increasing order. -/
theorem labels_lt {l : List ObjD} (h : mapOK l = true) (z : Nat) (hz : z ≤ 17) (langs : List ByteArray) (i : Nat) (x y : LabD) (hx : (labelsL l z langs)[i]? = some x) (hy : (labelsL l z langs)[i + 1]? = some y) : ltOf cfL x y = true := by
  rw [labelsL_eq h z hz langs] at hx hy
  have hd : DistL (isort (ltOf cfL) (l.filterMap (lab1 l z langs))) := dist_perm (isort_perm _ _).symm (labs_dist h z langs)
  have ho := isort_ord _ swoL (l.filterMap (lab1 l z langs))
  generalize isort (ltOf cfL) (l.filterMap (lab1 l z langs)) = L at hx hy hd ho
  obtain ⟨h1, rfl⟩ := List.getElem?_eq_some_iff.1 hx
  obtain ⟨h2, rfl⟩ := List.getElem?_eq_some_iff.1 hy
  have hne : L[i].id ≠ L[i + 1].id := List.pairwise_iff_getElem.1 hd i (i + 1) h1 h2 (by omega)
  rcases cf_total hne with h3 | h3
  · exact h3
  · have := ord_get (ltOf cfL) L ho i (i + 1) (by omega) h2
    rw [this] at h3; cases h3
/-- Each label is that of an object. -/
theorem labels_obj {l : List ObjD} (h : mapOK l = true) (z : Nat) (hz : z ≤ 17) (langs : List ByteArray) (x : LabD) (hx : x ∈ labelsL l z langs) : 0 ≤ idxO x.id l := by
  rw [labelsL_eq h z hz langs] at hx
  obtain ⟨o', ho', hox⟩ := List.mem_filterMap.1 ((isort_perm _ _).mem_iff.1 hx)
  have hid : x.id = o'.id := by obtain ⟨_, _, _, _, rfl⟩ := lab1_some hox; rfl
  obtain ⟨j, hj, rfl⟩ := List.getElem_of_mem ho'
  unfold idxO
  rw [hid, pos_self h (List.getElem?_eq_getElem hj)]
  simp
theorem labels_count {l : List ObjD} (h : mapOK l = true) (z : Nat) (hz : z ≤ 17) (langs : List ByteArray) : (labelsL l z langs).length = (l.filterMap (lab1 l z langs)).length := by
  rw [labelsL_eq h z hz langs, isort_length]
end Go.Proofs.YtapllmniplgajaaGreatDoor
