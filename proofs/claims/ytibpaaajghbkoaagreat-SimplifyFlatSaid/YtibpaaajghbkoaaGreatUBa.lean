/-  -/
import Derived.Test.YtibpaaajghbkoaaGreatUAz
namespace Go.Proofs.YtibpaaajghbkoaaGreat
open Go.RowKit Go.Sort
def itemsP (S : List Sg) : List ItD := (List.range S.length).map fun i => (i, (S[i]?).getD ((0, 0), (0, 0)))
theorem itemsP_get {S : List Sg} {i : Nat} {s : Sg} (h : S[i]? = some s) : (itemsP S)[i]? = some (i, s) := by
 have hi := (List.getElem?_eq_some_iff.1 h).1
 unfold itemsP
 rw [List.getElem?_map, List.getElem?_range hi, Option.map_some, h]; rfl
theorem itemsP_mem {S : List Sg} {x : ItD} : x ∈ itemsP S ↔ S[x.1]? = some x.2 := by
 unfold itemsP
 rw [List.mem_map]
 constructor
 ·rintro ⟨i, hi, rfl⟩
  rw [List.mem_range] at hi
  rw [List.getElem?_eq_getElem hi]; rfl
 ·intro h
  exact ⟨x.1, List.mem_range.2 (List.getElem?_eq_some_iff.1 h).1, by rw [h]; rfl⟩
def yMeet (a b : ItD) : Bool := decide (ylo a.2 ≤ yhi b.2) && decide (ylo b.2 ≤ yhi a.2)
def pairM (a b : ItD) : MtD := (min a.1 b.1, max a.1 b.1, meetsQ a.2 b.2)
def foundM (a b : ItD) : Option MtD := if yMeet a b = true then (if meetsQ a.2 b.2 = 0 then none else some (pairM a b)) else none
def keepA (a : ItD) (act : List ItD) : List ItD := act.filter fun x => !leftI a x
def sweepP (Q : List ItD) : Nat → List ItD × List MtD
 |0 => ([], [])
 |k + 1 => match Q[k]? with
  |some a => (keepA a (sweepP Q k).1 ++ [a], (sweepP Q k).2 ++ (keepA a (sweepP Q k).1).filterMap (foundM a))
  |none => sweepP Q k
theorem sweepP_succ {Q : List ItD} {k : Nat} {a : ItD} (h : Q[k]? = some a) : sweepP Q (k + 1) = (keepA a (sweepP Q k).1 ++ [a], (sweepP Q k).2 ++ (keepA a (sweepP Q k).1).filterMap (foundM a)) := by rw [sweepP, h]
def SortI (Q : List ItD) : Prop := Q.Pairwise fun x y => xlo x.2 ≤ xlo y.2
theorem act_mem {Q : List ItD} (hs : SortI Q) : ∀ k, (∀ x ∈ (sweepP Q k).1, x ∈ Q.take k) ∧ ∀ x ∈ Q.take k, x ∉ (sweepP Q k).1 → ∃ a ∈ Q.take k, xhi x.2 < xlo a.2
 |0 => ⟨fun x h => (by cases h), fun x h => (by simp at h)⟩
 |k + 1 => by
  obtain ⟨h1, h2⟩ := act_mem hs k
  cases hq : Q[k]? with
  |none =>
   have hl : Q.length ≤ k := List.getElem?_eq_none_iff.1 hq
   have e : sweepP Q (k + 1) = sweepP Q k := by rw [sweepP, hq]
   rw [e, List.take_of_length_le (by omega)]
   rw [List.take_of_length_le hl] at h1 h2
   exact ⟨h1, h2⟩
  |some a =>
   obtain ⟨hk, e⟩ := List.getElem?_eq_some_iff.1 hq
   rw [sweepP_succ hq, List.take_succ_eq_append_getElem hk, e]
   refine ⟨fun x hx => ?_, fun x hx hn => ?_⟩
   ·rcases List.mem_append.1 hx with h | h
    ·exact List.mem_append_left _ (h1 x (List.mem_filter.1 h).1)
    ·exact List.mem_append_right _ h
   ·simp only [List.mem_append, not_or] at hn
    rcases List.mem_append.1 hx with h | h
    ·by_cases hx1 : x ∈ (sweepP Q k).1
     ·refine ⟨a, List.mem_append_right _ (List.mem_singleton.2 rfl), ?_⟩
      have := hn.1
      unfold keepA at this
      rw [List.mem_filter] at this
      cases hl : leftI a x with
      |true => exact of_decide_eq_true hl
      |false => exact absurd ⟨hx1, by rw [hl]; rfl⟩ this
     ·obtain ⟨b, hb, hlt⟩ := h2 x h hx1
      exact ⟨b, List.mem_append_left _ hb, hlt⟩
    ·exact absurd h hn.2
theorem keep_mem {Q : List ItD} (hs : SortI Q) {k : Nat} {a : ItD} (ha : Q[k]? = some a) (x : ItD) : x ∈ keepA a (sweepP Q k).1 ↔ x ∈ Q.take k ∧ xlo a.2 ≤ xhi x.2 := by
 obtain ⟨h1, h2⟩ := act_mem hs k
 unfold keepA
 rw [List.mem_filter]
 have hl : (!leftI a x) = true ↔ xlo a.2 ≤ xhi x.2 := by unfold leftI; rw [Bool.not_eq_true', decide_eq_false_iff_not]; omega
 rw [hl]
 refine ⟨fun h => ⟨h1 x h.1, h.2⟩, fun h => ⟨?_, h.2⟩⟩
 refine Classical.byContradiction fun hn => ?_
 obtain ⟨b, hb, hlt⟩ := h2 x h.1 hn
 obtain ⟨j, hj⟩ := List.getElem?_of_mem hb
 have hjk : j < k := by
  have := (List.getElem?_eq_some_iff.1 hj).1
  rw [List.length_take] at this; omega
 have hbj : Q[j]? = some b := take_get hj
 obtain ⟨j1, j2⟩ := List.getElem?_eq_some_iff.1 hbj
 obtain ⟨k1, k2⟩ := List.getElem?_eq_some_iff.1 ha
 have := List.pairwise_iff_getElem.1 hs j k j1 k1 hjk
 rw [j2, k2] at this
 omega
theorem box_meet {a b : ItD} (h : meetsQ a.2 b.2 ≠ 0) : xlo a.2 ≤ xhi b.2 ∧ yMeet a b = true := by
 rw [meetsQ_eq] at h
 have := meets_box h
 unfold yMeet xlo xhi ylo yhi
 rw [Bool.and_eq_true, decide_eq_true_eq, decide_eq_true_eq]
 omega
theorem found_mem {Q : List ItD} (hs : SortI Q) : ∀ k (m : MtD), m ∈ (sweepP Q k).2 ↔ ∃ j a b, j < k ∧ Q[j]? = some a ∧ b ∈ Q.take j ∧ meetsQ a.2 b.2 ≠ 0 ∧ m = pairM a b
 |0, m => by simp [sweepP]
 |k + 1, m => by
  have ih := found_mem hs k m
  cases hq : Q[k]? with
  |none =>
   have e : sweepP Q (k + 1) = sweepP Q k := by rw [sweepP, hq]
   rw [e, ih]
   constructor
   ·rintro ⟨j, a, b, hj, h⟩; exact ⟨j, a, b, by omega, h⟩
   ·rintro ⟨j, a, b, hj, h⟩
    refine ⟨j, a, b, ?_, h⟩
    have : j ≠ k := fun e => by subst e; rw [hq] at h; cases h.1
    omega
  |some a =>
   rw [sweepP_succ hq]
   simp only [List.mem_append]
   rw [ih, List.mem_filterMap]
   constructor
   ·rintro (⟨j, a', b, hj, h⟩ | ⟨b, hb, hf⟩)
    ·exact ⟨j, a', b, by omega, h⟩
    ·rw [keep_mem hs hq] at hb
     unfold foundM at hf
     split at hf
     ·split at hf
      ·cases hf
      ·rename_i hne
       injection hf with hf
       exact ⟨k, a, b, Nat.lt_succ_self _, hq, hb.1, hne, hf.symm⟩
     ·cases hf
   ·rintro ⟨j, a', b, hj, h1, h2, h3, h4⟩
    by_cases e : j = k
    ·subst e
     rw [hq] at h1
     injection h1 with h1
     subst h1
     right
     refine ⟨b, (keep_mem hs hq b).2 ⟨h2, (box_meet h3).1⟩, ?_⟩
     unfold foundM
     rw [if_pos (box_meet h3).2, if_neg h3, h4]
    ·exact Or.inl ⟨j, a', b, by omega, h1, h2, h3, h4⟩
theorem meetsQ_comm (s t : Sg) : meetsQ t s = meetsQ s t := by rw [meetsQ_eq, meetsQ_eq, meetsR_comm]
theorem sweep_found {S : List Sg} {Q : List ItD} (hp : Q.Perm (itemsP S)) (hs : SortI Q) (m : MtD) :
  m ∈ (sweepP Q Q.length).2 ↔ ∃ s t, m.1 < m.2.1 ∧ S[m.1]? = some s ∧ S[m.2.1]? = some t ∧ m.2.2 = meetsQ s t ∧ m.2.2 ≠ 0 := by
 have hnd : Q.Pairwise fun x y => x.1 ≠ y.1 := by
  have h1 : (itemsP S).Pairwise fun x y => x.1 ≠ y.1 := by
   unfold itemsP
   rw [List.pairwise_map]
   exact List.nodup_range.imp fun h => h
  exact (hp.pairwise_iff (fun h => Ne.symm h)).2 h1
 have hmem : ∀ x, x ∈ Q ↔ S[x.1]? = some x.2 := fun x => by rw [hp.mem_iff, itemsP_mem]
 rw [found_mem hs]
 constructor
 ·rintro ⟨j, a, b, hj, ha, hb, hne, rfl⟩
  have hbQ : b ∈ Q := List.mem_of_mem_take hb
  have haQ := List.mem_of_getElem? ha
  have hab : b.1 ≠ a.1 := by
   obtain ⟨i, hi⟩ := List.getElem?_of_mem hb
   have hij : i < j := by
    have := (List.getElem?_eq_some_iff.1 hi).1
    rw [List.length_take] at this; omega
   obtain ⟨i1, i2⟩ := List.getElem?_eq_some_iff.1 (take_get hi)
   obtain ⟨j1, j2⟩ := List.getElem?_eq_some_iff.1 ha
   have := List.pairwise_iff_getElem.1 hnd i j i1 j1 hij
   rw [i2, j2] at this; exact this
  have e1 := (hmem a).1 haQ
  have e2 := (hmem b).1 hbQ
  unfold pairM
  simp only
  rcases Nat.lt_or_gt_of_ne hab with h | h
  ·rw [Nat.min_eq_right (by omega), Nat.max_eq_left (by omega)]
   exact ⟨b.2, a.2, h, e2, e1, meetsQ_comm _ _, hne⟩
  ·rw [Nat.min_eq_left (by omega), Nat.max_eq_right (by omega)]
   exact ⟨a.2, b.2, h, e1, e2, rfl, hne⟩
 ·rintro ⟨s, t, hlt, h1, h2, h3, h4⟩
  obtain ⟨m1, m2, mk⟩ := m
  simp only at hlt h1 h2 h3 h4
  obtain ⟨i, hi⟩ := List.getElem?_of_mem ((hmem (m1, s)).2 h1)
  obtain ⟨j, hj⟩ := List.getElem?_of_mem ((hmem (m2, t)).2 h2)
  obtain ⟨i1, i2⟩ := List.getElem?_eq_some_iff.1 hi
  obtain ⟨j1, j2⟩ := List.getElem?_eq_some_iff.1 hj
  subst h3
  rcases Nat.lt_trichotomy i j with h | h | h
  ·refine ⟨j, (m2, t), (m1, s), j1, hj, ?_, by rw [meetsQ_comm]; exact h4, ?_⟩
   ·exact List.mem_of_getElem? (show (Q.take j)[i]? = some (m1, s) by rw [List.getElem?_take, if_pos h]; exact hi)
   ·unfold pairM
    simp only
    rw [Nat.min_eq_right (by omega), Nat.max_eq_left (by omega), meetsQ_comm]
  ·subst h
   rw [hi] at hj
   injection hj with hj
   injection hj with hj _
   omega
  ·refine ⟨i, (m1, s), (m2, t), i1, hi, ?_, h4, ?_⟩
   ·exact List.mem_of_getElem? (show (Q.take i)[j]? = some (m2, t) by rw [List.getElem?_take, if_pos h]; exact hj)
   ·unfold pairM
    simp only
    rw [Nat.min_eq_left (by omega), Nat.max_eq_right (by omega)]
theorem sweep_lens (Q : List ItD) : ∀ k, (sweepP Q k).1.length ≤ k ∧ (sweepP Q k).2.length ≤ k * k
 |0 => by simp [sweepP]
 |k + 1 => by
  obtain ⟨h1, h2⟩ := sweep_lens Q k
  have hmul : (k + 1) * (k + 1) = k * k + k + k + 1 := by rw [Nat.add_mul, Nat.mul_add]; omega
  cases hq : Q[k]? with
  |none =>
   have e : sweepP Q (k + 1) = sweepP Q k := by rw [sweepP, hq]
   rw [e, hmul]; omega
  |some a =>
   rw [sweepP_succ hq, hmul]
   have h3 : (keepA a (sweepP Q k).1).length ≤ (sweepP Q k).1.length := List.length_filter_le _ _
   have h4 := List.length_filterMap_le (foundM a) (keepA a (sweepP Q k).1)
   simp only [List.length_append, List.length_singleton]
   omega
end Go.Proofs.YtibpaaajghbkoaaGreat
