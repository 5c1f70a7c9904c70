/- The plain law of the order: labels with different Ids are sorted in one way; the least important one changes nothing. -/
import Derived.Test.YtapllmniplgajaaGreatDoorLawP
import Derived.Test.YtapllmniplgajaaGreatDoorLawS
namespace Go.Proofs.YtapllmniplgajaaGreatDoor
open Go.Sort

/-- Labels with different Ids. -/
def DistL (l : List LabD) : Prop := l.Pairwise fun x y => x.id ≠ y.id
theorem insL_perm {α : Type} (lt : α → α → Bool) (x : α) : ∀ L : List α, (insL lt x L).Perm (x :: L)
  | [] => by simp [insL]
  | y :: L => by
    rw [insL]
    split
    · exact List.Perm.refl _
    · exact ((insL_perm lt x L).cons y).trans (List.Perm.swap x y L)
theorem foldl_perm {α : Type} (lt : α → α → Bool) : ∀ (L acc : List α), (L.foldl (fun acc x => insL lt x acc) acc).Perm (acc ++ L)
  | [], acc => by simp
  | x :: L, acc => by
    rw [List.foldl_cons]
    refine (foldl_perm lt L _).trans ?_
    refine ((insL_perm lt x acc).append_right L).trans ?_
    rw [List.cons_append]
    exact List.perm_middle.symm
theorem isort_perm {α : Type} (lt : α → α → Bool) (L : List α) : (isort lt L).Perm L := by
  have := foldl_perm lt L []
  simpa [isort] using this
theorem dist_perm {l l' : List LabD} (h : l.Perm l') : DistL l → DistL l' := fun hd => (h.pairwise_iff (fun hxy => Ne.symm hxy)).1 hd
/-- Two ordered lists of the same elements, none of which is as important as another one, are one. -/
theorem ord_unique {α : Type} {lt : α → α → Bool} : ∀ (n : Nat) (A B : List α), A.length = n → A.Perm B → Ord lt A → Ord lt B → (∀ x ∈ A, ∀ y ∈ A, x = y ∨ lt x y = true ∨ lt y x = true) → A = B
  | 0, A, B, hn, hp, _, _, _ => by
    obtain rfl := List.length_eq_zero_iff.1 hn
    have := hp.length_eq
    exact (List.length_eq_zero_iff.1 (by simpa using this.symm)).symm
  | n + 1, x :: A, [], hn, hp, _, _, _ => by have := hp.length_eq; simp at this
  | n + 1, x :: A, y :: B, hn, hp, hA, hB, ht => by
    have hA' := List.pairwise_cons.1 hA
    have hB' := List.pairwise_cons.1 hB
    have hxB : x ∈ y :: B := hp.mem_iff.1 (List.mem_cons_self ..)
    have hyA : y ∈ x :: A := hp.mem_iff.2 (List.mem_cons_self ..)
    have hxy : x = y := by
      rcases List.mem_cons.1 hxB with h | h
      · exact h
      · rcases List.mem_cons.1 hyA with h' | h'
        · exact h'.symm
        · have h1 := hA'.1 y h'
          have h2 := hB'.1 x h
          rcases ht x (List.mem_cons_self ..) y (List.mem_cons_of_mem _ h') with h3 | h3 | h3
          · exact h3
          · rw [h2] at h3; cases h3
          · rw [h1] at h3; cases h3
    subst hxy
    rw [ord_unique n A B (by simpa using hn) (List.Perm.cons_inv hp) hA'.2 hB'.2 (fun a ha b hb => ht a (List.mem_cons_of_mem _ ha) b (List.mem_cons_of_mem _ hb))]
theorem bytes_total : ∀ (a b : List UInt8), Op.bytesLess a b = false → Op.bytesLess b a = false → a = b
  | [], [], _, _ => rfl
  | [], _ :: _, h, _ => by simp [Op.bytesLess] at h
  | _ :: _, [], _, h => by simp [Op.bytesLess] at h
  | x :: a, y :: b, h1, h2 => by
    simp only [Op.bytesLess] at h1 h2
    by_cases hxy : x = y
    · subst hxy
      simp at h1 h2
      rw [bytes_total a b h1 h2]
    · have hlt : x < y ∨ y < x := by
        rcases Nat.lt_trichotomy x.toNat y.toNat with h | h | h
        · exact Or.inl h
        · exact absurd (UInt8.toNat_inj.1 h) hxy
        · exact Or.inr h
      rcases hlt with h | h <;> simp_all
theorem ltB_total {a b : ByteArray} (h1 : ltB a b = false) (h2 : ltB b a = false) : a = b := by
  have := bytes_total a.toList b.toList h1 h2
  rw [ByteArray.toList_eq, ByteArray.toList_eq] at this
  exact ByteArray.ext (Array.toList_inj.mp this)
theorem cf_total {x y : LabD} (h : x.id ≠ y.id) : ltOf cfL x y = true ∨ ltOf cfL y x = true := by
  rw [cfL_lt, cfL_lt]
  simp only [Bool.or_eq_true, Bool.and_eq_true, decide_eq_true_eq]
  rcases Int.lt_trichotomy x.rank y.rank with h1 | h1 | h1
  · exact Or.inl (Or.inl h1)
  · cases h2 : ltB x.id y.id with
    | true => exact Or.inl (Or.inr ⟨h1, rfl⟩)
    | false =>
      cases h3 : ltB y.id x.id with
      | true => exact Or.inr (Or.inr ⟨h1.symm, rfl⟩)
      | false => exact absurd (ltB_total h2 h3) h
  · exact Or.inr (Or.inl h1)
theorem dist_mem {l : List LabD} (h : DistL l) : ∀ x ∈ l, ∀ y ∈ l, x = y ∨ x.id ≠ y.id := by
  intro x hx y hy
  obtain ⟨i, hi, rfl⟩ := List.getElem_of_mem hx
  obtain ⟨j, hj, rfl⟩ := List.getElem_of_mem hy
  rcases Nat.lt_trichotomy i j with hij | hij | hij
  · exact Or.inr (List.pairwise_iff_getElem.1 h i j hi hj hij)
  · subst hij; exact Or.inl rfl
  · exact Or.inr (Ne.symm (List.pairwise_iff_getElem.1 h j i hj hi hij))
theorem sort_unique {l l' : List LabD} (hd : DistL l) (hp : l.Perm l') : isort (ltOf cfL) l = isort (ltOf cfL) l' := by
  have hpp : (isort (ltOf cfL) l).Perm (isort (ltOf cfL) l') := (isort_perm _ l).trans (hp.trans (isort_perm _ l').symm)
  refine ord_unique _ _ _ rfl hpp (isort_ord _ swoL l) (isort_ord _ swoL l') ?_
  intro x hx y hy
  rcases dist_mem hd x ((isort_perm _ l).mem_iff.1 hx) y ((isort_perm _ l).mem_iff.1 hy) with h | h
  · exact Or.inl h
  · exact Or.inr (cf_total h)
/-- Sorting a sorted list with different Ids changes nothing. -/
theorem sort_sorted {S : List LabD} (hd : DistL S) (hS : Ord (ltOf cfL) S) : isort (ltOf cfL) S = S := by
  refine ord_unique _ _ _ rfl (isort_perm _ S) (isort_ord _ swoL S) hS ?_
  intro x hx y hy
  rcases dist_mem hd x ((isort_perm _ S).mem_iff.1 hx) y ((isort_perm _ S).mem_iff.1 hy) with h | h
  · exact Or.inl h
  · exact Or.inr (cf_total h)

/-- Placing appends, and what it appends bears the Ids of the labels. -/
theorem try_app (b : BoxD) (x : LabD) (out : List PlaD) : ∀ n i, (tryAt b x out i n = out ∧ ∀ j, i ≤ j → j < i + n → freeB b (placeB x j) out = false) ∨
    ∃ j, i ≤ j ∧ j < i + n ∧ freeB b (placeB x j) out = true ∧ tryAt b x out i n = out ++ [⟨x.id, placeB x j⟩] ∧ ∀ j', i ≤ j' → j' < j → freeB b (placeB x j') out = false
  | 0, i => Or.inl ⟨rfl, fun j h1 h2 => by omega⟩
  | n + 1, i => by
    rw [tryAt]
    cases hf : freeB b (placeB x i) out with
    | true => exact Or.inr ⟨i, Nat.le_refl _, by omega, hf, by simp, fun j' h1 h2 => by omega⟩
    | false =>
      simp only [Bool.false_eq_true, if_false]
      rcases try_app b x out n (i + 1) with ⟨h1, h2⟩ | ⟨j, h1, h2, h3, h4, h5⟩
      · refine Or.inl ⟨h1, fun j a c => ?_⟩
        by_cases hj : j = i
        · rw [hj]; exact hf
        · exact h2 j (by omega) (by omega)
      · refine Or.inr ⟨j, by omega, by omega, h3, h4, fun j' a c => ?_⟩
        by_cases hj : j' = i
        · rw [hj]; exact hf
        · exact h5 j' (by omega) c
theorem stepL_app (b : BoxD) (x : LabD) (out : List PlaD) : stepL b out x = out ∨ ∃ j, j < 4 ∧ validL x = true ∧ stepL b out x = out ++ [⟨x.id, placeB x j⟩] := by
  unfold stepL
  split
  · rename_i hv
    rcases try_app b x out 4 0 with ⟨h1, _⟩ | ⟨j, _, h2, _, h4, _⟩
    · exact Or.inl h1
    · exact Or.inr ⟨j, by omega, hv, h4⟩
  · exact Or.inl rfl
theorem fold_app (b : BoxD) : ∀ (ls : List LabD) (out : List PlaD), ∃ r, ls.foldl (stepL b) out = out ++ r ∧ ∀ p ∈ r, ∃ y ∈ ls, p.id = y.id
  | [], out => ⟨[], by simp, by simp⟩
  | x :: ls, out => by
    rw [List.foldl_cons]
    obtain ⟨r, h1, h2⟩ := fold_app b ls (stepL b out x)
    rcases stepL_app b x out with h | ⟨j, _, _, h⟩
    · rw [h] at h1
      rw [h]
      exact ⟨r, h1, fun p hp => by obtain ⟨y, hy, e⟩ := h2 p hp; exact ⟨y, List.mem_cons_of_mem _ hy, e⟩⟩
    · refine ⟨⟨x.id, placeB x j⟩ :: r, by rw [h1, h, List.append_assoc]; rfl, fun p hp => ?_⟩
      rcases List.mem_cons.1 hp with rfl | hp
      · exact ⟨x, List.mem_cons_self .., rfl⟩
      · obtain ⟨y, hy, e⟩ := h2 p hp; exact ⟨y, List.mem_cons_of_mem _ hy, e⟩

/-- Without the least important label, all others are placed as with it. -/
theorem place_less (b : BoxD) (S' : List LabD) (x : LabD) (hd : DistL (S' ++ [x])) :
    (placeL b (S' ++ [x]) = placeL b S' ∧ ∀ p, (placeL b (S' ++ [x])).getLast? = some p → p.id ≠ x.id) ∨
    ∃ p, p.id = x.id ∧ placeL b (S' ++ [x]) = placeL b S' ++ [p] := by
  have e : placeL b (S' ++ [x]) = stepL b (placeL b S') x := by unfold placeL; rw [List.foldl_append]; rfl
  rcases stepL_app b x (placeL b S') with h | ⟨j, _, _, h⟩
  · left
    refine ⟨e.trans h, fun p hp => ?_⟩
    rw [e, h] at hp
    obtain ⟨r, h1, h2⟩ := fold_app b S' []
    have hm : p ∈ placeL b S' := List.mem_of_getLast? hp
    obtain ⟨y, hy, hid⟩ := h2 p (by unfold placeL at hm; rw [h1] at hm; simpa using hm)
    rw [hid]
    exact (List.pairwise_append.1 hd).2.2 y hy x (by simp)
  · exact Or.inr ⟨⟨x.id, placeB x j⟩, rfl, e.trans h⟩
end Go.Proofs.YtapllmniplgajaaGreatDoor
