/- The plain law of the places: what is placed at each label, in the order of importance. -/
import Derived.Test.YtapllmniplgajaaGreatDoorLawO
namespace Go.Proofs.YtapllmniplgajaaGreatDoor
open Go.Sort

/-- What is placed of the first i labels. -/
def placedL (b : BoxD) (S : List LabD) (i : Nat) : List PlaD := (S.take i).foldl (stepL b) []
theorem placedL_succ (b : BoxD) (S : List LabD) (i : Nat) (x : LabD) (hx : S[i]? = some x) : placedL b S (i + 1) = stepL b (placedL b S i) x := place_take b S i x hx
theorem placed_split (b : BoxD) (S : List LabD) (i : Nat) : ∃ r, placeL b S = placedL b S i ++ r ∧ ∀ p ∈ r, ∃ y ∈ S.drop i, p.id = y.id := by
  obtain ⟨r, h1, h2⟩ := fold_app b (S.drop i) (placedL b S i)
  refine ⟨r, ?_, h2⟩
  rw [← h1]
  unfold placeL placedL
  rw [← List.foldl_append, List.take_append_drop]
theorem placed_get (b : BoxD) (S : List LabD) (i j : Nat) (hj : j < (placedL b S i).length) : (placeL b S)[j]? = (placedL b S i)[j]? := by
  obtain ⟨r, h, _⟩ := placed_split b S i
  rw [h, List.getElem?_append_left hj]
theorem placed_le (b : BoxD) (S : List LabD) (i : Nat) : (placedL b S i).length ≤ (placeL b S).length := by
  obtain ⟨r, h, _⟩ := placed_split b S i
  rw [h, List.length_append]; omega
/-- No later place bears the Id of a label that is left out. -/
theorem next_other (b : BoxD) (S : List LabD) (hd : DistL S) (i : Nat) (x : LabD) (hx : S[i]? = some x) (h : placedL b S (i + 1) = placedL b S i) (p : PlaD) (hp : (placeL b S)[(placedL b S i).length]? = some p) : p.id ≠ x.id := by
  obtain ⟨r, h1, h2⟩ := placed_split b S (i + 1)
  rw [h] at h1
  rw [h1, List.getElem?_append_right (Nat.le_refl _), Nat.sub_self] at hp
  obtain ⟨y, hy, e⟩ := h2 p (List.mem_of_getElem? hp)
  rw [e]
  obtain ⟨hi, rfl⟩ := List.getElem?_eq_some_iff.1 hx
  obtain ⟨j, hj, rfl⟩ := List.getElem_of_mem hy
  rw [List.length_drop] at hj
  rw [List.getElem_drop]
  exact (Ne.symm (List.pairwise_iff_getElem.1 hd i (i + 1 + j) hi (by omega) (by omega)))
theorem place_step (b : BoxD) (S : List LabD) (hd : DistL S) (i : Nat) (x : LabD) (hx : S[i]? = some x) :
    (validL x = false ∧ placedL b S (i + 1) = placedL b S i ∧ ∀ p, (placeL b S)[(placedL b S i).length]? = some p → p.id ≠ x.id) ∨
    (validL x = true ∧ placedL b S (i + 1) = placedL b S i ∧ (∀ p, (placeL b S)[(placedL b S i).length]? = some p → p.id ≠ x.id) ∧ ∀ j, j < 4 → freeB b (placeB x j) (placedL b S i) = false) ∨
    (validL x = true ∧ ∃ j, j < 4 ∧ (placedL b S (i + 1)).length = (placedL b S i).length + 1 ∧ (placedL b S i).length < (placeL b S).length ∧ (placeL b S)[(placedL b S i).length]? = some ⟨x.id, placeB x j⟩ ∧ freeB b (placeB x j) (placedL b S i) = true ∧ ∀ j', j' < j → freeB b (placeB x j') (placedL b S i) = false) := by
  have e := placedL_succ b S i x hx
  cases hv : validL x with
  | false =>
    have e2 : placedL b S (i + 1) = placedL b S i := by rw [e]; unfold stepL; rw [hv]; rfl
    exact Or.inl ⟨rfl, e2, next_other b S hd i x hx e2⟩
  | true =>
    have e1 : stepL b (placedL b S i) x = tryAt b x (placedL b S i) 0 4 := by unfold stepL; rw [hv]; rfl
    rcases try_app b x (placedL b S i) 4 0 with ⟨h1, h2⟩ | ⟨j, h1, h2, h3, h4, h5⟩
    · have e2 : placedL b S (i + 1) = placedL b S i := by rw [e, e1, h1]
      exact Or.inr (Or.inl ⟨rfl, e2, next_other b S hd i x hx e2, fun j hj => h2 j (Nat.zero_le _) (by omega)⟩)
    · have e2 : placedL b S (i + 1) = placedL b S i ++ [⟨x.id, placeB x j⟩] := by rw [e, e1, h4]
      have hl : (placedL b S (i + 1)).length = (placedL b S i).length + 1 := by rw [e2]; simp
      have hp := placed_get b S (i + 1) (placedL b S i).length (by omega)
      have hle := placed_le b S (i + 1)
      rw [e2, List.getElem?_append_right (Nat.le_refl _), Nat.sub_self] at hp
      exact Or.inr (Or.inr ⟨rfl, j, by omega, hl, by omega, hp, h3, fun j' hj' => h5 j' (Nat.zero_le _) hj'⟩)
end Go.Proofs.YtapllmniplgajaaGreatDoor
