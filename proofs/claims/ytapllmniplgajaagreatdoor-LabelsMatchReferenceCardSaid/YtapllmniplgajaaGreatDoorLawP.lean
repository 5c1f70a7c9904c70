/- The plain law of placing: the placed boxes lie inside the box, and no two have a common pixel. -/
import Derived.Test.YtapllmniplgajaaGreatDoorLabR
namespace Go.Proofs.YtapllmniplgajaaGreatDoor
open Go.Sort

structure ApartP (b : BoxD) (out : List PlaD) : Prop where
  inside : ∀ p ∈ out, insideB p.box b = true ∧ p.box.a ≤ p.box.c ∧ p.box.b ≤ p.box.d
  pair : out.Pairwise fun p q => overB q.box p.box = false

theorem apart_try (b : BoxD) (l : LabD) (hl : validL l = true) (out : List PlaD) (h : ApartP b out) : ∀ n i, ApartP b (tryAt b l out i n)
  | 0, _ => h
  | n + 1, i => by
    rw [tryAt]
    split
    · rename_i hf
      unfold freeB at hf
      rw [Bool.and_eq_true, Bool.not_eq_true'] at hf
      obtain ⟨hin, hov⟩ := hf
      obtain ⟨-, -, -, -, w1, -, h1, -⟩ := of_decide_eq_true hl
      refine ⟨fun p hp => ?_, List.pairwise_append.2 ⟨h.pair, List.pairwise_singleton _ _, fun p hp q hq => ?_⟩⟩
      · rcases List.mem_append.1 hp with hp | hp
        · exact h.inside p hp
        · rw [List.mem_singleton.1 hp]
          exact ⟨hin, by show (corner l i).1 ≤ (corner l i).1 + l.w - 1; omega, by show (corner l i).2 ≤ (corner l i).2 + l.h - 1; omega⟩
      · rw [List.mem_singleton.1 hq]
        have := List.any_eq_false.1 hov p hp
        simpa using this
    · exact apart_try b l hl out h n (i + 1)
theorem apart_fold (b : BoxD) : ∀ (ls : List LabD) (out : List PlaD), ApartP b out → ApartP b (ls.foldl (stepL b) out)
  | [], _, h => h
  | x :: ls, out, h => by
    rw [List.foldl_cons]
    refine apart_fold b ls _ ?_
    unfold stepL
    split
    · rename_i hv
      exact apart_try b x hv out h 4 0
    · exact h
theorem apart_place (b : BoxD) (ls : List LabD) : ApartP b (placeL b ls) := apart_fold b ls [] ⟨by simp, List.Pairwise.nil⟩
theorem place_length (b : BoxD) (l : List LabD) : (placeL b (isort (ltOf cfL) l)).length ≤ l.length := by
  have := place_len b (isort (ltOf cfL) l) []
  rw [isort_length] at this
  simpa [placeL] using this
theorem apart_get {b : BoxD} {out : List PlaD} (h : ApartP b out) {i j : Nat} {p q : PlaD} (hi : out[i]? = some p) (hj : out[j]? = some q) (hij : j < i) : overB p.box q.box = false := by
  obtain ⟨hi', rfl⟩ := List.getElem?_eq_some_iff.1 hi
  obtain ⟨hj', rfl⟩ := List.getElem?_eq_some_iff.1 hj
  exact List.pairwise_iff_getElem.1 h.pair j i hj' hi' hij
end Go.Proofs.YtapllmniplgajaaGreatDoor
