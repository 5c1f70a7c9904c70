/- The plain law of the zoom levels: each label has one at the next level, with the same size and rank, and a point that, halved, is the one here. -/
import Derived.Test.YtapllmniplgajaaGreatDoorLabs
import Derived.Test.YtapllmniplgajaaGreatDoorLawO
namespace Go.Proofs.YtapllmniplgajaaGreatDoor
open Go.Sort

theorem objsFrom_ids : ∀ (l : List ObjD) (last : ByteArray), objsFrom last l = true → (∀ o ∈ l, ltB last o.id = true) ∧ l.Pairwise fun x y => ltB x.id y.id = true
  | [], _, _ => ⟨by simp, List.Pairwise.nil⟩
  | x :: l, last, h => by
    simp only [objsFrom, Bool.and_eq_true] at h
    have ih := objsFrom_ids l x.id h.2
    refine ⟨fun o ho => ?_, List.pairwise_cons.2 ⟨ih.1, ih.2⟩⟩
    rcases List.mem_cons.1 ho with rfl | ho
    · exact h.1.2
    · exact ltB_trans h.1.2 (ih.1 o ho)
theorem map_ids {l : List ObjD} (h : mapOK l = true) : l.Pairwise fun x y => ltB x.id y.id = true := by
  unfold mapOK at h
  rw [Bool.and_eq_true] at h
  exact (objsFrom_ids l _ h.2).2
theorem lab1_some {l : List ObjD} {k : Nat} {langs : List ByteArray} {o : ObjD} {x : LabD} (h : lab1 l k langs o = some x) :
    ∃ p, anchorO l o = some p ∧ (bestB o.tags langs).1.size ≠ 0 ∧ ¬ (k : Int) < levelO o.tags ∧ x = ⟨o.id, pxZ k p.1, pxZ k p.2, 6 * (bestB o.tags langs).1.size, 12, 10 * levelO o.tags + o.kind⟩ := by
  unfold lab1 at h
  split at h
  · cases h
  · rename_i h1
    split at h
    · cases h
    · rename_i h2
      cases ha : anchorO l o with
      | none => rw [ha] at h; cases h
      | some p => rw [ha] at h; simp only [Option.map_some] at h; injection h with h; exact ⟨p, rfl, h1, h2, h.symm⟩
theorem lab1_of {l : List ObjD} {k : Nat} {langs : List ByteArray} {o : ObjD} {p : Int × Int} (h1 : anchorO l o = some p) (h2 : (bestB o.tags langs).1.size ≠ 0) (h3 : ¬ (k : Int) < levelO o.tags) :
    lab1 l k langs o = some ⟨o.id, pxZ k p.1, pxZ k p.2, 6 * (bestB o.tags langs).1.size, 12, 10 * levelO o.tags + o.kind⟩ := by
  unfold lab1
  rw [if_neg h2, if_neg h3, h1]; rfl
theorem px_half (k : Nat) (hk : k < 17) (c : Int) : pxZ (k + 1) c / 2 = pxZ k c := by
  unfold pxZ
  rw [show 20 - k = (20 - (k + 1)) + 1 by omega, Int.ediv_ediv_of_nonneg (Int.le_of_lt (Int.pow_pos (by decide))), Int.pow_succ]
theorem labs_dist {l : List ObjD} (h : mapOK l = true) (k : Nat) (langs : List ByteArray) : DistL (l.filterMap (lab1 l k langs)) := by
  refine List.pairwise_filterMap.2 ((map_ids h).imp fun {a b} hab x hx y hy => ?_)
  obtain ⟨_, _, _, _, rfl⟩ := lab1_some hx
  obtain ⟨_, _, _, _, rfl⟩ := lab1_some hy
  intro e
  simp only at e
  rw [e, ltB_irrefl] at hab
  cases hab
/-- The first label with an Id. -/
def findL (id : ByteArray) (l : List LabD) : Option LabD := l.find? fun y => decide (y.id = id)
theorem find_dist : ∀ (l : List LabD) (y : LabD), DistL l → y ∈ l → findL y.id l = some y
  | x :: l, y, hd, hy => by
    have h := List.pairwise_cons.1 hd
    unfold findL
    rw [List.find?_cons]
    rcases List.mem_cons.1 hy with rfl | hy
    · simp
    · have hne : x.id ≠ y.id := h.1 y hy
      simp only [hne, decide_false]
      exact find_dist l y h.2 hy
theorem filterMap_le {α β γ : Type} (f : α → Option β) (g : α → Option γ) (h : ∀ a, (f a).isSome = true → (g a).isSome = true) : ∀ l : List α, (l.filterMap f).length ≤ (l.filterMap g).length
  | [] => Nat.le_refl _
  | a :: l => by
    have ih := filterMap_le f g h l
    have ha := h a
    rw [List.filterMap_cons, List.filterMap_cons]
    cases hf : f a <;> cases hg : g a <;> simp_all <;> omega
theorem lab1_next {l : List ObjD} {k : Nat} (hk : k < 17) {langs : List ByteArray} {o : ObjD} {x : LabD} (h : lab1 l k langs o = some x) :
    ∃ y, lab1 l (k + 1) langs o = some y ∧ y.id = x.id ∧ y.w = x.w ∧ y.h = x.h ∧ y.rank = x.rank ∧ y.x / 2 = x.x ∧ y.y / 2 = x.y := by
  obtain ⟨p, h1, h2, h3, rfl⟩ := lab1_some h
  exact ⟨_, lab1_of h1 h2 (by omega), rfl, rfl, rfl, rfl, px_half k hk _, px_half k hk _⟩
/-- What the law compares. -/
theorem zoom_plain (l : List ObjD) (h : mapOK l = true) (k : Nat) (hk : k < 17) (langs : List ByteArray) :
    (∀ x ∈ labelsL l k langs, ∃ y, findL x.id (labelsL l (k + 1 : Nat) langs) = some y ∧ y.w = x.w ∧ y.h = x.h ∧ y.rank = x.rank ∧ y.x / 2 = x.x ∧ y.y / 2 = x.y) ∧ (labelsL l k langs).length ≤ (labelsL l (k + 1 : Nat) langs).length := by
  have e1 : labelsL l k langs = isort (ltOf cfL) (l.filterMap (lab1 l k langs)) := by
    unfold labelsL
    rw [h, decide_eq_true (show (0 : Int) ≤ (k : Int) ∧ (k : Int) ≤ 17 by omega), Int.toNat_natCast]; rfl
  have e2 : labelsL l (k + 1 : Nat) langs = isort (ltOf cfL) (l.filterMap (lab1 l (k + 1) langs)) := by
    unfold labelsL
    rw [h, decide_eq_true (show (0 : Int) ≤ ((k + 1 : Nat) : Int) ∧ ((k + 1 : Nat) : Int) ≤ 17 by omega), Int.toNat_natCast]; rfl
  rw [e1, e2]
  constructor
  · intro x hx
    have hx2 := (isort_perm _ _).mem_iff.1 hx
    obtain ⟨o, ho, hox⟩ := List.mem_filterMap.1 hx2
    obtain ⟨y, hy, h1, h2⟩ := lab1_next hk hox
    refine ⟨y, ?_, h2⟩
    rw [← h1]
    exact find_dist _ y (dist_perm (isort_perm _ _).symm (labs_dist h (k + 1) langs)) ((isort_perm _ _).mem_iff.2 (List.mem_filterMap.2 ⟨o, ho, hy⟩))
  · rw [isort_length, isort_length]
    refine filterMap_le _ _ (fun o ho => ?_) l
    obtain ⟨x, hx⟩ := Option.isSome_iff_exists.1 ho
    obtain ⟨y, hy, _⟩ := lab1_next hk hx
    rw [hy]; rfl
end Go.Proofs.YtapllmniplgajaaGreatDoor
