/- Contract of label.Labels. -/
import Derived.Test.YtapllmniplgajaaGreatDoorAnc
import Derived.Test.YtapllmniplgajaaGreatDoorPix
import Derived.Test.YtapllmniplgajaaGreatDoorNamCD
import Derived.Test.YtapllmniplgajaaGreatDoorLevB
namespace Go.Proofs.YtapllmniplgajaaGreatDoor
open Go.RowKit Go.Sort

/-- A coordinate of a pixel. -/
def pxZ (k : Nat) (c : Int) : Int := c * 256 / 2 ^ (20 - k)
/-- The label of an object of a map, where it has one. -/
def lab1 (l : List ObjD) (k : Nat) (langs : List ByteArray) (o : ObjD) : Option LabD :=
  if (bestB o.tags langs).1.size = 0 then none else if (k : Int) < levelO o.tags then none else
    (anchorO l o).map fun p => ⟨o.id, pxZ k p.1, pxZ k p.2, 6 * (bestB o.tags langs).1.size, 12, 10 * levelO o.tags + o.kind⟩
/-- The labels of a map, the most important one first. -/
def labelsL (l : List ObjD) (z : Int) (langs : List ByteArray) : List LabD :=
  if mapOK l && decide (0 ≤ z ∧ z ≤ 17) then isort (ltOf cfL) (l.filterMap (lab1 l z.toNat langs)) else []

theorem tags_vals : ∀ (l : List TagD) (last : ByteArray), tagsFrom last l = true → ∀ t ∈ l, t.val.size ≤ 200
  | [], _, _, t, ht => by cases ht
  | x :: l, last, h, t, ht => by
    simp only [tagsFrom, Bool.and_eq_true, decide_eq_true_eq] at h
    rcases List.mem_cons.1 ht with rfl | ht
    · exact h.1.2.2
    · exact tags_vals l x.key h.2 t ht
theorem bestF_val (langs : List ByteArray) (P : TagD → Prop) (h0 : P ⟨⟨#[]⟩, ⟨#[]⟩⟩) : ∀ (l : List (ByteArray × TagD)) (st : TagD × Int), P st.1 → (∀ p ∈ l, P p.2) → P (l.foldl (bestStep langs) st).1
  | [], st, h, _ => h
  | p :: l, st, h, hp => by
    rw [List.foldl_cons]
    refine bestF_val langs P h0 l _ ?_ (fun q hq => hp q (List.mem_cons_of_mem _ hq))
    unfold bestStep
    split
    · exact hp p (List.mem_cons_self ..)
    · exact h
theorem best_size (tags : List TagD) (langs : List ByteArray) : (bestB tags langs).1.size ≤ 200 := by
  unfold bestB
  cases hok : tagsOK tags
  · exact Nat.zero_le _
  · have h := hok
    simp only [tagsOK, Bool.and_eq_true] at h
    have hv := tags_vals tags _ h.2
    show (bestF langs (namesL tags)).1.val.size ≤ 200
    refine bestF_val langs (fun t => t.val.size ≤ 200) (Nat.zero_le _) _ _ (Nat.zero_le _) ?_
    intro p hp
    obtain ⟨t, ht, e⟩ := List.mem_filterMap.1 (show p ∈ tags.filterMap (fun t => (langB t.key).map fun s => (s, t)) from hp)
    cases hl : langB t.key with
    | none => rw [hl] at e; cases e
    | some s => rw [hl] at e; simp only [Option.map_some] at e; injection e with e; subst e; exact hv t ht
theorem obj_kind {o : ObjD} (h : objOK o = true) : 1 ≤ o.kind ∧ o.kind ≤ 5 := by
  simp only [objOK, Bool.and_eq_true, decide_eq_true_eq] at h
  exact h.1.1.1.1.1.1
theorem on_near {p : Int × Int} (h : onG p) : nearB p.1 p.2 = true := by unfold onG at h; unfold nearB; rw [decide_eq_true_eq]; omega
theorem anchor_near (l : List ObjD) (o : ObjD) (p : Int × Int) (h : anchorO l o = some p) : nearB p.1 p.2 = true := by
  unfold anchorO at h
  have hp := pts_on l o.id
  split at h
  · generalize (ptsO l o.id).1 = ps at h hp
    unfold anchorP at h
    split at h
    · cases h
    · rename_i hne
      split at h
      · injection h with h
        subst h
        have hpos : 0 < ps.length := List.length_pos_iff.2 hne
        obtain ⟨a0, a1, b0, b1⟩ := sum_bd ps hp.1
        have l1 : ∀ s : Int, s ≤ 1048576 * ps.length → s / ps.length ≤ 1048576 := fun s h1 => Int.ediv_le_of_le_mul (by omega) h1
        have c0 := Int.ediv_nonneg a0 (show (0 : Int) ≤ ps.length by omega)
        have c1 := Int.ediv_nonneg b0 (show (0 : Int) ≤ ps.length by omega)
        have d0 := l1 _ a1
        have d1 := l1 _ b1
        unfold nearB; rw [decide_eq_true_eq]; simp only; omega
      · exact on_near (hp.1 p (List.mem_of_getElem? h))
  · cases h
theorem labs_take (l : List ObjD) (n : Nat) (o : ObjD) (ho : l[n]? = some o) (f : ObjD → Option LabD) : (l.take (n + 1)).filterMap f = (l.take n).filterMap f ++ (match f o with | some x => [x] | none => []) := by
  obtain ⟨hk, rfl⟩ := List.getElem?_eq_some_iff.1 ho
  rw [List.take_succ_eq_append_getElem hk, List.filterMap_append]
  cases h : f l[n] <;> simp [h]
end Go.Proofs.YtapllmniplgajaaGreatDoor
