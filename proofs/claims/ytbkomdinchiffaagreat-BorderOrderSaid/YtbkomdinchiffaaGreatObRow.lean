/- Rows of objects of the call's own. -/
import Derived.Test.YtbkomdinchiffaaGreatSrcAB
import Derived.Test.YtbkomdinchiffaaGreatObjMN
namespace Go.Proofs.YtbkomdinchiffaaGreat
open Go.RowKit Go.Sort

abbrev ObM := ObjD × Value × Value
def encOb (x : ObM) : List Value := [.string x.1.id, .int .i64 x.1.kind, .int .i64 x.1.x, .int .i64 x.1.y, x.2.1, x.2.2]
theorem encOb_len (x : ObM) : (encOb x).length = 6 := rfl
/-- What the slices of an object lead to. -/
def ObOK (w : World) (x : ObM) : Prop := StrRow w x.2.1 x.1.refs ∧ TagRow w x.2.2 x.1.tags ∧ x.1.id.size ≤ 140737488355328
theorem ObOK.later {w w' : World} {x : ObM} (h : ObOK w x) (hb : Below w.heap.size w w') : ObOK w' x := ⟨h.1.later hb, h.2.1.later hb, h.2.2⟩
theorem ObOK.one {w : World} {x : ObM} (h : ObOK w x) : ∀ v ∈ encOb x, v.oneCell' = true := by
  obtain ⟨⟨a, c, e, _⟩, ⟨a2, c2, e2, _⟩, _⟩ := h
  intro v hv
  simp only [encOb, List.mem_cons, List.not_mem_nil, or_false] at hv
  rcases hv with rfl | rfl | rfl | rfl | rfl | rfl
  · rfl
  · rfl
  · rfl
  · rfl
  · rw [e]; rfl
  · rw [e2]; rfl
theorem list_choose {α β : Type} {P : Nat → α → β → Prop} : ∀ {l : List α}, (∀ i x, l[i]? = some x → ∃ y, P i x y) → ∃ L : List β, L.length = l.length ∧ ∀ i x y, l[i]? = some x → L[i]? = some y → P i x y
  | [], _ => ⟨[], rfl, fun i x y h => by simp at h⟩
  | a :: l, h => by
    obtain ⟨y0, h0⟩ := h 0 a rfl
    obtain ⟨L, h1, h2⟩ := list_choose (P := fun i x y => P (i + 1) x y) (l := l) fun i x hx => h (i + 1) x (by simpa using hx)
    refine ⟨y0 :: L, by simp [h1], fun i x y hx hy => ?_⟩
    cases i with
    | zero =>
      have e1 : a = x := by simpa using hx
      have e2 : y0 = y := by simpa using hy
      subst e1 e2; exact h0
    | succ i => exact h2 i x y (by simpa using hx) (by simpa using hy)
theorem objs_row {w : World} {v : Value} {l : List ObjD} (h : ObjsIs w v l) : ∃ L : List ObM, RowE encOb 6 w v L ∧ L.map (·.1) = l ∧ ∀ x ∈ L, ObOK w x := by
  obtain ⟨a, cap, rfl, hn, hc⟩ := h
  cases l with
  | nil => exact ⟨[], ⟨a, cap, rfl, fun h => by simp at h⟩, rfl, fun x hx => by cases hx⟩
  | cons o l =>
    obtain ⟨b, off, ha, hcell⟩ := hc (by simp)
    obtain ⟨Y, hl, hY⟩ := list_choose (β := Value × Value) (P := fun i (o : ObjD) y => RowE encOb 6 w (.slice (some ⟨b, off + i * 6, none⟩) 1 1) [(o, y)] ∧ ObOK w (o, y)) (l := o :: l) fun i x hx => by
      obtain ⟨vr, vt, h0, h1, h2, h3, h4, h5, hr, ht, hz⟩ := hcell i x hx
      refine ⟨(vr, vt), ⟨_, _, rfl, fun _ => ⟨b, off + i * 6, rfl, fun j y hj k u hu => ?_⟩⟩, hr, ht, hz⟩
      cases j with
      | succ j => simp at hj
      | zero =>
        have e : (x, vr, vt) = y := by simpa using hj
        subst e
        match k, hu with
        | 0, hu => injection hu with hu; subst hu; exact h0
        | 1, hu => injection hu with hu; subst hu; exact h1
        | 2, hu => injection hu with hu; subst hu; exact h2
        | 3, hu => injection hu with hu; subst hu; exact h3
        | 4, hu => injection hu with hu; subst hu; exact h4
        | 5, hu => injection hu with hu; subst hu; exact h5
        | k + 6, hu => cases hu
    have hget : ∀ (i : Nat) (x : ObM), ((o :: l).zip Y)[i]? = some x → (o :: l)[i]? = some x.1 ∧ Y[i]? = some x.2 := fun i x hx => by
      rw [List.getElem?_zip_eq_some] at hx
      exact hx
    refine ⟨(o :: l).zip Y, ⟨a, cap, ?_, fun _ => ⟨b, off, ha, fun i x hx k u hu => ?_⟩⟩, ?_, fun x hx => ?_⟩
    · rw [List.length_zip, hl, Nat.min_self]
    · obtain ⟨h1, h2⟩ := hget i x hx
      obtain ⟨⟨a2, c2, hv2, hc2⟩, _⟩ := hY i x.1 x.2 h1 h2
      injection hv2 with e1 _ _
      subst e1
      obtain ⟨b2, o2, e2, h3⟩ := hc2 (by simp)
      injection e2 with e2
      injection e2 with e2 e3
      subst e2 e3
      have := h3 0 x rfl k u hu
      simpa using this
    · exact List.map_fst_zip (by rw [hl]; exact Nat.le_refl _)
    · obtain ⟨i, hi⟩ := List.getElem?_of_mem hx
      obtain ⟨h1, h2⟩ := hget i x hi
      exact (hY i x.1 x.2 h1 h2).2
theorem objs_of {w : World} {v : Value} {L : List ObM} (h : RowE encOb 6 w v L) (hok : ∀ x ∈ L, ObOK w x) (hn : L.length ≤ 140737488355328) : ObjsIs w v (L.map (·.1)) := by
  obtain ⟨a, cap, rfl, hc⟩ := h
  refine ⟨a, cap, by rw [List.length_map], by rw [List.length_map]; exact hn, fun hp => ?_⟩
  rw [List.length_map] at hp
  obtain ⟨b, off, ha, hcell⟩ := hc hp
  refine ⟨b, off, ha, fun i o hi => ?_⟩
  rw [List.getElem?_map] at hi
  obtain ⟨x, hx, rfl⟩ := Option.map_eq_some_iff.1 hi
  obtain ⟨hr, ht, hz⟩ := hok x (List.mem_of_getElem? hx)
  exact ⟨_, _, hcell i x hx 0 _ rfl, hcell i x hx 1 _ rfl, hcell i x hx 2 _ rfl, hcell i x hx 3 _ rfl, hcell i x hx 4 _ rfl, hcell i x hx 5 _ rfl, hr, ht, hz⟩
theorem infoOb : (Tryz.prog.info? 59).map (fun i => (i.zero, i.size, i.bytes)) = some (some (.agg #[.string ⟨#[]⟩, .int .i64 0, .int .i64 0, .int .i64 0, .slice none 0 0, .slice none 0 0]), 6, 88) := by kernel_rfl
theorem obs_one {w : World} {L : List ObM} (h : ∀ x ∈ L, ObOK w x) : ∀ u ∈ L.flatMap encOb, u.oneCell' = true := fun u hu => by
  obtain ⟨x, hx, hu⟩ := List.mem_flatMap.1 hu
  exact (h x hx).one u hu
end Go.Proofs.YtbkomdinchiffaaGreat
