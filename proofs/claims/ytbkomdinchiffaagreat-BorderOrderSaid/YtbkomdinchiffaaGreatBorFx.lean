/- How many borders and violations there are; a map without some objects. -/
import Derived.Test.YtbkomdinchiffaaGreatBorX
import Derived.Test.YtbkomdinchiffaaGreatBorLaw
namespace Go.Proofs.YtbkomdinchiffaaGreat
open Go.RowKit Go.Sort

theorem from_sub : ∀ {M l : List ObjD}, M.Sublist l → ∀ last, objsFrom last l = true → objsFrom last M = true
  | _, _, .slnil, _, _ => rfl
  | _, _, .cons o h, last, hl => by
    simp only [objsFrom, Bool.and_eq_true] at hl
    exact objsFrom_weak hl.1.2 (from_sub h _ hl.2)
  | _, _, .cons_cons o h, last, hl => by
    simp only [objsFrom, Bool.and_eq_true] at hl ⊢
    exact ⟨hl.1, from_sub h _ hl.2⟩
theorem ok_sub {M l : List ObjD} (h : M.Sublist l) (hl : mapOK l = true) : mapOK M = true := by
  simp only [mapOK, Bool.and_eq_true, decide_eq_true_eq] at hl ⊢
  exact ⟨Nat.le_trans h.length_le hl.1, from_sub h _ hl.2⟩
theorem keys_lenR {l : List ObjD} (c : Nat) (h : ∀ o ∈ l, o.refs.length ≤ c) : (keysP l).length ≤ c * l.length := by
  have hi : ∀ (k : KeyD) (l : List KeyD), (insK k l).length ≤ l.length + 1 := by
    intro k l
    induction l with
    | nil => simp [insK]
    | cons x l ih => rw [insK]; split; · simp; omega
                     split <;> simp
  have h1 : ∀ (ks acc : List KeyD), (ks.foldl (fun acc k => insK k acc) acc).length ≤ acc.length + ks.length := by
    intro ks
    induction ks with
    | nil => intro acc; simp
    | cons k ks ih =>
      intro acc
      rw [List.foldl_cons]
      have := ih (insK k acc)
      have := hi k acc
      simp; omega
  have h2 : ∀ os : List ObjD, (∀ o ∈ os, o.refs.length ≤ c) → (os.flatMap sidesP).length ≤ c * os.length := by
    intro os
    induction os with
    | nil => intro _; simp
    | cons o os ih =>
      intro hr
      rw [List.flatMap_cons, List.length_append]
      have := ih fun x hx => hr x (List.mem_cons_of_mem _ hx)
      have h3 := hr o (List.mem_cons_self ..)
      have : (sidesP o).length ≤ c := by unfold sidesP sideN; rw [List.length_map, List.length_range]; split <;> omega
      rw [List.length_cons, Nat.mul_succ]; omega
  have h3 := h1 ((l.filter (isB l)).flatMap sidesP) []
  have h4 := h2 (l.filter (isB l)) fun o ho => h o (List.mem_filter.1 ho).1
  have h5 := Nat.mul_le_mul (Nat.le_refl c) (List.length_filter_le (isB l) l)
  unfold keysP setK
  simp only [List.length_nil, Nat.zero_add] at h3
  omega
/-- A list without some of its ways and areas. -/
def LessOf (l M : List ObjD) : Prop := M.Sublist l ∧ ∀ o ∈ l, o.kind ≠ 2 → o.kind ≠ 3 → o ∈ M
theorem LessOf.nil : LessOf [] [] := ⟨List.Sublist.refl _, fun o ho => by cases ho⟩
theorem LessOf.keep {l M : List ObjD} {k : Nat} {o : ObjD} (h : LessOf (l.take k) M) (ho : l[k]? = some o) : LessOf (l.take (k + 1)) (M ++ [o]) := by
  obtain ⟨hk, rfl⟩ := List.getElem?_eq_some_iff.1 ho
  rw [List.take_succ_eq_append_getElem hk]
  refine ⟨h.1.append (List.Sublist.refl _), fun o ho h2 h3 => ?_⟩
  rcases List.mem_append.1 ho with ho | ho
  · exact List.mem_append_left _ (h.2 o ho h2 h3)
  · exact List.mem_append_right _ ho
theorem LessOf.drop {l M : List ObjD} {k : Nat} {o : ObjD} (h : LessOf (l.take k) M) (ho : l[k]? = some o) (hk : o.kind = 2 ∨ o.kind = 3) : LessOf (l.take (k + 1)) M := by
  obtain ⟨hk', rfl⟩ := List.getElem?_eq_some_iff.1 ho
  rw [List.take_succ_eq_append_getElem hk']
  refine ⟨h.1.trans (List.sublist_append_left _ _), fun o ho h2 h3 => ?_⟩
  rcases List.mem_append.1 ho with ho | ho
  · exact h.2 o ho h2 h3
  · rw [List.mem_singleton.1 ho] at h2 h3
    rcases hk with hk | hk
    · exact absurd hk h2
    · exact absurd hk h3
theorem LessOf.sub {l M : List ObjD} (h : LessOf l M) (hl : mapOK l = true) : SubM M l := by
  have hM := ok_sub h.1 hl
  refine ⟨hM, hl, fun o ho => ⟨o, h.1.subset ho, SameT.refl o⟩, fun o _ _ r _ => ?_⟩
  refine Option.ext fun q => ?_
  rw [nodeAt_iff hM, nodeAt_iff hl]
  constructor
  · rintro ⟨x, hx, h'⟩; exact ⟨x, h.1.subset hx, h'⟩
  · rintro ⟨x, hx, e, hk, hq⟩
    exact ⟨x, h.2 x hx (by omega) (by omega), e, hk, hq⟩

theorem check_len {l : List ObjD} (hl : l.length ≤ 1000) : (checkP l).length ≤ 1000000 := by
  have hp : ∀ (A B : List ByteArray), (A.flatMap fun a => B.map fun b => (a, b)).length = A.length * B.length := by
    intro A B
    induction A with
    | nil => simp
    | cons a A ih => rw [List.flatMap_cons, List.length_append, ih, List.length_map, List.length_cons, Nat.succ_mul, Nat.add_comm]
  have hid : ∀ x : ByteArray, (nodeAt l x).isSome = true → x ∈ l.map (·.id) := fun x hx => node_id hx
  have := nodup_le (checkP_sort l).nodup (M := (l.map (·.id)).flatMap fun a => (l.map (·.id)).map fun b => (a, b)) fun key hk => by
    have hk := checkP_mem.1 hk
    have : key.1 ∈ l.map (·.id) ∧ key.2 ∈ l.map (·.id) := by
      rcases bad_mem.1 hk with ⟨a, ha, b, hb, _, _, e⟩ | ⟨p, hp, q, hq, _, _, x, hx, y, hy, e⟩
      · have h1 := hid a (node_at ha)
        have h2 := hid b (node_at hb)
        rw [e]
        rcases key2_or a b with e | e <;> rw [e]
        · exact ⟨h1, h2⟩
        · exact ⟨h2, h1⟩
      · rw [(borders_mem.1 hp).2] at hx
        rw [(borders_mem.1 hq).2] at hy
        have h1 := own_ids hx
        have h2 := own_ids hy
        rw [e]
        rcases key2_or x y with e | e <;> rw [e]
        · exact ⟨h1, h2⟩
        · exact ⟨h2, h1⟩
    exact List.mem_flatMap.2 ⟨_, this.1, List.mem_map.2 ⟨_, this.2, rfl⟩⟩
  rw [hp, List.length_map] at this
  have h2 := Nat.mul_le_mul hl hl
  omega
end Go.Proofs.YtbkomdinchiffaaGreat
