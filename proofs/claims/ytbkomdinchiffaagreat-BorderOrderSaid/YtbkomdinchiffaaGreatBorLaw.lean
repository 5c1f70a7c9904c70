/- Borders of maps that are alike, of a map with less or with more. No program in sight. Which maps the laws of borders make: without some objects, bare ones, with one object more. No program in sight. Borders without violations are free; a way more adds none exactly if its segment is free. No program in sight. The order of violations; who is named by them; what the law of the order and the reference note. No program in sight. What the reference's Check notes, in its order; how it adds one to its list. No program in sight. -/
import Derived.Test.YtbkomdinchiffaaGreatBorP
namespace Go.Proofs.YtbkomdinchiffaaGreat

theorem nodeAt_iff {l : List ObjD} (h : mapOK l = true) {r : ByteArray} {q : Int × Int} : nodeAt l r = some q ↔ ∃ o ∈ l, o.id = r ∧ o.kind = 1 ∧ q = (o.x, o.y) := by
  constructor
  · intro hn
    cases hp : posO r l with
    | none => rw [nodeAt_none l r hp] at hn; cases hn
    | some k =>
      obtain ⟨o, ho, e⟩ := posO_some r l k hp
      rw [nodeAt_some l r k hp o ho] at hn
      split at hn
      · rename_i hk
        exact ⟨o, List.mem_of_getElem? ho, e, hk, (Option.some.inj hn).symm⟩
      · cases hn
  · rintro ⟨o, ho, rfl, hk, rfl⟩
    obtain ⟨k, hk'⟩ := List.getElem?_of_mem ho
    rw [nodeAt_some l o.id k (pos_self h hk') o hk', if_pos hk]
/-- Two objects that differ in their tags alone. -/
def SameT (a b : ObjD) : Prop := a.id = b.id ∧ a.kind = b.kind ∧ a.x = b.x ∧ a.y = b.y ∧ a.refs = b.refs
theorem SameT.refl (a : ObjD) : SameT a a := ⟨rfl, rfl, rfl, rfl, rfl⟩
theorem SameT.symm {a b : ObjD} (h : SameT a b) : SameT b a := ⟨h.1.symm, h.2.1.symm, h.2.2.1.symm, h.2.2.2.1.symm, h.2.2.2.2.symm⟩
theorem SameT.sides {a b : ObjD} (h : SameT a b) : sidesP a = sidesP b := by
  unfold sidesP sideN sideAt refAt
  rw [h.2.1, h.2.2.2.2]
/-- Every border of the first map is one of the second one, with the same points. -/
structure SubM (l l' : List ObjD) : Prop where
  ok : mapOK l = true
  ok' : mapOK l' = true
  fwd : ∀ o ∈ l, ∃ o' ∈ l', SameT o o'
  nod : ∀ o ∈ l, o.kind = 2 ∨ o.kind = 3 → ∀ r ∈ o.refs, nodeAt l r = nodeAt l' r
theorem SubM.isB {l l' : List ObjD} (h : SubM l l') {o o' : ObjD} (ho : o ∈ l) (hs : SameT o o') : isB l o = isB l' o' := by
  unfold Proofs.YtbkomdinchiffaaGreat.isB
  rw [hs.2.1]
  by_cases hk : o'.kind = 2 ∨ o'.kind = 3
  · rw [decide_eq_true hk, Bool.true_and, Bool.true_and]
    unfold soundB
    rw [← hs.2.2.2.2]
    have hk' : o.kind = 2 ∨ o.kind = 3 := by rw [hs.2.1]; exact hk
    rw [Bool.eq_iff_iff, List.all_eq_true, List.all_eq_true]
    constructor
    · intro h2 r hr; rw [← h.nod o ho hk' r hr]; exact h2 r hr
    · intro h2 r hr; rw [h.nod o ho hk' r hr]; exact h2 r hr
  · rw [decide_eq_false hk, Bool.false_and, Bool.false_and]
theorem isB_kind {l : List ObjD} {o : ObjD} (h : isB l o = true) : o.kind = 2 ∨ o.kind = 3 := by
  unfold isB at h
  rw [Bool.and_eq_true, decide_eq_true_eq] at h
  exact h.1
theorem refAt_mem {o : ObjD} {i : Nat} (h : i < o.refs.length) : refAt o i ∈ o.refs := by
  unfold refAt
  rw [List.getElem?_eq_getElem h]
  exact List.getElem_mem h
theorem key2_cases {a b x : ByteArray} : x = (key2 a b).1 ∨ x = (key2 a b).2 ↔ x = a ∨ x = b := by
  rcases key2_or a b with e | e <;> rw [e]
  exact or_comm
theorem sides_refs {o : ObjD} {k : KeyD} (h : k ∈ sidesP o) {x : ByteArray} (hx : x = k.1 ∨ x = k.2) : x ∈ o.refs := by
  unfold sidesP at h
  obtain ⟨i, hi, rfl⟩ := List.mem_map.1 h
  rw [List.mem_range] at hi
  have hlt : i < o.refs.length := by unfold sideN at hi; split at hi <;> omega
  unfold sideAt at hx
  rcases key2_cases.1 hx with rfl | rfl
  · exact refAt_mem hlt
  · exact refAt_mem (Nat.mod_lt _ (by omega))
theorem SubM.keys {l l' : List ObjD} (h : SubM l l') {k : KeyD} (hk : k ∈ keysP l) : k ∈ keysP l' := by
  obtain ⟨o, ho, hb, hs⟩ := keysP_mem.1 hk
  obtain ⟨o', ho', hst⟩ := h.fwd o ho
  exact keysP_mem.2 ⟨o', ho', by rw [← h.isB ho hst]; exact hb, by rw [← hst.sides]; exact hs⟩
theorem SubM.own {l l' : List ObjD} (h : SubM l l') {k : KeyD} {id : ByteArray} (hk : id ∈ ownF l l k) : id ∈ ownF l' l' k := by
  obtain ⟨o, ho, hb, hs, e⟩ := ownF_mem.1 hk
  obtain ⟨o', ho', hst⟩ := h.fwd o ho
  exact ownF_mem.2 ⟨o', ho', by rw [← h.isB ho hst]; exact hb, by rw [← hst.sides]; exact hs, by rw [← hst.1]; exact e⟩
theorem SubM.pt {l l' : List ObjD} (h : SubM l l') {k : KeyD} (hk : k ∈ keysP l) {x : ByteArray} (hx : x = k.1 ∨ x = k.2) : ptO l x = ptO l' x := by
  obtain ⟨o, ho, hb, hs⟩ := keysP_mem.1 hk
  unfold ptO
  rw [h.nod o ho (isB_kind hb) x (sides_refs hs hx)]
theorem nodes_mem {l : List ObjD} {x : ByteArray} : x ∈ nodesP l ↔ ∃ k ∈ keysP l, x = k.1 ∨ x = k.2 := by
  unfold nodesP
  rw [List.mem_flatMap]
  constructor
  · rintro ⟨p, hp, hx⟩
    exact ⟨p.1, (borders_mem.1 hp).1, by simpa using hx⟩
  · rintro ⟨k, hk, hx⟩
    exact ⟨(k, ownF l l k), borders_mem.2 ⟨hk, rfl⟩, by simpa using hx⟩
theorem SubM.nodes {l l' : List ObjD} (h : SubM l l') {x : ByteArray} (hx : x ∈ nodesP l) : x ∈ nodesP l' ∧ ptO l x = ptO l' x := by
  obtain ⟨k, hk, hx⟩ := nodes_mem.1 hx
  exact ⟨nodes_mem.2 ⟨k, h.keys hk, hx⟩, h.pt hk hx⟩
theorem SubM.seg {l l' : List ObjD} (h : SubM l l') {k : KeyD} (hk : k ∈ keysP l) : segB l k = segB l' k := by
  unfold segB
  rw [h.pt hk (Or.inl rfl), h.pt hk (Or.inr rfl)]
/-- Fewer borders have no violation that more of them do not have. -/
theorem SubM.bad {l l' : List ObjD} (h : SubM l l') {k : KeyD} (hk : k ∈ badP l) : k ∈ badP l' := by
  rw [bad_mem] at hk ⊢
  rcases hk with ⟨a, ha, b, hb, hne, hpt, e⟩ | ⟨p, hp, q, hq, hne, hc, x, hx, y, hy, e⟩
  · obtain ⟨ha1, ha2⟩ := h.nodes ha
    obtain ⟨hb1, hb2⟩ := h.nodes hb
    exact Or.inl ⟨a, ha1, b, hb1, hne, by rw [← ha2, ← hb2]; exact hpt, e⟩
  · obtain ⟨hp1, hp2⟩ := borders_mem.1 hp
    obtain ⟨hq1, hq2⟩ := borders_mem.1 hq
    rw [hp2] at hx
    rw [hq2] at hy
    refine Or.inr ⟨(p.1, ownF l' l' p.1), borders_mem.2 ⟨h.keys hp1, rfl⟩, (q.1, ownF l' l' q.1), borders_mem.2 ⟨h.keys hq1, rfl⟩, hne, ?_, x, h.own hx, y, h.own hy, e⟩
    unfold crossB at hc ⊢
    rw [← h.seg hp1, ← h.seg hq1]
    exact hc
theorem checkP_mem {l : List ObjD} {k : KeyD} : k ∈ checkP l ↔ k ∈ badP l := mem_setK
theorem checkP_sort (l : List ObjD) : SortK (checkP l) := setK_sorted _
theorem SortK.nodup {l : List KeyD} (h : SortK l) : l.Nodup := h.imp fun {a b} hab e => by rw [e, ltK_irrefl] at hab; cases hab
theorem nodup_le {α : Type} [DecidableEq α] : ∀ {L M : List α}, L.Nodup → (∀ x ∈ L, x ∈ M) → L.length ≤ M.length
  | [], M, _, _ => Nat.zero_le _
  | x :: L, M, hn, hs => by
    rw [List.nodup_cons] at hn
    have hx := hs x (List.mem_cons_self ..)
    have ih := nodup_le (M := M.erase x) hn.2 fun y hy => (List.mem_erase_of_ne (a := y) (b := x) (fun e => hn.1 (by rw [← e]; exact hy))).2 (hs y (List.mem_cons_of_mem _ hy))
    rw [List.length_erase_of_mem hx] at ih
    have := List.length_pos_of_mem hx
    simp; omega
theorem SubM.checks {l l' : List ObjD} (h : SubM l l') : (∀ k ∈ checkP l, k ∈ checkP l') ∧ (checkP l).length ≤ (checkP l').length := by
  have h1 : ∀ k ∈ checkP l, k ∈ checkP l' := fun k hk => checkP_mem.2 (h.bad (checkP_mem.1 hk))
  exact ⟨h1, nodup_le (checkP_sort l).nodup h1⟩
/-- The owners of a border are in strictly increasing order. -/
theorem own_sorted {l : List ObjD} (h : mapOK l = true) (l' : List ObjD) (k : KeyD) : (ownF l' l k).Pairwise fun a b => ltB a b = true := by
  unfold ownF
  rw [List.pairwise_map]
  refine List.Pairwise.sublist List.filter_sublist ?_
  rw [List.pairwise_iff_getElem]
  intro i j hi hj hij
  exact (mapOK_sorted h).2 i j _ _ hij (List.getElem?_eq_getElem hi) (List.getElem?_eq_getElem hj)
/-- Maps with the same borders. -/
structure LikeM (l l' : List ObjD) : Prop where
  to : SubM l l'
  back : ∀ o' ∈ l', isB l' o' = true → ∃ o ∈ l, SameT o o'
theorem LikeM.keys {l l' : List ObjD} (h : LikeM l l') : keysP l = keysP l' := by
  refine sortK_ext (setK_sorted _) (setK_sorted _) fun k => ⟨fun hk => h.to.keys hk, fun hk => ?_⟩
  obtain ⟨o', ho', hb, hs⟩ := keysP_mem.1 hk
  obtain ⟨o, ho, hst⟩ := h.back o' ho' hb
  exact keysP_mem.2 ⟨o, ho, by rw [h.to.isB ho hst]; exact hb, by rw [hst.sides]; exact hs⟩
theorem LikeM.own {l l' : List ObjD} (h : LikeM l l') (k : KeyD) : ownF l l k = ownF l' l' k := by
  refine sorted_ext ltB_irrefl (fun _ _ => ltB_asymm) (own_sorted h.to.ok l k) (own_sorted h.to.ok' l' k) fun id => ⟨fun hk => h.to.own hk, fun hk => ?_⟩
  obtain ⟨o', ho', hb, hs, e⟩ := ownF_mem.1 hk
  obtain ⟨o, ho, hst⟩ := h.back o' ho' hb
  exact ownF_mem.2 ⟨o, ho, by rw [h.to.isB ho hst]; exact hb, by rw [hst.sides]; exact hs, by rw [hst.1]; exact e⟩
theorem LikeM.borders {l l' : List ObjD} (h : LikeM l l') : bordersP l = bordersP l' := by
  unfold bordersP
  rw [h.keys]
  exact List.map_congr_left fun k _ => by rw [h.own k]
theorem LikeM.segs {l l' : List ObjD} (h : LikeM l l') : (keysP l).map (segB l) = (keysP l').map (segB l') := by
  rw [← h.keys]
  exact List.map_congr_left fun k hk => h.to.seg hk
theorem LikeM.check {l l' : List ObjD} (h : LikeM l l') : checkP l = checkP l' := by
  refine sortK_ext (checkP_sort l) (checkP_sort l') fun k => ?_
  rw [checkP_mem, checkP_mem]
  refine ⟨fun hk => h.to.bad hk, fun hk => ?_⟩
  have hpt : ∀ x ∈ nodesP l', x ∈ nodesP l ∧ ptO l x = ptO l' x := fun x hx => by
    have hx' : x ∈ nodesP l := by
      obtain ⟨k, hk, hx⟩ := nodes_mem.1 hx
      exact nodes_mem.2 ⟨k, by rw [h.keys]; exact hk, hx⟩
    exact ⟨hx', (h.to.nodes hx').2⟩
  rw [bad_mem] at hk ⊢
  rcases hk with ⟨a, ha, b, hb, hne, he, e⟩ | ⟨p, hp, q, hq, hne, hc, x, hx, y, hy, e⟩
  · exact Or.inl ⟨a, (hpt a ha).1, b, (hpt b hb).1, hne, by rw [(hpt a ha).2, (hpt b hb).2]; exact he, e⟩
  · refine Or.inr ⟨p, by rw [h.borders]; exact hp, q, by rw [h.borders]; exact hq, hne, ?_, x, hx, y, hy, e⟩
    unfold crossB at hc ⊢
    rw [h.to.seg (by rw [h.keys]; exact (borders_mem.1 hp).1), h.to.seg (by rw [h.keys]; exact (borders_mem.1 hq).1)]
    exact hc
/-- One more way or area, with sides that were there. -/
theorem keys_own {l : List ObjD} {k : KeyD} (hk : k ∈ keysP l) : ∃ x, x ∈ ownF l l k := by
  obtain ⟨o, ho, hb, hs⟩ := keysP_mem.1 hk
  exact ⟨o.id, ownF_mem.2 ⟨o, ho, hb, hs, rfl⟩⟩
/-- No violation, with the same pairs of nodes. -/
theorem SubM.none {l l' : List ObjD} (h : SubM l l') (hk : ∀ k ∈ keysP l', k ∈ keysP l) (h0 : checkP l = []) : checkP l' = [] := by
  have h0' : ∀ k, k ∉ badP l := fun k hk => by have := checkP_mem.2 hk; rw [h0] at this; cases this
  refine List.eq_nil_iff_forall_not_mem.2 fun k hkc => ?_
  rw [checkP_mem, bad_mem] at hkc
  have hpt : ∀ x ∈ nodesP l', x ∈ nodesP l ∧ ptO l x = ptO l' x := fun x hx => by
    have hx' : x ∈ nodesP l := by
      obtain ⟨k, hk', hx⟩ := nodes_mem.1 hx
      exact nodes_mem.2 ⟨k, hk k hk', hx⟩
    exact ⟨hx', (h.nodes hx').2⟩
  rcases hkc with ⟨a, ha, b, hb, hne, he, e⟩ | ⟨p, hp, q, hq, hne, hc, x, hx, y, hy, e⟩
  · exact h0' k (bad_mem.2 (Or.inl ⟨a, (hpt a ha).1, b, (hpt b hb).1, hne, by rw [(hpt a ha).2, (hpt b hb).2]; exact he, e⟩))
  · have kp := hk _ (borders_mem.1 hp).1
    have kq := hk _ (borders_mem.1 hq).1
    obtain ⟨x', hx'⟩ := keys_own kp
    obtain ⟨y', hy'⟩ := keys_own kq
    refine h0' (key2 x' y') (bad_mem.2 (Or.inr ⟨(p.1, ownF l l p.1), borders_mem.2 ⟨kp, rfl⟩, (q.1, ownF l l q.1), borders_mem.2 ⟨kq, rfl⟩, hne, ?_, x', hx', y', hy', rfl⟩))
    unfold crossB at hc ⊢
    rw [h.seg kp, h.seg kq]
    exact hc
end Go.Proofs.YtbkomdinchiffaaGreat

namespace Go.Proofs.YtbkomdinchiffaaGreat

theorem objsFrom_weak {a b : ByteArray} (hab : ltB a b = true) : ∀ {l : List ObjD}, objsFrom b l = true → objsFrom a l = true
  | [], _ => rfl
  | o :: l, h => by
    simp only [objsFrom, Bool.and_eq_true] at h ⊢
    exact ⟨⟨h.1.1, ltB_trans hab h.1.2⟩, h.2⟩
/-- A part of the objects, each changed in its tags. -/
def pickF (f : Nat → ObjD → Option ObjD) : Nat → List ObjD → List ObjD
  | _, [] => []
  | i, o :: l => (match f i o with | some o' => [o'] | none => []) ++ pickF f (i + 1) l
theorem pickF_app (f : Nat → ObjD → Option ObjD) : ∀ (i : Nat) (a b : List ObjD), pickF f i (a ++ b) = pickF f i a ++ pickF f (i + a.length) b
  | i, [], b => by simp [pickF]
  | i, o :: a, b => by
    rw [List.cons_append, pickF, pickF, pickF_app f (i + 1) a b, List.append_assoc, List.length_cons, show i + 1 + a.length = i + (a.length + 1) from by omega]
theorem pickF_succ (f : Nat → ObjD → Option ObjD) {l : List ObjD} {k : Nat} {o : ObjD} (ho : l[k]? = some o) : pickF f 0 (l.take (k + 1)) = pickF f 0 (l.take k) ++ (match f k o with | some o' => [o'] | none => []) := by
  obtain ⟨hk, e⟩ := List.getElem?_eq_some_iff.1 ho
  rw [List.take_succ_eq_append_getElem hk, e, pickF_app, Nat.zero_add, List.length_take, Nat.min_eq_left (Nat.le_of_lt hk)]
  simp [pickF]
theorem pickF_mem (f : Nat → ObjD → Option ObjD) : ∀ (l : List ObjD) (j : Nat) (o' : ObjD), o' ∈ pickF f j l ↔ ∃ i o, l[i]? = some o ∧ f (j + i) o = some o'
  | [], j, o' => by simp [pickF]
  | o :: l, j, o' => by
    rw [pickF, List.mem_append, pickF_mem f l (j + 1) o']
    constructor
    · rintro (h | ⟨i, x, hx, h⟩)
      · refine ⟨0, o, rfl, ?_⟩
        rw [Nat.add_zero]
        split at h
        · rename_i e; rw [List.mem_singleton.1 h]; exact e
        · cases h
      · exact ⟨i + 1, x, by simpa using hx, by rw [← h, show j + (i + 1) = j + 1 + i from by omega]⟩
    · rintro ⟨i, x, hx, h⟩
      cases i with
      | zero =>
        have e : o = x := by simpa using hx
        subst e
        rw [Nat.add_zero] at h
        rw [h]; exact Or.inl (by simp)
      | succ i => exact Or.inr ⟨i, x, by simpa using hx, by rw [← h, show j + (i + 1) = j + 1 + i from by omega]⟩
theorem pickF_len (f : Nat → ObjD → Option ObjD) : ∀ (l : List ObjD) (j : Nat), (pickF f j l).length ≤ l.length
  | [], j => Nat.le_refl _
  | o :: l, j => by
    have := pickF_len f l (j + 1)
    rw [pickF, List.length_append, List.length_cons]
    split <;> simp <;> omega
theorem pickF_from (f : Nat → ObjD → Option ObjD) (hf : ∀ i o o', f i o = some o' → o'.id = o.id ∧ (objOK o = true → objOK o' = true)) : ∀ (l : List ObjD) (j : Nat) (last : ByteArray), objsFrom last l = true → objsFrom last (pickF f j l) = true
  | [], _, _, _ => rfl
  | o :: l, j, last, h => by
    simp only [objsFrom, Bool.and_eq_true] at h
    have ih := pickF_from f hf l (j + 1) o.id h.2
    rw [pickF]
    cases hfo : f j o with
    | none => exact objsFrom_weak h.1.2 ih
    | some o' =>
      obtain ⟨h1, h2⟩ := hf j o o' hfo
      simp only [List.cons_append, List.nil_append, objsFrom, Bool.and_eq_true]
      rw [h1]
      exact ⟨⟨h2 h.1.1, h.1.2⟩, ih⟩
theorem pickF_ok (f : Nat → ObjD → Option ObjD) (hf : ∀ i o o', f i o = some o' → o'.id = o.id ∧ (objOK o = true → objOK o' = true)) {l : List ObjD} (h : mapOK l = true) : mapOK (pickF f 0 l) = true := by
  simp only [mapOK, Bool.and_eq_true, decide_eq_true_eq] at h ⊢
  exact ⟨Nat.le_trans (pickF_len f l 0) h.1, pickF_from f hf l 0 _ h.2⟩

/-- Without some of the ways and areas. -/
def fewerF (bits : Nat) (i : Nat) (o : ObjD) : Option ObjD := if (o.kind ≠ 2 ∧ o.kind ≠ 3) ∨ (bits >>> i) % 2 = 0 then some o else none
def fewerP (bits : Nat) (l : List ObjD) : List ObjD := pickF (fewerF bits) 0 l
theorem fewer_ok (bits : Nat) {l : List ObjD} (h : mapOK l = true) : mapOK (fewerP bits l) = true := pickF_ok _ (fun i o o' e => by
  unfold fewerF at e
  split at e
  · injection e with e; subst e; exact ⟨rfl, id⟩
  · cases e) h
theorem fewer_mem {bits : Nat} {l : List ObjD} {o' : ObjD} (h : o' ∈ fewerP bits l) : o' ∈ l := by
  obtain ⟨i, o, ho, e⟩ := (pickF_mem _ _ _ _).1 h
  unfold fewerF at e
  split at e
  · injection e with e; subst e; exact List.mem_of_getElem? ho
  · cases e
theorem fewer_sub (bits : Nat) {l : List ObjD} (h : mapOK l = true) : SubM (fewerP bits l) l := by
  refine ⟨fewer_ok bits h, h, fun o ho => ⟨o, fewer_mem ho, SameT.refl o⟩, fun o _ _ r _ => ?_⟩
  refine Option.ext fun q => ?_
  rw [nodeAt_iff (fewer_ok bits h), nodeAt_iff h]
  constructor
  · rintro ⟨x, hx, h⟩; exact ⟨x, fewer_mem hx, h⟩
  · rintro ⟨x, hx, e, hk, hq⟩
    obtain ⟨i, hi⟩ := List.getElem?_of_mem hx
    exact ⟨x, (pickF_mem _ _ _ _).2 ⟨i, x, hi, by unfold fewerF; rw [if_pos (Or.inl (by omega))]⟩, e, hk, hq⟩

/-- Without tags, routes, turns and nodes that nothing refers to. -/
def usedP (l : List ObjD) (id : ByteArray) : Bool := l.any fun o => decide (id ∈ o.refs)
def bareF (l : List ObjD) (_ : Nat) (o : ObjD) : Option ObjD := if (o.kind = 1 ∧ usedP l o.id = true) ∨ o.kind = 2 ∨ o.kind = 3 then some { o with tags := [] } else none
def bareP (l : List ObjD) : List ObjD := pickF (bareF l) 0 l
theorem bareF_some {l : List ObjD} {i : Nat} {o o' : ObjD} (e : bareF l i o = some o') : o' = { o with tags := [] } ∧ ((o.kind = 1 ∧ usedP l o.id = true) ∨ o.kind = 2 ∨ o.kind = 3) := by
  unfold bareF at e
  split at e
  · rename_i h; injection e with e; exact ⟨e.symm, h⟩
  · cases e
theorem bare_ok {l : List ObjD} (h : mapOK l = true) : mapOK (bareP l) = true := pickF_ok _ (fun i o o' e => by
  obtain ⟨rfl, _⟩ := bareF_some e
  refine ⟨rfl, fun h => ?_⟩
  simp only [objOK, Bool.and_eq_true] at h ⊢
  obtain ⟨⟨⟨⟨⟨⟨h1, h2⟩, _⟩, h4⟩, h5⟩, h6⟩, h7⟩ := h
  exact ⟨⟨⟨⟨⟨⟨h1, h2⟩, rfl⟩, h4⟩, h5⟩, h6⟩, h7⟩) h
theorem bare_mem {l : List ObjD} {o' : ObjD} : o' ∈ bareP l ↔ ∃ o ∈ l, o' = { o with tags := [] } ∧ ((o.kind = 1 ∧ usedP l o.id = true) ∨ o.kind = 2 ∨ o.kind = 3) := by
  unfold bareP
  rw [pickF_mem]
  constructor
  · rintro ⟨i, o, ho, e⟩
    exact ⟨o, List.mem_of_getElem? ho, bareF_some e⟩
  · rintro ⟨o, ho, rfl, h⟩
    obtain ⟨i, hi⟩ := List.getElem?_of_mem ho
    exact ⟨i, o, hi, by unfold bareF; rw [if_pos h]⟩
theorem bare_like {l : List ObjD} (h : mapOK l = true) : LikeM (bareP l) l := by
  refine ⟨⟨bare_ok h, h, fun o' ho => ?_, fun o' ho hk r hr => ?_⟩, fun o ho hb => ?_⟩
  · obtain ⟨o, ho2, rfl, _⟩ := bare_mem.1 ho
    exact ⟨o, ho2, rfl, rfl, rfl, rfl, rfl⟩
  · obtain ⟨o, ho2, rfl, _⟩ := bare_mem.1 ho
    refine Option.ext fun q => ?_
    rw [nodeAt_iff (bare_ok h), nodeAt_iff h]
    constructor
    · rintro ⟨x', hx, e, hkx, hq⟩
      obtain ⟨x, hx2, rfl, _⟩ := bare_mem.1 hx
      exact ⟨x, hx2, e, hkx, hq⟩
    · rintro ⟨x, hx, e, hkx, hq⟩
      refine ⟨{ x with tags := [] }, bare_mem.2 ⟨x, hx, rfl, Or.inl ⟨hkx, ?_⟩⟩, e, hkx, hq⟩
      unfold usedP
      rw [List.any_eq_true]
      exact ⟨o, ho2, decide_eq_true (by rw [e]; exact hr)⟩
  · refine ⟨{ o with tags := [] }, bare_mem.2 ⟨o, ho, rfl, Or.inr (isB_kind hb)⟩, rfl, rfl, rfl, rfl, rfl⟩

/-- One object more, to which nothing refers. -/
def MoreM (l l' : List ObjD) (o : ObjD) : Prop := mapOK l = true ∧ mapOK l' = true ∧ (∀ x, x ∈ l' ↔ x = o ∨ x ∈ l) ∧ (∀ x ∈ l, o.id ∉ x.refs) ∧ o.id ∉ o.refs
theorem MoreM.node {l l' : List ObjD} {o : ObjD} (h : MoreM l l' o) {r : ByteArray} (hr : r ≠ o.id) : nodeAt l r = nodeAt l' r := by
  obtain ⟨h1, h2, h3, h4, h5⟩ := h
  refine Option.ext fun q => ?_
  rw [nodeAt_iff h1, nodeAt_iff h2]
  constructor
  · rintro ⟨x, hx, h⟩; exact ⟨x, (h3 x).2 (Or.inr hx), h⟩
  · rintro ⟨x, hx, h⟩
    rcases (h3 x).1 hx with rfl | hx
    · exact absurd h.1.symm hr
    · exact ⟨x, hx, h⟩
theorem MoreM.sub {l l' : List ObjD} {o : ObjD} (h : MoreM l l' o) : SubM l l' :=
  ⟨h.1, h.2.1, fun x hx => ⟨x, (h.2.2.1 x).2 (Or.inr hx), SameT.refl x⟩, fun x hx _ _ hr => h.node fun e => h.2.2.2.1 x hx (e ▸ hr)⟩
theorem MoreM.isb {l l' : List ObjD} {o x : ObjD} (h : MoreM l l' o) (hx : o.id ∉ x.refs) : isB l' x = isB l x := by
  unfold isB soundB
  congr 1
  rw [Bool.eq_iff_iff, List.all_eq_true, List.all_eq_true]
  constructor <;> intro h2 r hr
  · rw [h.node fun e => hx (e ▸ hr)]; exact h2 r hr
  · rw [← h.node fun e => hx (e ▸ hr)]; exact h2 r hr
/-- Pairs of nodes of the greater map. -/
theorem MoreM.keys {l l' : List ObjD} {o : ObjD} (h : MoreM l l' o) {k : KeyD} : k ∈ keysP l' ↔ k ∈ keysP l ∨ (isB l o = true ∧ k ∈ sidesP o) := by
  rw [keysP_mem, keysP_mem]
  constructor
  · rintro ⟨x, hx, hb, hs⟩
    rcases (h.2.2.1 x).1 hx with rfl | hx
    · exact Or.inr ⟨by rw [← h.isb h.2.2.2.2]; exact hb, hs⟩
    · exact Or.inl ⟨x, hx, by rw [← h.isb (h.2.2.2.1 x hx)]; exact hb, hs⟩
  · rintro (⟨x, hx, hb, hs⟩ | ⟨hb, hs⟩)
    · exact ⟨x, (h.2.2.1 x).2 (Or.inr hx), by rw [h.isb (h.2.2.2.1 x hx)]; exact hb, hs⟩
    · exact ⟨o, (h.2.2.1 o).2 (Or.inl rfl), by rw [h.isb h.2.2.2.2]; exact hb, hs⟩
theorem MoreM.own {l l' : List ObjD} {o : ObjD} (h : MoreM l l' o) (hno : ∀ x ∈ l, x.id ≠ o.id) {k : KeyD} : o.id ∈ ownF l' l' k ↔ isB l o = true ∧ k ∈ sidesP o := by
  rw [ownF_mem]
  constructor
  · rintro ⟨x, hx, hb, hs, e⟩
    rcases (h.2.2.1 x).1 hx with rfl | hx
    · exact ⟨by rw [← h.isb h.2.2.2.2]; exact hb, hs⟩
    · exact absurd e (hno x hx)
  · rintro ⟨hb, hs⟩
    exact ⟨o, (h.2.2.1 o).2 (Or.inl rfl), by rw [h.isb h.2.2.2.2]; exact hb, hs, rfl⟩
/-- A copy of a way or an area under another Id. -/
theorem shared_keys {l l' : List ObjD} {o x : ObjD} (h : MoreM l l' o) (hx : x ∈ l) (hk : o.kind = x.kind) (hr : o.refs = x.refs) : keysP l' = keysP l ∧ ∀ k, (k ∈ keysP l → (o.id ∈ ownF l' l' k ↔ x.id ∈ ownF l l k) ∨ ∃ y ∈ l, y.id = o.id) := by
  have hsd : sidesP o = sidesP x := by unfold sidesP sideN sideAt refAt; rw [hk, hr]
  have hib : isB l o = isB l x := by unfold isB soundB; rw [hk, hr]
  refine ⟨sortK_ext (setK_sorted _) (setK_sorted _) fun k => ?_, fun k _ => ?_⟩
  · rw [h.keys]
    constructor
    · rintro (h1 | ⟨h1, h2⟩)
      · exact h1
      · exact keysP_mem.2 ⟨x, hx, by rw [← hib]; exact h1, by rw [← hsd]; exact h2⟩
    · exact Or.inl
  · by_cases hno : ∃ y ∈ l, y.id = o.id
    · exact Or.inr hno
    · refine Or.inl ?_
      rw [h.own (fun y hy e => hno ⟨y, hy, e⟩), hib, hsd, ownF_mem]
      constructor
      · rintro ⟨h1, h2⟩; exact ⟨x, hx, h1, h2, rfl⟩
      · rintro ⟨y, hy, hb, hs, e⟩
        obtain ⟨i, hi⟩ := List.getElem?_of_mem hy
        obtain ⟨j, hj⟩ := List.getElem?_of_mem hx
        have e1 := pos_self h.1 hi
        have e2 := pos_self h.1 hj
        rw [e, e2] at e1
        injection e1 with e1
        subst e1
        rw [hi] at hj
        injection hj with hj
        subst hj
        exact ⟨hb, hs⟩
theorem shared_segs {l l' : List ObjD} {o x : ObjD} (h : MoreM l l' o) (hx : x ∈ l) (hk : o.kind = x.kind) (hr : o.refs = x.refs) : (keysP l').map (segB l') = (keysP l).map (segB l) := by
  rw [(shared_keys h hx hk hr).1]
  exact List.map_congr_left fun k hk => (h.sub.seg hk).symm
theorem shared_none {l l' : List ObjD} {o x : ObjD} (h : MoreM l l' o) (hx : x ∈ l) (hk : o.kind = x.kind) (hr : o.refs = x.refs) (h0 : checkP l = []) : checkP l' = [] :=
  h.sub.none (fun k hk' => by rw [(shared_keys h hx hk hr).1] at hk'; exact hk') h0
end Go.Proofs.YtbkomdinchiffaaGreat

namespace Go.Proofs.YtbkomdinchiffaaGreat

theorem meetsR_one {s t : Sg} (h : meetsR s t = 1) : ∃ c, (c = s.1 ∨ c = s.2) ∧ (c = t.1 ∨ c = t.2) := by
  unfold meetsR at h
  split at h
  · cases h
  · split at h
    · cases h
    · unfold pickR at h
      split at h
      · split at h <;> cases h
      · rename_i e _
        simp only [] at h
        split at h
        · rename_i hc
          rw [Bool.and_eq_true] at hc
          exact ⟨e, of_decide_eq_true hc.1, of_decide_eq_true hc.2⟩
        · cases h
      · cases h
theorem meetsR_four {s t : Sg} (h : meetsR s t = 4) : s = t ∨ (s.1 = t.2 ∧ s.2 = t.1) := by
  unfold meetsR at h
  split at h
  · cases h
  · split at h
    · assumption
    · unfold pickR at h
      split at h
      · split at h <;> cases h
      · simp only [] at h
        split at h <;> cases h
      · cases h
theorem meetsR_same {s t : Sg} (hs : nearS s = true) (h : s = t ∨ (s.1 = t.2 ∧ s.2 = t.1)) : meetsR s t = 4 := by
  have ht : nearS t = true := by
    rcases h with rfl | ⟨h1, h2⟩
    · exact hs
    · unfold nearS at hs ⊢; rw [← h1, ← h2, Bool.and_comm]; exact hs
  unfold meetsR
  rw [hs, ht, if_neg (by simp), if_pos h]
theorem meetsR_swap2 (s t : Sg) : meetsR s (t.2, t.1) = meetsR s t := by rw [← meetsR_comm s, meetsR_swap, meetsR_comm]
theorem meetsR_range (s t : Sg) : 0 ≤ meetsR s t ∧ meetsR s t ≤ 5 := by
  unfold meetsR
  split
  · omega
  · split
    · omega
    · unfold pickR
      split
      · split <;> omega
      · simp only []
        split <;> omega
      · omega
/-- The points of nodes lie on the grid. -/
theorem pt_near {l : List ObjD} (h : mapOK l = true) (x : ByteArray) : nearQ (ptO l x) = true := by
  unfold ptO
  cases hn : nodeAt l x with
  | none => rfl
  | some q =>
    obtain ⟨o, ho, _, hk, rfl⟩ := (nodeAt_iff h).1 hn
    have h := map_obj h ho
    simp only [objOK, Bool.and_eq_true] at h
    have h2 := h.2
    rw [if_pos hk, Bool.and_eq_true] at h2
    have h3 := h2.2
    unfold onB at h3
    rw [decide_eq_true_eq] at h3
    unfold nearQ
    rw [Option.getD_some, decide_eq_true_eq]
    omega
theorem seg_near {l : List ObjD} (h : mapOK l = true) (k : KeyD) : nearS (segB l k) = true := by
  unfold nearS segB
  rw [pt_near h, pt_near h]; rfl
/-- Without violations no two nodes of borders are at one point. -/
theorem none_nodes {l : List ObjD} (h0 : checkP l = []) {a b : ByteArray} (ha : a ∈ nodesP l) (hb : b ∈ nodesP l) (he : ptO l a = ptO l b) : a = b := by
  by_cases hne : a = b
  · exact hne
  · have : key2 a b ∈ checkP l := checkP_mem.2 (bad_mem.2 (Or.inl ⟨a, ha, b, hb, hne, he, rfl⟩))
    rw [h0] at this; cases this
theorem none_cross {l : List ObjD} (h0 : checkP l = []) {a b : KeyD} (ha : a ∈ keysP l) (hb : b ∈ keysP l) (hne : a ≠ b) : crossB l a b = false := by
  cases hc : crossB l a b with
  | false => rfl
  | true =>
    obtain ⟨x, hx⟩ := keys_own ha
    obtain ⟨y, hy⟩ := keys_own hb
    have : key2 x y ∈ checkP l := checkP_mem.2 (bad_mem.2 (Or.inr ⟨(a, ownF l l a), borders_mem.2 ⟨ha, rfl⟩, (b, ownF l l b), borders_mem.2 ⟨hb, rfl⟩, hne, hc, x, hx, y, hy, rfl⟩))
    rw [h0] at this; cases this
theorem cross_false {l : List ObjD} {a b : KeyD} (h : crossB l a b = false) : meetsR (segB l a) (segB l b) = 0 ∨ (meetsR (segB l a) (segB l b) = 1 ∧ comK a b = true) := by
  unfold crossB at h
  by_cases h0 : meetsR (segB l a) (segB l b) = 0
  · exact Or.inl h0
  · rw [decide_eq_true h0, Bool.true_and, Bool.not_eq_false', Bool.and_eq_true, decide_eq_true_eq] at h
    exact Or.inr h
theorem free_mem {l : List ObjD} {s : Sg} : freeP l s = true ↔ nearS s = true ∧ ∀ k ∈ keysP l, meetsR (segB l k) s = 0 ∨ meetsR (segB l k) s = 1 ∨ meetsR (segB l k) s = 4 := by
  unfold freeP
  rw [Bool.and_eq_true, List.all_eq_true]
  refine and_congr Iff.rfl ⟨fun h k hk => of_decide_eq_true (h (k, ownF l l k) (borders_mem.2 ⟨hk, rfl⟩)), fun h p hp => decide_eq_true (h p.1 (borders_mem.1 hp).1)⟩
/-- Each border is free. -/
theorem none_free {l : List ObjD} (h : mapOK l = true) (h0 : checkP l = []) {k : KeyD} (hk : k ∈ keysP l) : freeP l (segB l k) = true := by
  refine free_mem.2 ⟨seg_near h k, fun p hp => ?_⟩
  by_cases hne : p = k
  · subst hne
    exact Or.inr (Or.inr (meetsR_same (seg_near h p) (Or.inl rfl)))
  · rcases cross_false (none_cross h0 hp hk hne) with h | h
    · exact Or.inl h
    · exact Or.inr (Or.inl h.1)
/-- A way between two nodes of borders. -/
theorem way_sides {o : ObjD} {a b : ByteArray} (hk : o.kind = 2) (hr : o.refs = [a, b]) : sidesP o = [key2 a b] := by
  unfold sidesP sideN
  rw [if_pos hk, hr]
  simp [sideAt, refAt, hr, List.range_succ]
theorem node_at {l : List ObjD} {x : ByteArray} (hx : x ∈ nodesP l) : (nodeAt l x).isSome = true := by
  obtain ⟨k, hk, hx⟩ := nodes_mem.1 hx
  obtain ⟨o, ho, hb, hs⟩ := keysP_mem.1 hk
  unfold isB at hb
  rw [Bool.and_eq_true] at hb
  have := hb.2
  unfold soundB at this
  rw [List.all_eq_true] at this
  exact this x (sides_refs hs hx)
theorem keys_nodes {l : List ObjD} {k : KeyD} (hk : k ∈ keysP l) : k.1 ∈ nodesP l ∧ k.2 ∈ nodesP l := ⟨nodes_mem.2 ⟨k, hk, Or.inl rfl⟩, nodes_mem.2 ⟨k, hk, Or.inr rfl⟩⟩
/-- Keys of borders are in order. -/
theorem keys_ord {l : List ObjD} {k : KeyD} (hk : k ∈ keysP l) : ∃ a b, k = key2 a b := by
  obtain ⟨o, ho, hb, hs⟩ := keysP_mem.1 hk
  unfold sidesP at hs
  obtain ⟨i, _, rfl⟩ := List.mem_map.1 hs
  exact ⟨_, _, rfl⟩
theorem seg_key2 (l : List ObjD) (a b : ByteArray) (s : Sg) : meetsR s (segB l (key2 a b)) = meetsR s (ptO l a, ptO l b) := by
  rcases key2_or a b with e | e
  · rw [e]; rfl
  · rw [e]; exact meetsR_swap2 s (ptO l a, ptO l b)
theorem free_way {l l' : List ObjD} {o : ObjD} {a b : ByteArray} (h : MoreM l l' o) (h0 : checkP l = []) (hk : o.kind = 2) (hr : o.refs = [a, b]) (ha : a ∈ nodesP l) (hb : b ∈ nodesP l) :
    freeP l (ptO l a, ptO l b) = true ↔ checkP l' = [] := by
  have hib : isB l o = true := by
    unfold isB
    rw [Bool.and_eq_true, decide_eq_true_eq]
    refine ⟨Or.inl hk, ?_⟩
    unfold soundB
    rw [hr]
    simp [node_at ha, node_at hb]
  have hsd := way_sides hk hr
  have hkeys : ∀ k, k ∈ keysP l' ↔ k ∈ keysP l ∨ k = key2 a b := fun k => by
    rw [h.keys, hsd, List.mem_singleton]
    exact or_congr Iff.rfl ⟨fun h => h.2, fun h => ⟨hib, h⟩⟩
  have hkn : ∀ k, k ∈ keysP l' → k.1 ∈ nodesP l ∧ k.2 ∈ nodesP l := fun k hk => by
    rcases (hkeys k).1 hk with hk | rfl
    · exact keys_nodes hk
    · rcases key2_or a b with e | e <;> rw [e]
      · exact ⟨ha, hb⟩
      · exact ⟨hb, ha⟩
  have hnod : ∀ x ∈ nodesP l', x ∈ nodesP l := fun x hx => by
    obtain ⟨k, hk, hx⟩ := nodes_mem.1 hx
    rcases hx with rfl | rfl
    · exact (hkn k hk).1
    · exact (hkn k hk).2
  have hpt : ∀ x ∈ nodesP l, ptO l x = ptO l' x := fun x hx => (h.sub.nodes hx).2
  have hseg : ∀ k ∈ keysP l', segB l' k = segB l k := fun k hk => by
    unfold segB
    rw [hpt _ (hkn k hk).1, hpt _ (hkn k hk).2]
  have hcr : ∀ p ∈ keysP l', ∀ q ∈ keysP l', crossB l' p q = crossB l p q := fun p hp q hq => by
    unfold crossB
    rw [hseg p hp, hseg q hq]
  have hnew : key2 a b ∈ keysP l' := (hkeys _).2 (Or.inr rfl)
  rw [free_mem]
  constructor
  · rintro ⟨_, hf⟩
    have hcx : ∀ p ∈ keysP l, p ≠ key2 a b → crossB l p (key2 a b) = false := fun p hp hne => by
      have hm := hf p hp
      rw [← seg_key2] at hm
      have hends : ∀ c, (c = (segB l p).1 ∨ c = (segB l p).2) → (c = (segB l (key2 a b)).1 ∨ c = (segB l (key2 a b)).2) → comK p (key2 a b) = true := fun c h1 h2 => by
        obtain ⟨p1, p2⟩ := keys_nodes hp
        obtain ⟨q1, q2⟩ := hkn _ hnew
        unfold segB at h1 h2
        unfold comK
        simp only at h1 h2
        rcases h1 with rfl | rfl <;> rcases h2 with h2 | h2
        · rw [none_nodes h0 p1 q1 h2]; simp
        · rw [none_nodes h0 p1 q2 h2]; simp
        · rw [none_nodes h0 p2 q1 h2]; simp
        · rw [none_nodes h0 p2 q2 h2]; simp
      unfold crossB
      rcases hm with hm | hm | hm
      · rw [hm]; rfl
      · obtain ⟨c, h1, h2⟩ := meetsR_one hm
        rw [hm, hends c h1 h2]; rfl
      · exfalso
        apply hne
        obtain ⟨p1, p2⟩ := keys_nodes hp
        obtain ⟨q1, q2⟩ := hkn _ hnew
        obtain ⟨u, v, rfl⟩ := keys_ord hp
        rcases meetsR_four hm with hm | ⟨hm1, hm2⟩
        · unfold segB at hm
          injection hm with hm1 hm2
          exact Prod.ext (none_nodes h0 p1 q1 hm1) (none_nodes h0 p2 q2 hm2)
        · unfold segB at hm1 hm2
          simp only at hm1 hm2
          have e1 := none_nodes h0 p1 q2 hm1
          have e2 := none_nodes h0 p2 q1 hm2
          have l1 := key2_le u v
          have l2 := key2_le a b
          rw [e1, e2] at l1
          have e3 : (key2 a b).1 = (key2 a b).2 := ltB_total l1 l2
          exact Prod.ext (by rw [e1, e3]) (by rw [e2, e3])
    refine List.eq_nil_iff_forall_not_mem.2 fun k hkc => ?_
    rw [checkP_mem, bad_mem] at hkc
    rcases hkc with ⟨x, hx, y, hy, hne, he, _⟩ | ⟨p, hp, q, hq, hne, hc, _⟩
    · have x1 := hnod x hx
      have y1 := hnod y hy
      rw [← hpt x x1, ← hpt y y1] at he
      exact hne (none_nodes h0 x1 y1 he)
    · have kp := (borders_mem.1 hp).1
      have kq := (borders_mem.1 hq).1
      rw [hcr _ kp _ kq] at hc
      rcases (hkeys _).1 kp with hp' | hp' <;> rcases (hkeys _).1 kq with hq' | hq'
      · rw [none_cross h0 hp' hq' hne] at hc; cases hc
      · rw [hq', hcx _ hp' (by rw [← hq']; exact hne)] at hc; cases hc
      · rw [crossB_symm, hp', hcx _ hq' (by rw [← hp']; exact Ne.symm hne)] at hc; cases hc
      · exact hne (hp'.trans hq'.symm)
  · intro h1
    refine ⟨by unfold nearS; rw [pt_near h.1, pt_near h.1]; rfl, fun k hk => ?_⟩
    have hk' : k ∈ keysP l' := (hkeys _).2 (Or.inl hk)
    by_cases hne : k = key2 a b
    · rw [← seg_key2, ← hne]
      exact Or.inr (Or.inr (meetsR_same (seg_near h.1 k) (Or.inl rfl)))
    · have := none_cross h1 hk' hnew hne
      rw [hcr _ hk' _ hnew] at this
      rw [← seg_key2]
      rcases cross_false this with h | h
      · exact Or.inl h
      · exact Or.inr (Or.inl h.1)
end Go.Proofs.YtbkomdinchiffaaGreat

namespace Go.Proofs.YtbkomdinchiffaaGreat

theorem refs_two : ∀ (l pre : List ByteArray), refsFrom 2 pre l = true → ∀ (i : Nat) (x y : ByteArray), l[i]? = some x → l[i + 1]? = some y → x ≠ y
  | [], _, _, i, x, y, hx, _ => by simp at hx
  | s :: l, pre, h, i, x, y, hx, hy => by
    simp only [refsFrom, Bool.and_eq_true] at h
    cases i with
    | zero =>
      have e : s = x := by simpa using hx
      subst e
      cases l with
      | nil => simp at hy
      | cons t l =>
        have e : t = y := by simpa using hy
        subst e
        have h2 := h.2
        simp only [refsFrom, Bool.and_eq_true] at h2
        have h3 := h2.1.1.2
        simp at h3
        exact h3
    | succ i => exact refs_two l _ h.2 i x y (by simpa using hx) (by simpa using hy)
theorem refs_three : ∀ (l pre : List ByteArray), refsFrom 3 pre l = true → (∀ s ∈ l, s ∉ pre) ∧ l.Nodup
  | [], _, _ => ⟨fun s hs => (by cases hs), List.nodup_nil⟩
  | s :: l, pre, h => by
    simp only [refsFrom, Bool.and_eq_true] at h
    obtain ⟨h1, h2⟩ := refs_three l _ h.2
    have h3 := h.1.2
    have h4 : s ∉ pre := fun c => by
      have : pre.any (fun p => decide (p = s)) = true := List.any_eq_true.2 ⟨s, c, decide_eq_true rfl⟩
      rw [this] at h3
      simp at h3
    refine ⟨fun x hx => ?_, List.nodup_cons.2 ⟨fun c => h1 s c (by simp), h2⟩⟩
    rcases List.mem_cons.1 hx with rfl | hx
    · exact h4
    · exact fun c => h1 x hx (List.mem_append_left _ c)
theorem key2_ne {a b : ByteArray} (h : a ≠ b) : (key2 a b).1 ≠ (key2 a b).2 := by
  rcases key2_or a b with e | e <;> rw [e]
  · exact h
  · exact Ne.symm h
theorem refAt_eq {o : ObjD} {i : Nat} (h : i < o.refs.length) : o.refs[i]? = some (refAt o i) := by
  unfold refAt
  rw [List.getElem?_eq_getElem h]; rfl
/-- The two nodes of a border are different. -/
theorem keys_ne {l : List ObjD} (h : mapOK l = true) {k : KeyD} (hk : k ∈ keysP l) : k.1 ≠ k.2 := by
  obtain ⟨o, ho, hb, hs⟩ := keysP_mem.1 hk
  have hob := map_obj h ho
  simp only [objOK, Bool.and_eq_true, decide_eq_true_eq] at hob
  obtain ⟨⟨⟨⟨⟨⟨h1, h2⟩, _⟩, h4⟩, h5⟩, h6⟩, h7⟩ := hob
  unfold sidesP at hs
  obtain ⟨i, hi, rfl⟩ := List.mem_map.1 hs
  rw [List.mem_range] at hi
  refine key2_ne ?_
  rcases isB_kind hb with hk | hk
  · rw [hk] at h6
    unfold sideN at hi
    rw [if_pos hk] at hi
    rw [Nat.mod_eq_of_lt (by omega)]
    exact refs_two _ _ h6 i _ _ (refAt_eq (by omega)) (refAt_eq (by omega))
  · rw [hk] at h6 h4
    unfold sideN at hi
    rw [if_neg (by omega)] at hi
    have hl : 3 ≤ o.refs.length := by have h8 : (3 : Int) ≤ (o.refs.length : Int) := h4; omega
    have hn := (refs_three _ _ h6).2
    have hj := Nat.mod_lt (i + 1) (show 0 < o.refs.length by omega)
    intro e
    have e1 := refAt_eq hi
    have e2 := refAt_eq hj
    rw [e, ← e2] at e1
    have := (List.getElem?_inj hi hn).1 e1
    rcases Nat.lt_or_ge (i + 1) o.refs.length with h | h
    · rw [Nat.mod_eq_of_lt h] at this; omega
    · have h9 : i + 1 = o.refs.length := by omega
      rw [h9, Nat.mod_self] at this; omega

/-- The order of lists of Ids. -/
def beforeL : List ByteArray → List ByteArray → Bool
  | _, [] => false
  | [], _ :: _ => true
  | a :: x, b :: y => if a = b then beforeL x y else ltB a b
theorem before_self : ∀ l : List ByteArray, beforeL l l = false
  | [] => rfl
  | a :: l => by rw [beforeL, if_pos rfl, before_self l]
theorem before_eq : ∀ (a b : List ByteArray), beforeL a b = false → beforeL b a = false → a = b
  | [], [], _, _ => rfl
  | [], _ :: _, h, _ => by simp [beforeL] at h
  | _ :: _, [], _, h => by simp [beforeL] at h
  | x :: a, y :: b, h, h2 => by
    rw [beforeL] at h h2
    by_cases e : x = y
    · subst e
      rw [if_pos rfl] at h h2
      rw [before_eq a b h h2]
    · rw [if_neg e] at h
      rw [if_neg (Ne.symm e)] at h2
      exact absurd (ltB_total h h2) e
/-- Are two lists of Ids equal? -/
theorem ids_same (a b : List ByteArray) : (!beforeL a b && !beforeL b a) = decide (a = b) := by
  rw [Bool.eq_iff_iff, decide_eq_true_eq, Bool.and_eq_true, Bool.not_eq_true', Bool.not_eq_true']
  constructor
  · rintro ⟨h1, h2⟩; exact before_eq a b h1 h2
  · rintro rfl; exact ⟨before_self a, before_self a⟩
def OrdP (k : KeyD) : Prop := ltB k.2 k.1 = false
theorem idsK_before {k k' : KeyD} (h : OrdP k) (h' : OrdP k') : beforeL (idsK k) (idsK k') = ltK k k' := by
  obtain ⟨a, b⟩ := k
  obtain ⟨c, d⟩ := k'
  unfold OrdP at h h'
  unfold idsK ltK
  simp only at h h' ⊢
  by_cases e3 : a = c
  · subst e3
    simp only [ltB_irrefl, Bool.false_or, decide_true, Bool.true_and]
    by_cases e1 : a = b
    · subst e1
      rw [if_pos rfl]
      by_cases e2 : a = d
      · subst e2; rw [if_pos rfl, before_self, ltB_irrefl]
      · rw [if_neg e2, beforeL, if_pos rfl, beforeL]
        cases hc : ltB a d with
        | true => rfl
        | false => exact absurd (ltB_total hc h') e2
    · rw [if_neg e1]
      by_cases e2 : a = d
      · subst e2
        rw [if_pos rfl, beforeL, if_pos rfl, beforeL]
        exact h.symm
      · rw [if_neg e2, beforeL, if_pos rfl, beforeL]
        by_cases e4 : b = d
        · subst e4; rw [if_pos rfl, ltB_irrefl]; rfl
        · rw [if_neg e4]
  · rw [decide_eq_false e3, Bool.false_and, Bool.or_false]
    split <;> split <;> rw [beforeL, if_neg e3]
theorem idsK_inj {k k' : KeyD} (h : idsK k = idsK k') : k = k' := by
  obtain ⟨a, b⟩ := k
  obtain ⟨c, d⟩ := k'
  unfold idsK at h
  simp only at h
  split at h <;> split at h
  · rename_i e1 e2
    simp at h; rw [← e1, ← e2, h]
  · simp at h
  · simp at h
  · simp at h; rw [h.1, h.2]
theorem key2_ordP (a b : ByteArray) : OrdP (key2 a b) := key2_le a b
theorem key2_of {k : KeyD} (h : OrdP k) : key2 k.1 k.2 = k := key2_of_le h
theorem bad_ord {l : List ObjD} {k : KeyD} (h : k ∈ badP l) : OrdP k := by
  rcases bad_mem.1 h with ⟨a, _, b, _, _, _, rfl⟩ | ⟨_, _, _, _, _, _, x, _, y, _, rfl⟩ <;> exact key2_le _ _
theorem check_ord {l : List ObjD} {k : KeyD} (h : k ∈ checkP l) : OrdP k := bad_ord (checkP_mem.1 h)
/-- Is there a violation with two Ids? -/
def namedP (ks : List KeyD) (a b : ByteArray) : Bool := ks.any fun k => if k.1 = k.2 then decide (a = b ∧ k.1 = a) else decide (k.1 = minB a b ∧ k.2 = maxB a b)
theorem named_iff {ks : List KeyD} {a b : ByteArray} : namedP ks a b = true ↔ key2 a b ∈ ks := by
  unfold namedP
  rw [List.any_eq_true]
  constructor
  · rintro ⟨k, hk, h⟩
    split at h
    · rename_i e
      obtain ⟨rfl, h2⟩ := of_decide_eq_true h
      rw [key2_self, show ((a, a) : KeyD) = k from Prod.ext h2.symm (by rw [← e]; exact h2.symm)]
      exact hk
    · obtain ⟨h1, h2⟩ := of_decide_eq_true h
      rw [show key2 a b = k from Prod.ext h1.symm h2.symm]
      exact hk
  · intro hk
    refine ⟨key2 a b, hk, ?_⟩
    by_cases e : (key2 a b).1 = (key2 a b).2
    · rw [if_pos e]
      have hab : a = b := by
        by_cases hne : a = b
        · exact hne
        · exact absurd e (key2_ne hne)
      subst hab
      rw [key2_self]
      simp
    · rw [if_neg e]
      exact decide_eq_true ⟨rfl, rfl⟩
theorem named_self {ks : List KeyD} {k : KeyD} (h : OrdP k) : namedP ks k.1 k.2 = true ↔ k ∈ ks := by rw [named_iff, key2_of h]

/-- What is noted for the nodes of two borders, and for their owners. -/
def NodeN (l : List ObjD) (p q key : KeyD) : Prop := ∃ a b, (a = p.1 ∨ a = p.2) ∧ (b = q.1 ∨ b = q.2) ∧ a ≠ b ∧ ptO l a = ptO l b ∧ key = key2 a b
def OwnN (l : List ObjD) (p q key : KeyD) : Prop := crossB l p q = true ∧ ∃ x ∈ ownF l l p, ∃ y ∈ ownF l l q, key = key2 x y
theorem NodeN.symm {l : List ObjD} {p q key : KeyD} (h : NodeN l p q key) : NodeN l q p key := by
  obtain ⟨a, b, h1, h2, h3, h4, h5⟩ := h
  exact ⟨b, a, h2, h1, Ne.symm h3, h4.symm, by rw [h5, key2_comm]⟩
theorem OwnN.symm {l : List ObjD} {p q key : KeyD} (h : OwnN l p q key) : OwnN l q p key := by
  obtain ⟨h1, x, hx, y, hy, h2⟩ := h
  exact ⟨by rw [crossB_symm]; exact h1, y, hy, x, hx, by rw [h2, key2_comm]⟩
/-- What is wrong, by numbers of borders. -/
theorem bad_nums {l : List ObjD} {key : KeyD} : key ∈ badP l ↔
    (∃ (i k : Nat) (p q : KeyD), k ≤ i ∧ (keysP l)[i]? = some p ∧ (keysP l)[k]? = some q ∧ NodeN l p q key) ∨
    (∃ (i k : Nat) (p q : KeyD), k < i ∧ (keysP l)[i]? = some p ∧ (keysP l)[k]? = some q ∧ OwnN l p q key) := by
  rw [bad_mem]
  refine or_congr ?_ ?_
  · constructor
    · rintro ⟨a, ha, b, hb, hne, he, e⟩
      obtain ⟨p, hp, hpa⟩ := nodes_mem.1 ha
      obtain ⟨q, hq, hqb⟩ := nodes_mem.1 hb
      obtain ⟨i, hi⟩ := List.getElem?_of_mem hp
      obtain ⟨k, hk⟩ := List.getElem?_of_mem hq
      have hn : NodeN l p q key := ⟨a, b, hpa, hqb, hne, he, e⟩
      rcases Nat.le_total k i with h | h
      · exact ⟨i, k, p, q, h, hi, hk, hn⟩
      · exact ⟨k, i, q, p, h, hk, hi, hn.symm⟩
    · rintro ⟨i, k, p, q, _, hi, hk, a, b, hpa, hqb, hne, he, e⟩
      exact ⟨a, nodes_mem.2 ⟨p, List.mem_of_getElem? hi, hpa⟩, b, nodes_mem.2 ⟨q, List.mem_of_getElem? hk, hqb⟩, hne, he, e⟩
  · constructor
    · rintro ⟨p, hp, q, hq, hne, hc, x, hx, y, hy, e⟩
      obtain ⟨hp1, hp2⟩ := borders_mem.1 hp
      obtain ⟨hq1, hq2⟩ := borders_mem.1 hq
      rw [hp2] at hx
      rw [hq2] at hy
      obtain ⟨i, hi⟩ := List.getElem?_of_mem hp1
      obtain ⟨k, hk⟩ := List.getElem?_of_mem hq1
      have hn : OwnN l p.1 q.1 key := ⟨hc, x, hx, y, hy, e⟩
      rcases Nat.lt_trichotomy k i with h | h | h
      · exact ⟨i, k, p.1, q.1, h, hi, hk, hn⟩
      · subst h; rw [hi] at hk; injection hk with hk; exact absurd hk hne
      · exact ⟨k, i, q.1, p.1, h, hk, hi, hn.symm⟩
    · rintro ⟨i, k, p, q, hik, hi, hk, hc, x, hx, y, hy, e⟩
      refine ⟨(p, ownF l l p), borders_mem.2 ⟨List.mem_of_getElem? hi, rfl⟩, (q, ownF l l q), borders_mem.2 ⟨List.mem_of_getElem? hk, rfl⟩, fun c => ?_, hc, x, hx, y, hy, e⟩
      obtain ⟨q1, e1⟩ := List.getElem?_eq_some_iff.1 hi
      obtain ⟨q2, e2⟩ := List.getElem?_eq_some_iff.1 hk
      have hso : SortK (keysP l) := setK_sorted _
      have := List.pairwise_iff_getElem.1 hso k i q2 q1 hik
      rw [e1, e2] at this
      simp only at c
      rw [c, ltK_irrefl] at this
      cases this
/-- .. all pairs of borders for the nodes, and once more each border's own. -/
theorem order_all {l : List ObjD} (h : mapOK l = true) {key : KeyD} : key ∈ badP l ↔
    ((∃ (i k : Nat) (p q : KeyD), (keysP l)[i]? = some p ∧ (keysP l)[k]? = some q ∧ (NodeN l p q key ∨ (k < i ∧ OwnN l p q key))) ∨
    (∃ p ∈ keysP l, ptO l p.1 = ptO l p.2 ∧ key = p)) := by
  rw [bad_nums]
  constructor
  · rintro (⟨i, k, p, q, _, hi, hk, hn⟩ | ⟨i, k, p, q, hik, hi, hk, hn⟩)
    · exact Or.inl ⟨i, k, p, q, hi, hk, Or.inl hn⟩
    · exact Or.inl ⟨i, k, p, q, hi, hk, Or.inr ⟨hik, hn⟩⟩
  · rintro (⟨i, k, p, q, hi, hk, hn | ⟨hik, hn⟩⟩ | ⟨p, hp, he, rfl⟩)
    · rcases Nat.le_total k i with h | h
      · exact Or.inl ⟨i, k, p, q, h, hi, hk, hn⟩
      · exact Or.inl ⟨k, i, q, p, h, hk, hi, hn.symm⟩
    · exact Or.inr ⟨i, k, p, q, hik, hi, hk, hn⟩
    · obtain ⟨i, hi⟩ := List.getElem?_of_mem hp
      refine Or.inl ⟨i, i, key, key, Nat.le_refl _, hi, hi, key.1, key.2, Or.inl rfl, Or.inr rfl, keys_ne h hp, he, ?_⟩
      obtain ⟨a, b, e⟩ := keys_ord hp
      exact (key2_of (by rw [e]; exact key2_ordP a b)).symm
end Go.Proofs.YtbkomdinchiffaaGreat

namespace Go.Proofs.YtbkomdinchiffaaGreat

/-- What is noted for the owners of two borders, the first so many of the first one's. -/
def ownX (l : List ObjD) (p q : KeyD) (n : Nat) : List KeyD := ((ownF l l p).take n).flatMap fun x => (ownF l l q).map fun y => key2 x y
def ownNs (l : List ObjD) (p q : KeyD) : List KeyD := if crossB l p q = true then ownX l p q (ownF l l p).length else []
def endA (p : KeyD) (x : Nat) : ByteArray := if x % 2 = 0 then p.1 else p.2
def endB (q : KeyD) (x : Nat) : ByteArray := if x / 2 = 0 then q.1 else q.2
def nodeT (l : List ObjD) (p q : KeyD) (x : Nat) : List KeyD := if endA p x ≠ endB q x ∧ ptO l (endA p x) = ptO l (endB q x) then [key2 (endA p x) (endB q x)] else []
def nodeNs (l : List ObjD) (p q : KeyD) (n : Nat) : List KeyD := (List.range n).flatMap (nodeT l p q)
def atK (l : List ObjD) (i : Nat) : KeyD := ((keysP l)[i]?).getD (⟨#[]⟩, ⟨#[]⟩)
def ownR (l : List ObjD) (p : KeyD) (n : Nat) : List KeyD := (List.range n).flatMap fun k => ownNs l p (atK l k)
def nodeR (l : List ObjD) (p : KeyD) (n : Nat) : List KeyD := (List.range n).flatMap fun k => nodeNs l p (atK l k) 4
def roundN (l : List ObjD) (i : Nat) : List KeyD := ownR l (atK l i) i ++ nodeR l (atK l i) (i + 1)
def allN (l : List ObjD) (n : Nat) : List KeyD := (List.range n).flatMap (roundN l)
theorem range_step {β : Type} (f : Nat → List β) (n : Nat) : (List.range (n + 1)).flatMap f = (List.range n).flatMap f ++ f n := by
  rw [List.range_succ, List.flatMap_append]; simp
theorem setK_snoc (ks : List KeyD) (k : KeyD) : setK (ks ++ [k]) = insK k (setK ks) := by
  unfold setK; rw [List.foldl_append]; rfl
theorem ownX_succ {l : List ObjD} {p q : KeyD} {n : Nat} {x : ByteArray} (h : (ownF l l p)[n]? = some x) : ownX l p q (n + 1) = ownX l p q n ++ (ownF l l q).map fun y => key2 x y := by
  unfold ownX
  rw [List.take_add_one, h, List.flatMap_append]; simp
theorem atK_get {l : List ObjD} {i : Nat} {p : KeyD} (h : (keysP l)[i]? = some p) : atK l i = p := by unfold atK; rw [h]; rfl
theorem ownNs_mem {l : List ObjD} {p q key : KeyD} : key ∈ ownNs l p q ↔ OwnN l p q key := by
  unfold ownNs OwnN ownX
  split
  · rename_i hc
    simp only [hc, true_and, List.take_length, List.mem_flatMap, List.mem_map]
    constructor
    · rintro ⟨x, hx, y, hy, rfl⟩; exact ⟨x, hx, y, hy, rfl⟩
    · rintro ⟨x, hx, y, hy, rfl⟩; exact ⟨x, hx, y, hy, rfl⟩
  · rename_i hc
    simp [hc]
theorem nodeT_mem {l : List ObjD} {p q key : KeyD} {x : Nat} : key ∈ nodeT l p q x ↔ endA p x ≠ endB q x ∧ ptO l (endA p x) = ptO l (endB q x) ∧ key = key2 (endA p x) (endB q x) := by
  unfold nodeT
  split
  · rename_i h
    simp [h.1, h.2]
  · rename_i h
    constructor
    · intro h'; cases h'
    · rintro ⟨h1, h2, _⟩; exact absurd ⟨h1, h2⟩ h
theorem nodeNs_mem {l : List ObjD} {p q key : KeyD} : key ∈ nodeNs l p q 4 ↔ NodeN l p q key := by
  unfold nodeNs NodeN
  simp only [List.mem_flatMap, List.mem_range, nodeT_mem]
  constructor
  · rintro ⟨x, _, h1, h2, h3⟩
    refine ⟨_, _, ?_, ?_, h1, h2, h3⟩
    · unfold endA; split
      · exact Or.inl rfl
      · exact Or.inr rfl
    · unfold endB; split
      · exact Or.inl rfl
      · exact Or.inr rfl
  · rintro ⟨a, b, ha, hb, h1, h2, h3⟩
    have hx : ∃ x, x < 4 ∧ endA p x = a ∧ endB q x = b := by
      rcases ha with rfl | rfl <;> rcases hb with rfl | rfl
      · exact ⟨0, by omega, rfl, rfl⟩
      · exact ⟨2, by omega, rfl, rfl⟩
      · exact ⟨1, by omega, rfl, rfl⟩
      · exact ⟨3, by omega, rfl, rfl⟩
    obtain ⟨x, hx, rfl, rfl⟩ := hx
    exact ⟨x, hx, h1, h2, h3⟩
theorem allN_mem {l : List ObjD} {key : KeyD} : key ∈ allN l (keysP l).length ↔ key ∈ badP l := by
  rw [bad_nums]
  unfold allN roundN ownR nodeR
  simp only [List.mem_flatMap, List.mem_range, List.mem_append, ownNs_mem, nodeNs_mem]
  constructor
  · rintro ⟨i, hi, ⟨k, hk, h⟩ | ⟨k, hk, h⟩⟩
    · have h1 := List.getElem?_eq_getElem hi
      have h2 := List.getElem?_eq_getElem (show k < (keysP l).length by omega)
      rw [atK_get h1, atK_get h2] at h
      exact Or.inr ⟨i, k, _, _, hk, h1, h2, h⟩
    · have h1 := List.getElem?_eq_getElem hi
      have h2 := List.getElem?_eq_getElem (show k < (keysP l).length by omega)
      rw [atK_get h1, atK_get h2] at h
      exact Or.inl ⟨i, k, _, _, by omega, h1, h2, h⟩
  · rintro (⟨i, k, p, q, hik, hi, hk, h⟩ | ⟨i, k, p, q, hik, hi, hk, h⟩)
    · exact ⟨i, (List.getElem?_eq_some_iff.1 hi).1, Or.inr ⟨k, by omega, by rw [atK_get hi, atK_get hk]; exact h⟩⟩
    · exact ⟨i, (List.getElem?_eq_some_iff.1 hi).1, Or.inl ⟨k, by omega, by rw [atK_get hi, atK_get hk]; exact h⟩⟩
theorem allN_check (l : List ObjD) : setK (allN l (keysP l).length) = checkP l :=
  sortK_ext (setK_sorted _) (checkP_sort l) fun x => by rw [mem_setK, allN_mem, checkP_mem]
/-- How far the list is looked through. -/
def StopK (ks : List KeyD) (k : KeyD) (i : Nat) : Prop := i ≤ ks.length ∧ (∀ j p, j < i → ks[j]? = some p → ltK p k = true) ∧ ∀ p, ks[i]? = some p → ltK p k = false
theorem insK_at {k : KeyD} : ∀ {ks : List KeyD} {i : Nat}, StopK ks k i → (∀ p, ks[i]? = some p → p ≠ k) → insK k ks = ks.take i ++ k :: ks.drop i
  | [], i, h, _ => by
    have : i = 0 := by simpa using h.1
    subst this; rfl
  | q :: ks, 0, h, hn => by
    have h1 := h.2.2 q rfl
    rw [insK, if_neg (by rw [h1]; simp), if_neg (hn q rfl)]; rfl
  | q :: ks, i + 1, h, hn => by
    rw [insK, if_pos (h.2.1 0 q (by omega) rfl), insK_at (ks := ks) (i := i) ⟨by simpa using h.1, fun j p hj hp => h.2.1 (j + 1) p (by omega) (by simpa using hp), fun p hp => h.2.2 p (by simpa using hp)⟩ (fun p hp => hn p (by simpa using hp))]
    rfl
theorem insK_same {k : KeyD} : ∀ {ks : List KeyD} {i : Nat}, StopK ks k i → ks[i]? = some k → insK k ks = ks
  | [], i, _, hn => by simp at hn
  | q :: ks, 0, h, hn => by
    have e : q = k := by simpa using hn
    subst e
    rw [insK, if_neg (by rw [ltK_irrefl]; simp), if_pos rfl]
  | q :: ks, i + 1, h, hn => by
    rw [insK, if_pos (h.2.1 0 q (by omega) rfl), insK_same (ks := ks) (i := i) ⟨by simpa using h.1, fun j p hj hp => h.2.1 (j + 1) p (by omega) (by simpa using hp), fun p hp => h.2.2 p (by simpa using hp)⟩ (by simpa using hn)]
theorem insK_len (k : KeyD) : ∀ ks : List KeyD, (insK k ks).length ≤ ks.length + 1
  | [] => by simp [insK]
  | q :: ks => by
    rw [insK]
    split
    · have := insK_len k ks; simp; omega
    · split <;> simp
theorem setK_len (ks : List KeyD) : (setK ks).length ≤ ks.length := by
  have : ∀ (ks acc : List KeyD), (ks.foldl (fun acc k => insK k acc) acc).length ≤ acc.length + ks.length := by
    intro ks
    induction ks with
    | nil => intro acc; simp
    | cons k ks ih => intro acc; rw [List.foldl_cons]; have := ih (insK k acc); have := insK_len k acc; simp; omega
  have := this ks []
  unfold setK
  simpa using this
/-- One border more, or one owner more, for one side of an object. -/
structure BrdSt (l objs : List ObjD) (o : ObjD) (j : Nat) (acc : List (KeyD × List ByteArray)) : Prop where
  owns : Owns acc (partF l objs o j)
  sort : SortedK acc
theorem BrdSt.step {l : List ObjD} (hok : mapOK l = true) {i : Nat} {o : ObjD} (ho : l[i]? = some o) {j : Nat} (hj : j < sideN o) {acc : List (KeyD × List ByteArray)} (h : BrdSt l (l.take i) o j acc) : BrdSt l (l.take i) o (j + 1) (rput (sideAt o j) o.id acc) :=
  have hno := fun k => ids_not hok ho l k
  ⟨h.owns.rput h.sort (sideAt o j) o.id (part_last hno j _) (partF_succ hj hno), rput_sorted _ _ h.sort⟩
theorem take_next {l : List ObjD} {i : Nat} {o : ObjD} (ho : l[i]? = some o) : l.take (i + 1) = l.take i ++ [o] := by
  rw [List.take_add_one, ho]; rfl
theorem rput_len (k : KeyD) (id : ByteArray) : ∀ acc : List (KeyD × List ByteArray), (rput k id acc).length ≤ acc.length + 1
  | [] => by simp [rput]
  | q :: acc => by
    rw [rput]
    split
    · have := rput_len k id acc; simp; omega
    · split <;> simp
theorem rput_own {k : KeyD} {id : ByteArray} {n : Nat} : ∀ {acc : List (KeyD × List ByteArray)}, (∀ p ∈ acc, p.2.length ≤ n) → ∀ p ∈ rput k id acc, p.2.length ≤ n + 1
  | [], _, p, hp => by
    rw [rput, List.mem_singleton] at hp
    subst hp; simp
  | q :: acc, h, p, hp => by
    have h0 := h q (List.mem_cons_self ..)
    rw [rput] at hp
    split at hp
    · rcases List.mem_cons.1 hp with rfl | hp
      · omega
      · exact rput_own (fun p hp => h p (List.mem_cons_of_mem _ hp)) p hp
    · split at hp
      · rcases List.mem_cons.1 hp with rfl | hp
        · show (if q.2.getLast? = some id then q.2 else q.2 ++ [id]).length ≤ n + 1
          split
          · omega
          · rw [List.length_append]; simp; omega
        · have := h p (List.mem_cons_of_mem _ hp); omega
      · rcases List.mem_cons.1 hp with rfl | hp
        · simp
        · have := h p hp; omega
/-- How great the list may be. -/
def BrdLe (M : Nat) (acc : List (KeyD × List ByteArray)) : Prop := acc.length ≤ M ∧ ∀ p ∈ acc, p.2.length ≤ M
theorem BrdLe.step {M : Nat} {acc : List (KeyD × List ByteArray)} (h : BrdLe M acc) (k : KeyD) (id : ByteArray) : BrdLe (M + 1) (rput k id acc) := ⟨Nat.le_trans (rput_len k id acc) (by have := h.1; omega), rput_own h.2⟩
theorem BrdLe.mono {M M' : Nat} {acc : List (KeyD × List ByteArray)} (h : BrdLe M acc) (hm : M ≤ M') : BrdLe M' acc := ⟨Nat.le_trans h.1 hm, fun p hp => Nat.le_trans (h.2 p hp) hm⟩
/-- .. the next object. -/
structure BrdIn (l : List ObjD) (i : Nat) (acc : List (KeyD × List ByteArray)) : Prop where
  owns : Owns acc (ownF l (l.take i))
  sort : SortedK acc
theorem BrdIn.start {l : List ObjD} {i : Nat} {acc : List (KeyD × List ByteArray)} (h : BrdIn l i acc) (o : ObjD) : BrdSt l (l.take i) o 0 acc := ⟨h.owns.congr fun k => (partF_zero l _ o k).symm, h.sort⟩
theorem BrdIn.next {l : List ObjD} {i : Nat} {o : ObjD} {acc : List (KeyD × List ByteArray)} (ho : l[i]? = some o) (hb : isB l o = true) (h : BrdSt l (l.take i) o (sideN o) acc) : BrdIn l (i + 1) acc := ⟨h.owns.congr fun k => by rw [take_next ho, ownF_snoc, if_pos hb], h.sort⟩
theorem BrdIn.skip {l : List ObjD} {i : Nat} {o : ObjD} {acc : List (KeyD × List ByteArray)} (ho : l[i]? = some o) (hb : isB l o = false) (h : BrdIn l i acc) : BrdIn l (i + 1) acc := ⟨h.owns.congr fun k => by rw [take_next ho, ownF_snoc, if_neg (by rw [hb]; simp)], h.sort⟩
theorem BrdIn.all {l : List ObjD} {acc : List (KeyD × List ByteArray)} (h : BrdIn l l.length acc) : acc = bordersP l := borders_of h.sort (by have := h.owns; rwa [List.take_length] at this)
theorem BrdIn.nil (l : List ObjD) : BrdIn l 0 [] := ⟨Owns.nil fun _ => rfl, List.Pairwise.nil⟩
/-- The nodes of the sides of a sound object are nodes. -/
theorem side_nodes {l : List ObjD} {o : ObjD} (hs : soundB l o = true) {j : Nat} (hj : j < sideN o) : (nodeAt l (sideAt o j).1).isSome = true ∧ (nodeAt l (sideAt o j).2).isSome = true := by
  have hall : ∀ x ∈ o.refs, (nodeAt l x).isSome = true := by
    unfold soundB at hs
    exact List.all_eq_true.1 hs
  have hm : sideAt o j ∈ sidesP o := List.mem_of_getElem? (sides_get hj)
  exact ⟨hall _ (sides_refs hm (Or.inl rfl)), hall _ (sides_refs hm (Or.inr rfl))⟩
end Go.Proofs.YtbkomdinchiffaaGreat
