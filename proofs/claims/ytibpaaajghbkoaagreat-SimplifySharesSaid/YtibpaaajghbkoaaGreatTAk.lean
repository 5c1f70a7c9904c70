/-       -/
import Derived.Test.YtibpaaajghbkoaaGreatTAj
namespace Go.Proofs.YtibpaaajghbkoaaGreat
theorem sides_adj {o : ObjD} (hk : o.kind = 2 ∨ o.kind = 3) (hl : 2 ≤ o.refs.length) {k : KeyD} : k ∈ sidesP o ↔ (∃ C D u v, o.refs = C ++ u :: v :: D ∧ k = key2 u v) ∨ (o.kind = 3 ∧ ∃ u v, o.refs.getLast? = some u ∧ o.refs.head? = some v ∧ k = key2 u v) := by
 unfold sidesP
 rw [List.mem_map]
 constructor
 ·rintro ⟨i, hi, rfl⟩
  rw [List.mem_range] at hi
  have hlt : i < o.refs.length := by unfold sideN at hi; split at hi <;> omega
  have e1 := refAt_eq hlt
  rcases Nat.lt_or_ge (i + 1) o.refs.length with h | h
  ·left
   have e2 := refAt_eq h
   refine ⟨o.refs.take i, o.refs.drop (i + 2), refAt o i, refAt o (i + 1), ?_, ?_⟩
   ·conv => lhs; rw [← List.take_append_drop i o.refs]
    rw [List.drop_eq_getElem_cons hlt, List.drop_eq_getElem_cons h]
    rw [List.getElem?_eq_getElem hlt] at e1
    rw [List.getElem?_eq_getElem h] at e2
    rw [Option.some.inj e1, Option.some.inj e2]
   ·unfold sideAt; rw [Nat.mod_eq_of_lt h]
  ·right
   have hin : i + 1 = o.refs.length := by omega
   refine ⟨?_, refAt o i, refAt o 0, ?_, ?_, ?_⟩
   ·rcases hk with hk | hk
    ·unfold sideN at hi; rw [if_pos hk] at hi; omega
    ·exact hk
   ·rw [List.getLast?_eq_getElem?, show o.refs.length - 1 = i by omega]; exact e1
   ·rw [List.head?_eq_getElem?]; exact refAt_eq (by omega)
   ·unfold sideAt; rw [hin, Nat.mod_self]
 ·rintro (⟨C, D, u, v, e, rfl⟩ | ⟨h3, u, v, e1, e2, rfl⟩)
  ·have hlen : o.refs.length = C.length + (D.length + 2) := by rw [e]; simp
   have g1 : o.refs[C.length]? = some u := by rw [e, List.getElem?_append_right (Nat.le_refl _), Nat.sub_self]; rfl
   have g2 : o.refs[C.length + 1]? = some v := by rw [e, List.getElem?_append_right (by omega), show C.length + 1 - C.length = 1 by omega]; rfl
   refine ⟨C.length, List.mem_range.2 (by unfold sideN; split <;> omega), ?_⟩
   unfold sideAt
   rw [Nat.mod_eq_of_lt (by omega), ref_some g1, ref_some g2]
  ·rw [List.getLast?_eq_getElem?] at e1
   rw [List.head?_eq_getElem?] at e2
   refine ⟨o.refs.length - 1, List.mem_range.2 (by unfold sideN; rw [if_neg (by omega)]; omega), ?_⟩
   unfold sideAt
   rw [show o.refs.length - 1 + 1 = o.refs.length by omega, Nat.mod_self, ref_some e1, ref_some e2]
theorem nbr_ends {o : ObjD} {id : ByteArray} {p : KeyD} (hok : objOK o = true) (hid : id ∈ o.refs) (h : nbrO o id = some p) :
  ∃ A B a b, o.refs = A ++ id :: B ∧ id ∉ A ∧ id ∉ B ∧ p = key2 a b ∧ a ≠ b ∧ (A.getLast? = some a ∨ (A = [] ∧ o.kind = 3 ∧ B.getLast? = some a)) ∧ (B.head? = some b ∨ (B = [] ∧ o.kind = 3 ∧ A.head? = some b)) := by
 obtain ⟨hkind, A, B, hs, hA, hB, h2, h3⟩ := nbr_parts hok hid h
 obtain ⟨hl, hs', hA'⟩ := refs_split hid
 have hidx : idxR id o.refs = A.length := by
  have h1 : (o.refs.take (idxR id o.refs)).length = idxR id o.refs := by rw [List.length_take]; omega
  have hne : ∀ (A A' B B' : List ByteArray), A ++ id :: B = A' ++ id :: B' → id ∉ A → id ∉ A' → A.length = A'.length := by
   intro A
   induction A with
   |nil =>
    intro A' B B' e _ hA'
    cases A' with
    |nil => rfl
    |cons x A' =>
     have : id = x := by simpa using (List.cons.inj e).1
     exact absurd (by simp [this]) hA'
   |cons y A ih =>
    intro A' B B' e hA hA'
    cases A' with
    |nil =>
     have : y = id := by simpa using (List.cons.inj e).1
     exact absurd (by simp [this]) hA
    |cons x A' =>
     have := ih A' B B' (List.cons.inj e).2 (fun c => hA (List.mem_cons_of_mem _ c)) (fun c => hA' (List.mem_cons_of_mem _ c))
     simp [this]
  have := hne _ _ _ _ (hs'.symm.trans hs) hA' hA
  omega
 have hlen : o.refs.length = A.length + B.length + 1 := by rw [hs]; simp; omega
 have get : ∀ i, o.refs[i]? = if i < A.length then A[i]? else if i = A.length then some id else B[i - A.length - 1]? := fun i => by
  rw [hs]
  by_cases h1 : i < A.length
  ·rw [if_pos h1, List.getElem?_append_left h1]
  ·rw [if_neg h1, List.getElem?_append_right (by omega)]
   by_cases h2 : i = A.length
   ·rw [if_pos h2, h2, Nat.sub_self]; rfl
   ·rw [if_neg h2, show i - A.length = (i - A.length - 1) + 1 by omega, List.getElem?_cons_succ]; rfl
 unfold nbrO at h
 split at h
 ·rename_i hc
  split at h
  ·cases h
  ·rename_i hne
   injection h with h
   subst h
   rw [hidx] at hne ⊢
   refine ⟨A, B, _, _, hs, hA, hB, rfl, hne, ?_, ?_⟩
   ·by_cases hA0 : A = []
    ·right
     have hk3 : o.kind = 3 := by
      rcases hkind with hk | hk
      ·exact absurd hA0 (h2 hk).1
      ·exact hk
     have h4 := h3 hk3
     subst hA0
     refine ⟨rfl, hk3, ?_⟩
     simp only [List.length_nil, Nat.zero_add] at hlen ⊢
     rw [Nat.mod_eq_of_lt (by omega), List.getLast?_eq_getElem?]
     have g := get (o.refs.length - 1)
     simp only [List.length_nil, Nat.not_lt_zero, if_false] at g
     rw [if_neg (by omega)] at g
     have g2 := refAt_eq (o := o) (i := o.refs.length - 1) (by omega)
     rw [show B.length - 1 = o.refs.length - 1 - 0 - 1 by omega, ← g]
     exact g2
    ·left
     have hpos := List.length_pos_iff.2 hA0
     rw [show A.length + o.refs.length - 1 = (A.length - 1) + o.refs.length by omega, Nat.add_mod_right, Nat.mod_eq_of_lt (by omega), List.getLast?_eq_getElem?]
     have g := get (A.length - 1)
     rw [if_pos (by omega)] at g
     rw [← g]
     exact refAt_eq (by omega)
   ·by_cases hB0 : B = []
    ·right
     have hk3 : o.kind = 3 := by
      rcases hkind with hk | hk
      ·exact absurd hB0 (h2 hk).2.1
      ·exact hk
     have h4 := h3 hk3
     subst hB0
     refine ⟨rfl, hk3, ?_⟩
     simp only [List.length_nil, Nat.add_zero] at hlen
     rw [← hlen, Nat.mod_self, List.head?_eq_getElem?]
     have g := get 0
     rw [if_pos (by omega)] at g
     rw [← g]
     exact refAt_eq (by omega)
    ·left
     have hpos := List.length_pos_iff.2 hB0
     rw [Nat.mod_eq_of_lt (by omega), List.head?_eq_getElem?]
     have g := get (A.length + 1)
     rw [if_neg (by omega), if_neg (by omega), show A.length + 1 - A.length - 1 = 0 by omega] at g
     rw [← g]
     exact refAt_eq (by omega)
 ·cases h
theorem last_split {α : Type} {A : List α} {a : α} (h : A.getLast? = some a) : ∃ A', A = A' ++ [a] := by
 cases A with
 |nil => cases h
 |cons x A =>
  have hne : x :: A ≠ [] := by simp
  rw [List.getLast?_eq_some_getLast hne] at h
  injection h with h
  exact ⟨(x :: A).dropLast, by rw [← h]; exact (List.dropLast_concat_getLast hne).symm⟩
theorem head_split {α : Type} {A : List α} {a : α} (h : A.head? = some a) : ∃ A', A = a :: A' := by
 cases A with
 |nil => cases h
 |cons x A => injection h with h; exact ⟨A, by rw [h]⟩
theorem sides_less {o : ObjD} {n : ByteArray} {p : KeyD} (hok : objOK o = true) (hid : n ∈ o.refs) (h : nbrO o n = some p) :
  (∀ k ∈ sidesP (lessO n o), k ∈ sidesP o ∨ k = p) ∧ key2 p.1 n ∈ sidesP o ∧ key2 n p.2 ∈ sidesP o ∧ p ∈ sidesP (lessO n o) ∧ p.1 ≠ p.2 ∧ p.1 ≠ n ∧ p.2 ≠ n ∧ p.1 ∈ o.refs ∧ p.2 ∈ o.refs ∧ ∃ a b, p = key2 a b := by
 have hkind := (nbr_parts hok hid h).1
 obtain ⟨A, B, a, b, hs, hA, hB, rfl, hne, ha, hb⟩ := nbr_ends hok hid h
 have hlok := less_ok hok hid h
 have hR : (lessO n o).refs = A ++ B := by show lessR n o.refs = _; rw [hs, less_split hA hB]
 have two : ∀ x : ObjD, objOK x = true → (x.kind = 2 ∨ x.kind = 3) → 2 ≤ x.refs.length := fun x hx hk => by
  simp only [objOK, Bool.and_eq_true, decide_eq_true_eq] at hx
  have h4 := hx.1.1.1.2
  rcases hk with hk | hk
  ·rw [hk] at h4; unfold leastK at h4; simp at h4; omega
  ·rw [hk] at h4; unfold leastK at h4; simp at h4; omega
 have l1 := two o hok hkind
 have l2 := two _ hlok (show (lessO n o).kind = 2 ∨ (lessO n o).kind = 3 from hkind)
 have kan : key2 a n ∈ sidesP o := by
  rw [sides_adj hkind l1]
  rcases ha with ha | ⟨hA0, hk3, ha⟩
  ·obtain ⟨A', rfl⟩ := last_split ha
   exact Or.inl ⟨A', B, a, n, by rw [hs]; simp, rfl⟩
  ·subst hA0
   obtain ⟨B', rfl⟩ := last_split ha
   refine Or.inr ⟨hk3, a, n, ?_, ?_, rfl⟩
   ·rw [hs]; exact last_snoc (n :: B') a
   ·rw [hs]; rfl
 have knb : key2 n b ∈ sidesP o := by
  rw [sides_adj hkind l1]
  rcases hb with hb | ⟨hB0, hk3, hb⟩
  ·obtain ⟨B', rfl⟩ := head_split hb
   exact Or.inl ⟨A, B', n, b, hs, rfl⟩
  ·subst hB0
   obtain ⟨A', rfl⟩ := head_split hb
   refine Or.inr ⟨hk3, n, b, ?_, ?_, rfl⟩
   ·rw [hs]; exact last_snoc (b :: A') n
   ·rw [hs]; rfl
 have kab : key2 a b ∈ sidesP (lessO n o) := by
  rw [sides_adj (show (lessO n o).kind = 2 ∨ (lessO n o).kind = 3 from hkind) l2, hR]
  rcases ha with ha | ⟨hA0, hk3, ha⟩
  ·rcases hb with hb | ⟨hB0, hk3, hb⟩
   ·obtain ⟨A', rfl⟩ := last_split ha
    obtain ⟨B', rfl⟩ := head_split hb
    exact Or.inl ⟨A', B', a, b, by simp, rfl⟩
   ·subst hB0
    exact Or.inr ⟨hk3, a, b, by rw [List.append_nil]; exact ha, by rw [List.append_nil]; exact hb, rfl⟩
  ·subst hA0
   rcases hb with hb | ⟨hB0, _, hb⟩
   ·exact Or.inr ⟨hk3, a, b, ha, hb, rfl⟩
   ·subst hB0; cases hb
 have han : a ≠ n := fun e => by
  subst e
  rcases ha with ha | ⟨_, _, ha⟩
  ·exact hA (List.mem_of_getLast? ha)
  ·exact hB (List.mem_of_getLast? ha)
 have hbn : b ≠ n := fun e => by
  subst e
  rcases hb with hb | ⟨_, _, hb⟩
  ·exact hB (List.mem_of_head? hb)
  ·exact hA (List.mem_of_head? hb)
 have har : a ∈ o.refs := sides_refs kan (key2_cases.2 (Or.inl rfl))
 have hbr : b ∈ o.refs := sides_refs knb (key2_cases.2 (Or.inr rfl))
 refine ⟨fun k hk => ?_, ?_⟩
 ·rw [sides_adj (show (lessO n o).kind = 2 ∨ (lessO n o).kind = 3 from hkind) l2, hR] at hk
  rw [sides_adj hkind l1]
  rcases hk with ⟨C, D, u, v, e, rfl⟩ | ⟨hk3, u, v, e1, e2, rfl⟩
  ·rcases List.append_eq_append_iff.1 e with ⟨E, rfl, e'⟩ | ⟨E, rfl, e'⟩
   ·exact Or.inl (Or.inl ⟨A ++ n :: E, D, u, v, by rw [hs, e']; simp, rfl⟩)
   ·cases E with
    |nil =>
     simp only [List.nil_append] at e'
     refine Or.inl (Or.inl ⟨C ++ [n], D, u, v, by rw [hs, ← e']; simp, rfl⟩)
    |cons x E =>
     simp only [List.cons_append] at e'
     obtain ⟨e3, e4⟩ := List.cons.inj e'
     clear e'
     subst e3
     cases E with
     |nil =>
      simp only [List.nil_append] at e4
      right
      have h1 : a = u := by
       rcases ha with ha | ⟨h0, _, _⟩
       ·simpa using ha.symm
       ·simp at h0
      have h2 : b = v := by
       rcases hb with hb | ⟨h0, _, _⟩
       ·rw [← e4] at hb; simpa using hb.symm
       ·rw [← e4] at h0; cases h0
      rw [h1, h2]
     |cons y E =>
      simp only [List.cons_append] at e4
      obtain ⟨e5, e6⟩ := List.cons.inj e4
      clear e4
      subst e5
      exact Or.inl (Or.inl ⟨C, E ++ n :: B, u, v, by rw [hs]; simp, rfl⟩)
  ·have hk3' : o.kind = 3 := hk3
   rcases ha with ha | ⟨hA0, _, ha⟩
   ·rcases hb with hb | ⟨hB0, _, hb⟩
    ·left; right
     obtain ⟨A', rfl⟩ := last_split ha
     obtain ⟨B', rfl⟩ := head_split hb
     refine ⟨hk3', u, v, ?_, ?_, rfl⟩
     ·rw [← e1, hs]
      rw [List.getLast?_append (l := A' ++ [a]) (l' := n :: b :: B'), List.getLast?_append (l := A' ++ [a]) (l' := b :: B'), List.getLast?_cons_cons]
     ·rw [← e2, hs]; simp
    ·right
     subst hB0
     rw [List.append_nil] at e1 e2
     rw [ha] at e1
     rw [hb] at e2
     injection e1 with e1; injection e2 with e2
     rw [e1, e2]
   ·right
    subst hA0
    rcases hb with hb | ⟨hB0, _, hb⟩
    ·rw [List.nil_append] at e1 e2
     rw [ha] at e1
     rw [hb] at e2
     injection e1 with e1; injection e2 with e2
     rw [e1, e2]
    ·subst hB0; cases hb
 ·rcases key2_or a b with e | e <;> rw [e] at kab ⊢ <;> simp only
  ·exact ⟨kan, knb, kab, hne, han, hbn, har, hbr, a, b, e.symm⟩
  ·exact ⟨by rw [key2_comm]; exact knb, by rw [key2_comm]; exact kan, kab, fun c => hne c.symm, hbn, han, hbr, har, b, a, by rw [key2_comm]; exact e.symm⟩
end Go.Proofs.YtibpaaajghbkoaaGreat

namespace Go.Proofs.YtibpaaajghbkoaaGreat
theorem new_end {a b c q : Pt} (hab : a ≠ b) (na : nearQ a = true) (nb : nearQ b = true) (nc : nearQ c = true) (nq : nearQ q = true) (hc : (c = a ∧ onR (c, q) b = false) ∨ (c = b ∧ onR (c, q) a = false)) (hq : onR (a, b) q = false) : meetsR (a, b) (c, q) = 1 := by
 have hs : nearS (a, b) = true := by unfold nearS; simp [na, nb]
 have ht : nearS (c, q) = true := by unfold nearS; simp [nc, nq]
 have hca : onR (a, b) c = true := by
  rcases hc with ⟨rfl, _⟩ | ⟨rfl, _⟩
  ·exact (onR_ends (_, b)).1
  ·exact (onR_ends (a, _)).2
 have hmem : c ∈ commonR (a, b) (c, q) := mem_common.2 ⟨Or.inr (Or.inr (Or.inl rfl)), hca, (onR_ends (c, q)).1⟩
 have one : ∀ x ∈ commonR (a, b) (c, q), x = c := fun x hx => by
  obtain ⟨h1, h2, h3⟩ := mem_common.1 hx
  rcases h1 with rfl | rfl | rfl | rfl
  ·rcases hc with ⟨rfl, _⟩ | ⟨rfl, h⟩
   ·rfl
   ·rw [h] at h3; cases h3
  ·rcases hc with ⟨rfl, h⟩ | ⟨rfl, _⟩
   ·rw [h] at h3; cases h3
   ·rfl
  ·rfl
  ·rw [hq] at h2; cases h2
 have hne : ¬ ((a, b) = (c, q) ∨ (a = q ∧ b = c)) := by
  rintro (e | ⟨e, _⟩)
  ·injection e with _ e
   rw [← e, (onR_ends (a, b)).2] at hq; cases hq
  ·rw [← e, (onR_ends (a, b)).1] at hq; cases hq
 unfold meetsR
 rw [hs, ht]
 simp only [Bool.and_self, Bool.not_true, Bool.false_eq_true, if_false]
 rw [if_neg hne, common_one hmem one]
 simp only [pickR, endR]
 have e1 : decide (c = a ∨ c = b) = true := decide_eq_true (hc.imp (·.1) (·.1))
 rw [e1]
 simp
structure StepD (l : List ObjD) (n : ByteArray) (p : KeyD) : Prop where
 ok : mapOK l = true
 none : checkP l = []
 fit : ∀ o ∈ l, fitO l o = true
 node : NodeL l n
 drop : GoneM l [n]
 eq : dropP l n = dropsP l [n]
 refs : ∃ o ∈ l, n ∈ o.refs
 nbr : ∀ o ∈ l, n ∈ o.refs → nbrO o n = some p
 free : ∀ r ∈ brefP l, r ≠ n → r ≠ p.1 → r ≠ p.2 → hasT (ptO l n) (ptO l p.1) (ptO l p.2) (ptO l r) = false
theorem at_node {l : List ObjD} {r : ByteArray} {x : ObjD} (hx : atO l r = some x) : x ∈ l ∧ x.id = r := by
 unfold atO at hx
 cases hp : posO r l with
 |none => rw [hp] at hx; cases hx
 |some i =>
  rw [hp] at hx
  obtain ⟨o, ho, e⟩ := posO_some r l i hp
  have : l[i]? = some x := hx
  rw [ho] at this
  injection this with this
  subst this
  exact ⟨List.mem_of_getElem? ho, e⟩
theorem fit_sound {l : List ObjD} (h : mapOK l = true) {o : ObjD} (hf : fitO l o = true) (hk : o.kind = 2 ∨ o.kind = 3) : isB l o = true := by
 unfold isB
 rw [Bool.and_eq_true, decide_eq_true_eq]
 refine ⟨hk, ?_⟩
 unfold soundB
 rw [List.all_eq_true]
 intro r hr
 obtain ⟨i, hi⟩ := List.getElem?_of_mem hr
 have hl := (List.getElem?_eq_some_iff.1 hi).1
 unfold fitO at hf
 have := List.all_eq_true.1 hf i (List.mem_range.2 hl)
 rw [ref_some hi] at this
 cases hx : atO l r with
 |none => rw [hx] at this; cases this
 |some x =>
  rw [hx] at this
  have hk1 : x.kind = wantK o i := of_decide_eq_true this
  have hw : wantK o i = 1 := by unfold wantK; rw [if_neg (by omega)]
  obtain ⟨hm, e⟩ := at_node hx
  rw [(nodeAt_iff h (q := (x.x, x.y))).2 ⟨x, hm, e, by rw [hk1, hw], rfl⟩]; rfl
theorem step_data {l : List ObjD} {tol : Int} {n : ByteArray} (h : mapOK l = true) (h0 : checkP l = []) (hf : ∀ o ∈ l, fitO l o = true) (hs : stepP l tol = some n) : ∃ p, StepD l n p ∧ sizeT (ptO l n) (ptO l p.1) (ptO l p.2) ≤ tol := by
 obtain ⟨o, ho, rfl, hk, ht, p, hn, hsz, hfr⟩ := step_spec hs
 obtain ⟨hr, hall⟩ := neigh_spec hn
 have hg := gone_step (D := []) (m := l) (gone_nil h) (by rw [drops_nil]; exact hs)
 rw [drops_nil] at hg
 refine ⟨p, ⟨h, h0, hf, step_node h hs, hg.1, hg.2, hr, hall, fun r hr' h1 h2 h3 => ?_⟩, hsz⟩
 unfold freeC at hfr
 have := List.all_eq_true.1 hfr r hr'
 simp only [Bool.or_eq_true, decide_eq_true_eq, Bool.not_eq_true'] at this
 rcases this with (c | c | c) | c
 ·exact absurd c h1
 ·exact absurd c h2
 ·exact absurd c h3
 ·exact c
section
variable {l : List ObjD} {n : ByteArray} {p : KeyD}
theorem StepD.kind (h : StepD l n p) {o : ObjD} (ho : o ∈ l) (hr : n ∈ o.refs) : o.kind = 2 ∨ o.kind = 3 := (nbr_parts (map_obj h.ok ho) hr (h.nbr o ho hr)).1
theorem StepD.two (h : StepD l n p) : key2 p.1 n ∈ keysP l ∧ key2 n p.2 ∈ keysP l ∧ p.1 ≠ p.2 ∧ p.1 ≠ n ∧ p.2 ≠ n ∧ OrdP p := by
 obtain ⟨o, ho, hr⟩ := h.refs
 obtain ⟨-, h1, h2, -, h3, h4, h5, -, -, a, b, e⟩ := sides_less (map_obj h.ok ho) hr (h.nbr o ho hr)
 have hb := fit_sound h.ok (h.fit o ho) (h.kind ho hr)
 exact ⟨keysP_mem.2 ⟨o, ho, hb, h1⟩, keysP_mem.2 ⟨o, ho, hb, h2⟩, h3, h4, h5, by rw [e]; exact key2_ordP a b⟩
theorem StepD.less (h : StepD l n p) {x : ObjD} (hx : x ∈ dropP l n) : ∃ o ∈ l, o.id ≠ n ∧ x = lessO n o ∧ isB (dropP l n) x = isB l o := by
 obtain ⟨o, ho, hne, rfl⟩ := drop_mem.1 hx
 refine ⟨o, ho, hne, rfl, ?_⟩
 have := isb_left h.drop o
 rw [← h.eq] at this
 rw [← this]
 congr 1
 unfold lessO lessR
 congr 1
 refine List.filter_congr fun r _ => ?_
 simp
theorem StepD.keys (h : StepD l n p) {k : KeyD} (hk : k ∈ keysP (dropP l n)) : (k ∈ keysP l ∨ k = p) ∧ k.1 ≠ n ∧ k.2 ≠ n := by
 obtain ⟨x, hx, hb, hs⟩ := keysP_mem.1 hk
 obtain ⟨o, ho, hne, rfl, he⟩ := h.less hx
 rw [he] at hb
 have hin : ∀ r, r = k.1 ∨ r = k.2 → r ≠ n := fun r hr => (less_mem.1 (sides_refs hs hr)).2
 refine ⟨?_, hin _ (Or.inl rfl), hin _ (Or.inr rfl)⟩
 by_cases hr : n ∈ o.refs
 ·rcases (sides_less (map_obj h.ok ho) hr (h.nbr o ho hr)).1 k hs with c | c
  ·exact Or.inl (keysP_mem.2 ⟨o, ho, hb, c⟩)
  ·exact Or.inr c
 ·have e : lessO n o = o := by unfold lessO; rw [less_self hr]
  rw [e] at hs
  exact Or.inl (keysP_mem.2 ⟨o, ho, hb, hs⟩)
theorem StepD.pt (h : StepD l n p) {r : ByteArray} (hr : r ≠ n) : ptO (dropP l n) r = ptO l r := by
 unfold ptO
 rw [h.eq, node_left h.drop (by simpa using hr)]
theorem StepD.nodes (h : StepD l n p) : n ∈ nodesP l ∧ p.1 ∈ nodesP l ∧ p.2 ∈ nodesP l := by
 obtain ⟨k1, k2, -⟩ := h.two
 exact ⟨nodes_mem.2 ⟨_, k1, (key2_cases (a := p.1) (b := n)).2 (Or.inr rfl)⟩, nodes_mem.2 ⟨_, k1, key2_cases.2 (Or.inl rfl)⟩, nodes_mem.2 ⟨_, k2, key2_cases.2 (Or.inr rfl)⟩⟩
theorem bref_node {r : ByteArray} (h : r ∈ nodesP l) : r ∈ brefP l := by
 obtain ⟨k, hk, hr⟩ := nodes_mem.1 h
 obtain ⟨o, ho, hb, hs⟩ := keysP_mem.1 hk
 exact bref_mem.2 ⟨o, ho, isB_kind hb, sides_refs hs hr⟩
theorem StepD.cross (h : StepD l n p) {k : KeyD} (hk : k ∈ keysP l) (hk1 : k.1 ≠ n) (hk2 : k.2 ≠ n) (hne : k ≠ p) : crossB l p k = false := by
 obtain ⟨kan, knb, hab, han, hbn, hord⟩ := h.two
 obtain ⟨nn, na, nb⟩ := h.nodes
 obtain ⟨np, nq⟩ := keys_nodes hk
 have near := fun r => pt_near h.ok r
 have inj : ∀ {r s : ByteArray}, r ∈ nodesP l → s ∈ nodesP l → r ≠ s → ptO l r ≠ ptO l s := fun hr hs hrs e => hrs (none_nodes h.none hr hs e)
 have hpq : k.1 ≠ k.2 := keys_ne h.ok hk
 have key_ne : ∀ x, k ≠ key2 x n := fun x e => by
  rcases key2_or x n with c | c <;> rw [c] at e
  ·exact hk2 (by rw [e])
  ·exact hk1 (by rw [e])
 have key_ne' : ∀ x, k ≠ key2 n x := fun x => by rw [key2_comm]; exact key_ne x
 have m1 : (meetsR (ptO l p.1, ptO l n) (segB l k) = 0) ∨ (k.1 = p.1 ∨ k.2 = p.1) := by
  have hc := cross_false (none_cross h.none kan hk (fun e => key_ne _ e.symm))
  rw [meetsR_comm, seg_key2, meetsR_comm] at hc
  rcases hc with hc | ⟨_, hc⟩
  ·exact Or.inl hc
  ·right
   unfold comK at hc
   simp only [Bool.or_eq_true, decide_eq_true_eq] at hc
   rcases key2_or p.1 n with e | e <;> rw [e] at hc <;> simp only at hc
   ·rcases hc with (c | c) | (c | c)
    ·exact Or.inl c.symm
    ·exact Or.inr c.symm
    ·exact absurd c.symm hk1
    ·exact absurd c.symm hk2
   ·rcases hc with (c | c) | (c | c)
    ·exact absurd c.symm hk1
    ·exact absurd c.symm hk2
    ·exact Or.inl c.symm
    ·exact Or.inr c.symm
 have m2 : (meetsR (ptO l n, ptO l p.2) (segB l k) = 0) ∨ (k.1 = p.2 ∨ k.2 = p.2) := by
  have hc := cross_false (none_cross h.none knb hk (fun e => key_ne' _ e.symm))
  rw [meetsR_comm, seg_key2, meetsR_comm] at hc
  rcases hc with hc | ⟨_, hc⟩
  ·exact Or.inl hc
  ·right
   unfold comK at hc
   simp only [Bool.or_eq_true, decide_eq_true_eq] at hc
   rcases key2_or n p.2 with e | e <;> rw [e] at hc <;> simp only at hc
   ·rcases hc with (c | c) | (c | c)
    ·exact absurd c.symm hk1
    ·exact absurd c.symm hk2
    ·exact Or.inl c.symm
    ·exact Or.inr c.symm
   ·rcases hc with (c | c) | (c | c)
    ·exact Or.inl c.symm
    ·exact Or.inr c.symm
    ·exact absurd c.symm hk1
    ·exact absurd c.symm hk2
 have san : nearS (ptO l p.1, ptO l n) = true := by unfold nearS; simp [near]
 have snb : nearS (ptO l n, ptO l p.2) = true := by unfold nearS; simp [near]
 have m3 : meetsR (ptO l p.1, ptO l n) (ptO l n, ptO l p.2) = 1 := by
  have hkk : key2 p.1 n ≠ key2 n p.2 := fun e => by
   have h1 : p.1 = (key2 n p.2).1 ∨ p.1 = (key2 n p.2).2 := by rw [← e]; exact key2_cases.2 (Or.inl rfl)
   rcases key2_cases.1 h1 with c | c
   ·exact han c
   ·exact hab c
  have hc := cross_false (none_cross h.none kan knb hkk)
  rw [seg_key2, meetsR_comm, seg_key2, meetsR_comm] at hc
  rcases hc with hc | ⟨hc, _⟩
  ·exact absurd ⟨(onR_ends (ptO l p.1, ptO l n)).2, (onR_ends (ptO l n, ptO l p.2)).1⟩ (((meets_none san snb).1 hc).1 (ptO l n) (Or.inr (Or.inl rfl)))
  ·exact hc
 have free : ∀ r, r ∈ nodesP l → r ≠ n → r ≠ p.1 → r ≠ p.2 → hasT (ptO l n) (ptO l p.1) (ptO l p.2) (ptO l r) = false := fun r hr => h.free r (bref_node hr)
 have off : ∀ r, r ∈ nodesP l → r ≠ n → r ≠ p.1 → r ≠ p.2 → onR (ptO l p.1, ptO l p.2) (ptO l r) = false := fun r hr h1 h2 h3 => by
  rw [Bool.eq_false_iff]
  intro c
  have := on_in (near n) (near p.1) (near p.2) (near r) (inj na nb hab) c
  rw [free r hr h1 h2 h3] at this; cases this
 have endA : ∀ c q : ByteArray, q ∈ nodesP l → q ≠ n → q ≠ p.1 → q ≠ p.2 → ((c = p.1 ∧ meetsR (ptO l n, ptO l p.2) (ptO l c, ptO l q) = 0) ∨ (c = p.2 ∧ meetsR (ptO l p.1, ptO l n) (ptO l c, ptO l q) = 0)) → meetsR (ptO l p.1, ptO l p.2) (ptO l c, ptO l q) = 1 := fun c q hq q1 q2 q3 hc => by
  have scq : nearS (ptO l c, ptO l q) = true := by unfold nearS; simp [near]
  refine new_end (inj na nb hab) (near _) (near _) (near _) (near _) ?_ (off q hq q1 q2 q3)
  rcases hc with ⟨rfl, hm⟩ | ⟨rfl, hm⟩
  ·refine Or.inl ⟨rfl, ?_⟩
   rw [Bool.eq_false_iff]
   intro hc
   exact ((meets_none snb scq).1 hm).1 (ptO l p.2) (Or.inr (Or.inl rfl)) ⟨(onR_ends (ptO l n, ptO l p.2)).2, hc⟩
  ·refine Or.inr ⟨rfl, ?_⟩
   rw [Bool.eq_false_iff]
   intro hc
   exact ((meets_none san scq).1 hm).1 (ptO l p.1) (Or.inl rfl) ⟨(onR_ends (ptO l p.1, ptO l n)).1, hc⟩
 have sw : ∀ (s : Sg) (x y : ByteArray), meetsR s (ptO l x, ptO l y) = meetsR s (ptO l y, ptO l x) := fun s x y => (meetsR_swap2 s (ptO l y, ptO l x))
 have fin1 : meetsR (segB l p) (segB l k) = 1 → comK p k = true → crossB l p k = false := fun h1 h2 => by
  unfold crossB; rw [h1, h2]; rfl
 have com : ∀ x, (x = p.1 ∨ x = p.2) → (x = k.1 ∨ x = k.2) → comK p k = true := fun x h1 h2 => by
  unfold comK
  simp only [Bool.or_eq_true, decide_eq_true_eq]
  rcases h1 with rfl | rfl
  ·exact Or.inl h2
  ·exact Or.inr h2
 by_cases c1 : k.1 = p.1
 ·have d2 : k.2 ≠ p.2 := fun e => hne (Prod.ext c1 e)
  have d1 : k.2 ≠ p.1 := fun e => hpq (c1.trans e.symm)
  refine fin1 ?_ (com p.1 (Or.inl rfl) (Or.inl c1.symm))
  refine endA k.1 k.2 nq hk2 d1 d2 (Or.inl ⟨c1, ?_⟩)
  rcases m2 with m2 | c | c
  ·exact m2
  ·exact absurd (c1.symm.trans c) hab
  ·exact absurd c d2
 ·by_cases c2 : k.2 = p.1
  ·have hkp : k.1 ≠ p.2 := fun e => by
    have ho := keys_ord hk
    obtain ⟨a, b, e2⟩ := ho
    have h1 : key2 k.1 k.2 = k := key2_of (by rw [e2]; exact key2_ordP a b)
    have h2 : key2 p.1 p.2 = p := key2_of hord
    rw [e, c2, key2_comm, h2] at h1
    exact hne h1.symm
   refine fin1 ?_ (com p.1 (Or.inl rfl) (Or.inr c2.symm))
   show meetsR (ptO l p.1, ptO l p.2) (ptO l k.1, ptO l k.2) = 1
   rw [sw]
   refine endA k.2 k.1 np hk1 c1 hkp (Or.inl ⟨c2, ?_⟩)
   rcases m2 with m2 | c | c
   ·rw [sw]; exact m2
   ·exact absurd c hkp
   ·exact absurd (c2.symm.trans c) hab
  ·have n1 : meetsR (ptO l p.1, ptO l n) (segB l k) = 0 := m1.resolve_right (by rintro (c | c); exact c1 c; exact c2 c)
   by_cases c3 : k.1 = p.2
   ·have d2 : k.2 ≠ p.2 := fun e => hpq (c3.trans e.symm)
    refine fin1 ?_ (com p.2 (Or.inr rfl) (Or.inl c3.symm))
    exact endA k.1 k.2 nq hk2 c2 d2 (Or.inr ⟨c3, n1⟩)
   ·by_cases c4 : k.2 = p.2
    ·refine fin1 ?_ (com p.2 (Or.inr rfl) (Or.inr c4.symm))
     show meetsR (ptO l p.1, ptO l p.2) (ptO l k.1, ptO l k.2) = 1
     rw [sw]
     refine endA k.2 k.1 np hk1 c1 c3 (Or.inr ⟨c4, ?_⟩)
     rw [sw]; exact n1
    ·have n2 : meetsR (ptO l n, ptO l p.2) (segB l k) = 0 := m2.resolve_right (by rintro (c | c); exact c3 c; exact c4 c)
     have := new_none (near p.1) (near p.2) (near n) (near k.1) (near k.2) (inj na nb hab) (inj na nn han) (inj nb nn hbn) n1 n2 m3 (free k.1 np hk1 c1 c3) (free k.2 nq hk2 c2 c4)
     unfold crossB
     rw [show meetsR (segB l p) (segB l k) = 0 from this]
     rfl
theorem StepD.check (h : StepD l n p) : checkP (dropP l n) = [] := by
 refine List.eq_nil_iff_forall_not_mem.2 fun key hkey => ?_
 obtain ⟨-, -, hab, han, hbn, -⟩ := h.two
 have pn : ∀ x ∈ nodesP (dropP l n), x ∈ nodesP l ∧ x ≠ n := fun x hx => by
  obtain ⟨k, hk, hxk⟩ := nodes_mem.1 hx
  obtain ⟨h1, h2, h3⟩ := h.keys hk
  refine ⟨?_, ?_⟩
  ·rcases h1 with h1 | rfl
   ·exact nodes_mem.2 ⟨k, h1, hxk⟩
   ·rcases hxk with rfl | rfl
    ·exact h.nodes.2.1
    ·exact h.nodes.2.2
  ·rcases hxk with rfl | rfl
   ·exact h2
   ·exact h3
 have hcr : ∀ k1 k2 : KeyD, k1 ∈ keysP (dropP l n) → k2 ∈ keysP (dropP l n) → crossB (dropP l n) k1 k2 = crossB l k1 k2 := fun k1 k2 h1 h2 => by
  obtain ⟨-, a1, a2⟩ := h.keys h1
  obtain ⟨-, b1, b2⟩ := h.keys h2
  unfold crossB segB
  rw [h.pt a1, h.pt a2, h.pt b1, h.pt b2]
 rcases bad_mem.1 (checkP_mem.1 hkey) with ⟨a, ha, b, hb, hne, hpt, -⟩ | ⟨q1, hq1, q2, hq2, hne, hc, -⟩
 ·obtain ⟨a1, a2⟩ := pn a ha
  obtain ⟨b1, b2⟩ := pn b hb
  rw [h.pt a2, h.pt b2] at hpt
  exact hne (none_nodes h.none a1 b1 hpt)
 ·have k1 := (borders_mem.1 hq1).1
  have k2 := (borders_mem.1 hq2).1
  rw [hcr _ _ k1 k2] at hc
  obtain ⟨o1, a1, a2⟩ := h.keys k1
  obtain ⟨o2, b1, b2⟩ := h.keys k2
  by_cases e1 : q1.1 = p
  ·have e2 : q2.1 ≠ p := fun e => hne (e1.trans e.symm)
   have := h.cross (o2.resolve_right e2) b1 b2 e2
   rw [e1, this] at hc; cases hc
  ·by_cases e2 : q2.1 = p
   ·have := h.cross (o1.resolve_right e1) a1 a2 e1
    rw [e2, crossB_symm, this] at hc; cases hc
   ·rw [none_cross h.none (o1.resolve_right e1) (o2.resolve_right e2) hne] at hc; cases hc
end
end Go.Proofs.YtibpaaajghbkoaaGreat

namespace Go.Proofs.YtibpaaajghbkoaaGreat
theorem fit_parts {l : List ObjD} : fitP l = true ↔ mapOK l = true ∧ checkP l = [] ∧ ∀ o ∈ l, fitO l o = true := by
 unfold fitP
 rw [Bool.and_eq_true, Bool.and_eq_true, List.isEmpty_iff, List.all_eq_true, and_assoc]
theorem at_some {l : List ObjD} (h : mapOK l = true) {x : ObjD} (hx : x ∈ l) : atO l x.id = some x := by
 obtain ⟨i, hi⟩ := List.getElem?_of_mem hx
 unfold atO
 rw [pos_self h hi]
 exact hi
theorem fit_iff {l : List ObjD} {o : ObjD} : fitO l o = true ↔ ∀ (i : Nat) (r : ByteArray), o.refs[i]? = some r → ∃ x, atO l r = some x ∧ x.kind = wantK o i := by
 unfold fitO
 rw [List.all_eq_true]
 constructor
 ·intro h i r hr
  have := h i (List.mem_range.2 (List.getElem?_eq_some_iff.1 hr).1)
  rw [ref_some hr] at this
  cases hx : atO l r with
  |none => rw [hx] at this; cases this
  |some x => rw [hx] at this; exact ⟨x, rfl, of_decide_eq_true this⟩
 ·intro h i hi
  have hr := refAt_eq (List.mem_range.1 hi)
  obtain ⟨x, hx, hk⟩ := h i _ hr
  rw [hx]; exact decide_eq_true hk
theorem StepD.fits {l : List ObjD} {n : ByteArray} {p : KeyD} (h : StepD l n p) : fitP (dropP l n) = true := by
 have hok : mapOK (dropP l n) = true := by rw [h.eq]; exact h.drop.ok
 refine fit_parts.2 ⟨hok, h.check, fun x hx => ?_⟩
 obtain ⟨o, ho, hne, rfl, -⟩ := h.less hx
 have hf := fit_iff.1 (h.fit o ho)
 refine fit_iff.2 fun i r hr => ?_
 have hrn : r ∈ o.refs ∧ r ≠ n := less_mem.1 (List.mem_of_getElem? hr)
 have key : ∃ j, o.refs[j]? = some r ∧ wantK o j = wantK (lessO n o) i := by
  by_cases hm : n ∈ o.refs
  ·obtain ⟨j, hj⟩ := List.getElem?_of_mem hrn.1
   have hk := h.kind ho hm
   have hw : ∀ (y : ObjD) (m : Nat), y.kind = 2 ∨ y.kind = 3 → wantK y m = 1 := fun y m hy => by unfold wantK; rw [if_neg (by omega)]
   exact ⟨j, hj, by rw [hw o j hk, hw (lessO n o) i hk]⟩
  ·have e : lessO n o = o := by unfold lessO; rw [less_self hm]
   rw [e] at hr ⊢
   exact ⟨i, hr, rfl⟩
 obtain ⟨j, hj, hw⟩ := key
 obtain ⟨y, hy, hyk⟩ := hf j r hj
 obtain ⟨hym, e⟩ := at_node hy
 subst e
 have hyx : lessO n y ∈ dropP l n := drop_mem.2 ⟨y, hym, hrn.2, rfl⟩
 exact ⟨lessO n y, at_some hok hyx, by rw [← hw]; exact hyk⟩
theorem fit_step {l : List ObjD} {tol : Int} {n : ByteArray} (h : fitP l = true) (hs : stepP l tol = some n) : fitP (dropP l n) = true := by
 obtain ⟨h1, h2, h3⟩ := fit_parts.1 h
 obtain ⟨p, hp, -⟩ := step_data h1 h2 h3 hs
 exact hp.fits
theorem all_induct {P : List ObjD → Prop} {tol : Int} (hP : ∀ l n, fitP l = true → stepP l tol = some n → P l → P (dropP l n)) : ∀ (k : Nat) (l : List ObjD), l.length ≤ k → fitP l = true → P l → fitP (allP l tol) = true ∧ P (allP l tol)
 |0, l, hk, hf, hp => by
  have e : l = [] := List.eq_nil_of_length_eq_zero (by omega)
  subst e
  exact ⟨hf, hp⟩
 |k + 1, l, hk, hf, hp => by
  cases hs : stepP l tol with
  |none => rw [all_none hs]; exact ⟨hf, hp⟩
  |some n =>
   obtain ⟨o, ho, e, -⟩ := step_spec hs
   have := drop_len ⟨o, ho, e⟩
   rw [all_some hs]
   exact all_induct hP k _ (by omega) (fit_step hf hs) (hP l n hf hs hp)
theorem all_end (l : List ObjD) (tol : Int) : stepP (allP l tol) tol = none := run_end _ _ (Nat.le_refl _)
theorem cand_more {l : List ObjD} {a b : Int} (hab : a ≤ b) {o : ObjD} {c : CandD} : candO l a o = some c ↔ candO l b o = some c ∧ c.2.1 ≤ a := by
 unfold candO
 cases neighP l o.id with
 |none => simp
 |some p =>
  simp only
  constructor
  ·intro h
   split at h
   ·rename_i hc
    injection h with h
    subst h
    exact ⟨by rw [if_pos ⟨hc.1, hc.2.1, by omega⟩], hc.2.2⟩
   ·cases h
  ·rintro ⟨h, hc⟩
   split at h
   ·rename_i hc2
    injection h with h
    subst h
    rw [if_pos ⟨hc2.1, hc2.2.1, hc⟩]
   ·cases h
theorem step_more {l : List ObjD} {a b : Int} (hab : a ≤ b) {n : ByteArray} (h : stepP l a = some n) : stepP l b = some n := by
 unfold stepP at h ⊢
 obtain ⟨c, hm, rfl⟩ := Option.map_eq_some_iff.1 h
 obtain ⟨hc, hl⟩ := (min_spec _).2 c hm
 obtain ⟨hc1, hc2⟩ := List.mem_filter.1 hc
 obtain ⟨o, ho, he⟩ := List.mem_filterMap.1 hc1
 obtain ⟨he2, hca⟩ := (cand_more hab).1 he
 have hcb : c ∈ (candP l b).filter (freeC l) := List.mem_filter.2 ⟨List.mem_filterMap.2 ⟨o, ho, he2⟩, hc2⟩
 cases hm2 : minO ((candP l b).filter (freeC l)) with
 |none => rw [(min_spec _).1 hm2] at hcb; cases hcb
 |some d =>
  obtain ⟨hd, hdl⟩ := (min_spec _).2 d hm2
  obtain ⟨hd1, hd2⟩ := List.mem_filter.1 hd
  have h1 := hdl c hcb
  have h2 : ltC d c = false := by
   by_cases hda : d.2.1 ≤ a
   ·obtain ⟨o', ho', he'⟩ := List.mem_filterMap.1 hd1
    exact hl d (List.mem_filter.2 ⟨List.mem_filterMap.2 ⟨o', ho', (cand_more hab).2 ⟨he', hda⟩⟩, hd2⟩)
   ·unfold ltC
    rw [Bool.or_eq_false_iff, Bool.and_eq_false_iff]
    exact ⟨decide_eq_false (by omega), Or.inl (decide_eq_false (by omega))⟩
  rw [Option.map_some, ltC_total h2 h1]
theorem all_more {a b : Int} (hab : a ≤ b) : ∀ (k : Nat) (l : List ObjD), l.length ≤ k → allP (allP l a) b = allP l b
 |0, l, hk => by
  have e : l = [] := List.eq_nil_of_length_eq_zero (by omega)
  subst e
  rfl
 |k + 1, l, hk => by
  cases hs : stepP l a with
  |none => rw [all_none hs]
  |some n =>
   obtain ⟨o, ho, e, -⟩ := step_spec hs
   have := drop_len ⟨o, ho, e⟩
   rw [all_some hs, all_some (step_more hab hs)]
   exact all_more hab k _ (by omega)
theorem sim_all {l : List ObjD} {tol : Int} (h : fitP l = true) (ht : 0 ≤ tol) : simP l tol = allP l tol := by unfold simP; rw [if_pos ⟨h, ht⟩]; rfl
theorem sim_not {l : List ObjD} {tol : Int} (h : fitP l = false) : simP l tol = l := by unfold simP; rw [if_neg (by rw [h]; simp)]
theorem sim_fit {l : List ObjD} {tol : Int} (h : fitP l = true) : fitP (simP l tol) = true := by
 by_cases ht : 0 ≤ tol
 ·rw [sim_all h ht]
  exact (all_induct (P := fun _ => True) (fun _ _ _ _ _ => True.intro) _ l (Nat.le_refl _) h True.intro).1
 ·unfold simP; rw [if_neg (fun c => ht c.2)]; exact h
theorem sim_more {l : List ObjD} {a b : Int} (ha : 0 ≤ a) (hab : a ≤ b) : simP (simP l a) b = simP l b ∧ simP (simP l b) b = simP l b ∧ simP (simP l b) a = simP l b := by
 cases h : fitP l with
 |false => simp only [sim_not h, and_self]
 |true =>
  have f1 := sim_fit (tol := a) h
  have f2 := sim_fit (tol := b) h
  have e1 := sim_all h ha
  have e2 := sim_all h (show 0 ≤ b by omega)
  rw [sim_all f1 (by omega), sim_all f2 (by omega), sim_all f2 ha, e1, e2]
  have hn := all_end l b
  refine ⟨all_more hab _ l (Nat.le_refl _), all_none hn, all_none ?_⟩
  cases hs : stepP (allP l b) a with
  |none => rfl
  |some n => rw [step_more hab hs] at hn; cases hn
end Go.Proofs.YtibpaaajghbkoaaGreat

namespace Go.Proofs.YtibpaaajghbkoaaGreat
section
variable {l : List ObjD} {n : ByteArray} {p : KeyD}
theorem StepD.new (h : StepD l n p) : p ∈ keysP (dropP l n) := by
 obtain ⟨o, ho, hr⟩ := h.refs
 obtain ⟨-, -, -, h1, -⟩ := sides_less (map_obj h.ok ho) hr (h.nbr o ho hr)
 have hne : o.id ≠ n := fun e => by
  rw [(h.node o ho e).2] at hr; cases hr
 have hx : lessO n o ∈ dropP l n := drop_mem.2 ⟨o, ho, hne, rfl⟩
 have hb := fit_sound h.ok (h.fit o ho) (h.kind ho hr)
 refine keysP_mem.2 ⟨_, hx, ?_, h1⟩
 have := isb_left h.drop o
 rw [← h.eq] at this
 rw [← hb, ← this]
 congr 1
 unfold lessO lessR
 congr 1
 refine List.filter_congr fun r _ => ?_
 simp
end
end Go.Proofs.YtibpaaajghbkoaaGreat

namespace Go.Proofs.YtibpaaajghbkoaaGreat
def areaF (a b : Pt) : Int := (a.1 + b.1) * (b.2 - a.2)
def pathS : List Pt → Int
 |[] => 0
 |[_] => 0
 |a :: b :: r => areaF a b + pathS (b :: r)
def cycS (r : List Pt) : Int := pathS r + (match r.getLast?, r.head? with
 |some a, some b => areaF a b
 |_, _ => 0)
theorem path_app : ∀ (X Y : List Pt) (a b : Pt), pathS (X ++ a :: b :: Y) = pathS (X ++ [a]) + areaF a b + pathS (b :: Y)
 |[], Y, a, b => by simp [pathS]
 |[x], Y, a, b => by simp [pathS]; omega
 |x :: y :: X, Y, a, b => by
  have := path_app (y :: X) Y a b
  simp only [List.cons_append, pathS] at this ⊢
  omega
theorem area_tri {a b n : Pt} (h : crs a b n = 0) : areaF a n + areaF n b = areaF a b := by
 unfold areaF crs at *
 grind
theorem cyc_less {PA PB : List Pt} {a b n : Pt} (ht : areaF a n + areaF n b = areaF a b) (ha : PA.getLast? = some a ∨ (PA = [] ∧ PB.getLast? = some a)) (hb : PB.head? = some b ∨ (PB = [] ∧ PA.head? = some b)) (hl : 2 ≤ PA.length + PB.length) : cycS (PA ++ n :: PB) = cycS (PA ++ PB) := by
 unfold cycS
 rcases ha with ha | ⟨rfl, ha⟩
 ·obtain ⟨X, rfl⟩ := last_split ha
  rcases hb with hb | ⟨rfl, hb⟩
  ·obtain ⟨Y, rfl⟩ := head_split hb
   have e1 : pathS (X ++ [a] ++ n :: b :: Y) = pathS (X ++ [a]) + areaF a n + (areaF n b + pathS (b :: Y)) := by
    rw [List.append_assoc]
    have := path_app X (b :: Y) a n
    simp only [List.cons_append, List.nil_append, pathS] at this ⊢
    exact this
   have e2 : pathS (X ++ [a] ++ b :: Y) = pathS (X ++ [a]) + areaF a b + pathS (b :: Y) := by
    rw [List.append_assoc]
    exact path_app X Y a b
   have e3 : (X ++ [a] ++ n :: b :: Y).getLast? = (X ++ [a] ++ b :: Y).getLast? := by
    rw [List.getLast?_append (l := X ++ [a]) (l' := n :: b :: Y), List.getLast?_append (l := X ++ [a]) (l' := b :: Y), List.getLast?_cons_cons]
   have e4 : (X ++ [a] ++ n :: b :: Y).head? = (X ++ [a] ++ b :: Y).head? := by cases X <;> rfl
   rw [e1, e2, e3, e4]
   omega
  ·obtain ⟨Z, hZ⟩ := head_split hb
   have e1 : pathS (X ++ [a] ++ n :: []) = pathS (X ++ [a]) + areaF a n := by
    rw [List.append_assoc]
    have := path_app X [] a n
    simp only [List.cons_append, List.nil_append, pathS] at this ⊢
    omega
   have e3 : (X ++ [a] ++ n :: []).getLast? = some n := last_snoc (X ++ [a]) n
   have e5 : (X ++ [a] ++ ([] : List Pt)).getLast? = some a := by rw [List.append_nil]; exact last_snoc X a
   have e4 : (X ++ [a] ++ n :: []).head? = some b := by rw [hZ]; rfl
   have e6 : (X ++ [a] ++ ([] : List Pt)).head? = some b := by rw [hZ]; rfl
   rw [e1, e3, e4, e5, e6, List.append_nil]
   simp only
   omega
 ·obtain ⟨X, rfl⟩ := last_split ha
  rcases hb with hb | ⟨hb, _⟩
  ·obtain ⟨Y, hY⟩ := head_split hb
   have e1 : pathS ([] ++ n :: (X ++ [a])) = areaF n b + pathS (X ++ [a]) := by
    rw [hY]; rfl
   have e3 : ([] ++ n :: (X ++ [a])).getLast? = some a := last_snoc (n :: X) a
   have e5 : ([] ++ (X ++ [a])).getLast? = some a := last_snoc X a
   have e4 : ([] ++ n :: (X ++ [a])).head? = some n := rfl
   have e6 : ([] ++ (X ++ [a])).head? = some b := by rw [hY]; rfl
   rw [e1, e3, e4, e5, e6]
   simp only [List.nil_append]
   omega
  ·simp at hb
theorem StepD.ring {l : List ObjD} {n : ByteArray} {p : KeyD} (h : StepD l n p) (hz : crs (ptO l p.1) (ptO l p.2) (ptO l n) = 0) {o : ObjD} (ho : o ∈ l) : cycS ((lessR n o.refs).map (ptO l)) = cycS (o.refs.map (ptO l)) := by
 by_cases hr : n ∈ o.refs
 ·obtain ⟨A, B, a, b, hs, hA, hB, hp, hne, ha, hb⟩ := nbr_ends (map_obj h.ok ho) hr (h.nbr o ho hr)
  have hlok := less_ok (map_obj h.ok ho) hr (h.nbr o ho hr)
  have hR : (lessO n o).refs = A ++ B := by show lessR n o.refs = _; rw [hs, less_split hA hB]
  have hkind := h.kind ho hr
  have hl : 2 ≤ A.length + B.length := by
   simp only [objOK, Bool.and_eq_true, decide_eq_true_eq] at hlok
   have h4 : leastK o.kind ≤ (lessO n o).refs.length := hlok.1.1.1.2
   rw [hR, List.length_append] at h4
   rcases hkind with hk | hk
   ·rw [hk] at h4; unfold leastK at h4; simp at h4; omega
   ·rw [hk] at h4; unfold leastK at h4; simp at h4; omega
  have hcr : crs (ptO l a) (ptO l b) (ptO l n) = 0 := by
   rw [hp] at hz
   rcases key2_or a b with e | e <;> rw [e] at hz
   ·exact hz
   ·have := crs_swap (ptO l a) (ptO l b) (ptO l n)
    simp only at hz
    omega
  have e : lessR n o.refs = A ++ B := hR
  rw [e, hs, List.map_append, List.map_append, List.map_cons]
  refine (cyc_less (area_tri hcr) ?_ ?_ (by rw [List.length_map, List.length_map]; exact hl)).symm
  ·rcases ha with ha | ⟨rfl, _, ha⟩
   ·left; rw [List.getLast?_map, ha]; rfl
   ·right; refine ⟨rfl, ?_⟩; rw [List.getLast?_map, ha]; rfl
  ·rcases hb with hb | ⟨rfl, _, hb⟩
   ·left; rw [List.head?_map, hb]; rfl
   ·right; refine ⟨rfl, ?_⟩; rw [List.head?_map, hb]; rfl
 ·rw [less_self hr]
structure FlatM (m l' : List ObjD) (D : List ByteArray) : Prop where
 gone : GoneM m D
 eq : l' = dropsP m D
 on : ∀ d ∈ D, ∃ k ∈ keysP l', onR (segB l' k) (ptO m d) = true
 ring : ∀ o ∈ m, cycS ((o.refs.filter fun r => decide (r ∉ D)).map (ptO m)) = cycS (o.refs.map (ptO m))
end Go.Proofs.YtibpaaajghbkoaaGreat

namespace Go.Proofs.YtibpaaajghbkoaaGreat
theorem drops_len {m : List ObjD} (D : List ByteArray) : (dropsP m D).length + ((m.filter fun o => decide (o.id ∈ D)).map (·.id)).length = m.length := by
 unfold dropsP
 rw [List.length_map, List.length_map]
 induction m with
 |nil => rfl
 |cons o m ih =>
  rw [List.filter_cons, List.filter_cons]
  by_cases h : o.id ∈ D
  ·simp only [h, not_true_eq_false, decide_false, decide_true, if_true, Bool.false_eq_true, if_false, List.length_cons]
   omega
  ·simp only [h, not_false_eq_true, decide_true, decide_false, if_true, Bool.false_eq_true, if_false, List.length_cons]
   omega
theorem gone_turn {m : List ObjD} {D : List ByteArray} (h : GoneM m D) {y : ObjD} (hy : y ∈ m) (hk : y.kind = 5) {r : ByteArray} (hr : r ∈ y.refs) : r ∉ D := fun hd => by
 have := ((h.gone r hd).2.2 y hy hr).1
 omega
theorem gone_way {m : List ObjD} {D : List ByteArray} (h : GoneM m D) {y : ObjD} (hy : y ∈ m) (hk : y.kind = 2) : (∀ r, y.refs.head? = some r → r ∉ D) ∧ ∀ r, y.refs.getLast? = some r → r ∉ D := by
 constructor
 ·intro r hr hd
  exact (((h.gone r hd).2.2 y hy (List.mem_of_head? hr)).2 hk).1 hr
 ·intro r hr hd
  exact (((h.gone r hd).2.2 y hy (List.mem_of_getLast? hr)).2 hk).2 hr
theorem gone_refers {m : List ObjD} {D : List ByteArray} (h : GoneM m D) {d : ByteArray} (hd : d ∈ D) : (refersP m d).map (·.id) ≠ [] := by
 obtain ⟨y, hy, hr⟩ := (h.gone d hd).2.1
 intro c
 have : y ∈ refersP m d := by unfold refersP; exact List.mem_filter.2 ⟨hy, decide_eq_true hr⟩
 rw [List.map_eq_nil_iff] at c
 rw [c] at this; cases this
end Go.Proofs.YtibpaaajghbkoaaGreat
