/-       -/
import Derived.Test.YtibpaaajghbkoaaGreatUAj
import Derived.Test.YtibpaaajghbkoaaGreatUAf
import Derived.MapFrom
namespace Go.Proofs.YtibpaaajghbkoaaGreat
theorem new_end {a b c q : Pt} (hab : a ≠ b) (na : nearQ a = true) (nb : nearQ b = true) (nc : nearQ c = true) (nq : nearQ q = true) (hc : (c = a ∧ onR (c, q) b = false) ∨ (c = b ∧ onR (c, q) a = false)) (hq : onR (a, b) q = false) : meetsR (a, b) (c, q) = 1 := by
 have hs : nearS (a, b) = true := by unfold nearS; simp [na, nb]
 have ht : nearS (c, q) = true := by unfold nearS; simp [nc, nq]
 have hca : onR (a, b) c = true := by
  rcases hc with ⟨rfl, _⟩ | ⟨rfl, _⟩
  ·exact (onR_ends (_, b)).1
  ·exact (onR_ends (a, _)).2
 have hmem : c ∈ commonR (a, b) (c, q) := mem_common.2 ⟨Or.inr (Or.inr (Or.inl rfl)), hca, (onR_ends (c, q)).1⟩
 have one : ∀ x ∈ commonR (a, b) (c, q), x = c := fun x hx => by
  obtain ⟨h1, h2, h3⟩ := mem_common.1 hx
  rcases h1 with rfl | rfl | rfl | rfl
  ·rcases hc with ⟨rfl, _⟩ | ⟨rfl, h⟩
   ·rfl
   ·rw [h] at h3; cases h3
  ·rcases hc with ⟨rfl, h⟩ | ⟨rfl, _⟩
   ·rw [h] at h3; cases h3
   ·rfl
  ·rfl
  ·rw [hq] at h2; cases h2
 have hne : ¬ ((a, b) = (c, q) ∨ (a = q ∧ b = c)) := by
  rintro (e | ⟨e, _⟩)
  ·injection e with _ e
   rw [← e, (onR_ends (a, b)).2] at hq; cases hq
  ·rw [← e, (onR_ends (a, b)).1] at hq; cases hq
 unfold meetsR
 rw [hs, ht]
 simp only [Bool.and_self, Bool.not_true, Bool.false_eq_true, if_false]
 rw [if_neg hne, common_one hmem one]
 simp only [pickR, endR]
 have e1 : decide (c = a ∨ c = b) = true := decide_eq_true (hc.imp (·.1) (·.1))
 rw [e1]
 simp
structure StepD (l : List ObjD) (n : ByteArray) (p : KeyD) : Prop where
 ok : mapOK l = true
 none : checkP l = []
 fit : ∀ o ∈ l, fitO l o = true
 node : NodeL l n
 drop : GoneM l [n]
 eq : dropP l n = dropsP l [n]
 refs : ∃ o ∈ l, n ∈ o.refs
 nbr : ∀ o ∈ l, n ∈ o.refs → nbrO o n = some p
 free : ∀ r ∈ brefP l, r ≠ n → r ≠ p.1 → r ≠ p.2 → hasT (ptO l n) (ptO l p.1) (ptO l p.2) (ptO l r) = false
theorem at_node {l : List ObjD} {r : ByteArray} {x : ObjD} (hx : atO l r = some x) : x ∈ l ∧ x.id = r := by
 unfold atO at hx
 cases hp : posO r l with
 |none => rw [hp] at hx; cases hx
 |some i =>
  rw [hp] at hx
  obtain ⟨o, ho, e⟩ := posO_some r l i hp
  have : l[i]? = some x := hx
  rw [ho] at this
  injection this with this
  subst this
  exact ⟨List.mem_of_getElem? ho, e⟩
theorem fit_sound {l : List ObjD} (h : mapOK l = true) {o : ObjD} (hf : fitO l o = true) (hk : o.kind = 2 ∨ o.kind = 3) : isB l o = true := by
 unfold isB
 rw [Bool.and_eq_true, decide_eq_true_eq]
 refine ⟨hk, ?_⟩
 unfold soundB
 rw [List.all_eq_true]
 intro r hr
 obtain ⟨i, hi⟩ := List.getElem?_of_mem hr
 have hl := (List.getElem?_eq_some_iff.1 hi).1
 unfold fitO at hf
 have := List.all_eq_true.1 hf i (List.mem_range.2 hl)
 rw [ref_some hi] at this
 cases hx : atO l r with
 |none => rw [hx] at this; cases this
 |some x =>
  rw [hx] at this
  have hk1 : x.kind = wantK o i := of_decide_eq_true this
  have hw : wantK o i = 1 := by unfold wantK; rw [if_neg (by omega)]
  obtain ⟨hm, e⟩ := at_node hx
  rw [(nodeAt_iff h (q := (x.x, x.y))).2 ⟨x, hm, e, by rw [hk1, hw], rfl⟩]; rfl
theorem step_data {l : List ObjD} {tol : Int} {n : ByteArray} (h : mapOK l = true) (h0 : checkP l = []) (hf : ∀ o ∈ l, fitO l o = true) (hs : stepP l tol = some n) : ∃ p, StepD l n p ∧ sizeT (ptO l n) (ptO l p.1) (ptO l p.2) ≤ tol := by
 obtain ⟨o, ho, rfl, hk, ht, p, hn, hsz, hfr⟩ := step_spec hs
 obtain ⟨hr, hall⟩ := neigh_spec hn
 have hg := gone_step (D := []) (m := l) (gone_nil h) (by rw [drops_nil]; exact hs)
 rw [drops_nil] at hg
 refine ⟨p, ⟨h, h0, hf, step_node h hs, hg.1, hg.2, hr, hall, fun r hr' h1 h2 h3 => ?_⟩, hsz⟩
 unfold freeC at hfr
 have := List.all_eq_true.1 hfr r hr'
 simp only [Bool.or_eq_true, decide_eq_true_eq, Bool.not_eq_true'] at this
 rcases this with (c | c | c) | c
 ·exact absurd c h1
 ·exact absurd c h2
 ·exact absurd c h3
 ·exact c
section
variable {l : List ObjD} {n : ByteArray} {p : KeyD}
theorem StepD.kind (h : StepD l n p) {o : ObjD} (ho : o ∈ l) (hr : n ∈ o.refs) : o.kind = 2 ∨ o.kind = 3 := (nbr_parts (map_obj h.ok ho) hr (h.nbr o ho hr)).1
theorem StepD.two (h : StepD l n p) : key2 p.1 n ∈ keysP l ∧ key2 n p.2 ∈ keysP l ∧ p.1 ≠ p.2 ∧ p.1 ≠ n ∧ p.2 ≠ n ∧ OrdP p := by
 obtain ⟨o, ho, hr⟩ := h.refs
 obtain ⟨-, h1, h2, -, h3, h4, h5, -, -, a, b, e⟩ := sides_less (map_obj h.ok ho) hr (h.nbr o ho hr)
 have hb := fit_sound h.ok (h.fit o ho) (h.kind ho hr)
 exact ⟨keysP_mem.2 ⟨o, ho, hb, h1⟩, keysP_mem.2 ⟨o, ho, hb, h2⟩, h3, h4, h5, by rw [e]; exact key2_ordP a b⟩
theorem StepD.less (h : StepD l n p) {x : ObjD} (hx : x ∈ dropP l n) : ∃ o ∈ l, o.id ≠ n ∧ x = lessO n o ∧ isB (dropP l n) x = isB l o := by
 obtain ⟨o, ho, hne, rfl⟩ := drop_mem.1 hx
 refine ⟨o, ho, hne, rfl, ?_⟩
 have := isb_left h.drop o
 rw [← h.eq] at this
 rw [← this]
 congr 1
 unfold lessO lessR
 congr 1
 refine List.filter_congr fun r _ => ?_
 simp
theorem StepD.keys (h : StepD l n p) {k : KeyD} (hk : k ∈ keysP (dropP l n)) : (k ∈ keysP l ∨ k = p) ∧ k.1 ≠ n ∧ k.2 ≠ n := by
 obtain ⟨x, hx, hb, hs⟩ := keysP_mem.1 hk
 obtain ⟨o, ho, hne, rfl, he⟩ := h.less hx
 rw [he] at hb
 have hin : ∀ r, r = k.1 ∨ r = k.2 → r ≠ n := fun r hr => (less_mem.1 (sides_refs hs hr)).2
 refine ⟨?_, hin _ (Or.inl rfl), hin _ (Or.inr rfl)⟩
 by_cases hr : n ∈ o.refs
 ·rcases (sides_less (map_obj h.ok ho) hr (h.nbr o ho hr)).1 k hs with c | c
  ·exact Or.inl (keysP_mem.2 ⟨o, ho, hb, c⟩)
  ·exact Or.inr c
 ·have e : lessO n o = o := by unfold lessO; rw [less_self hr]
  rw [e] at hs
  exact Or.inl (keysP_mem.2 ⟨o, ho, hb, hs⟩)
theorem StepD.pt (h : StepD l n p) {r : ByteArray} (hr : r ≠ n) : ptO (dropP l n) r = ptO l r := by
 unfold ptO
 rw [h.eq, node_left h.drop (by simpa using hr)]
theorem StepD.nodes (h : StepD l n p) : n ∈ nodesP l ∧ p.1 ∈ nodesP l ∧ p.2 ∈ nodesP l := by
 obtain ⟨k1, k2, -⟩ := h.two
 exact ⟨nodes_mem.2 ⟨_, k1, (key2_cases (a := p.1) (b := n)).2 (Or.inr rfl)⟩, nodes_mem.2 ⟨_, k1, key2_cases.2 (Or.inl rfl)⟩, nodes_mem.2 ⟨_, k2, key2_cases.2 (Or.inr rfl)⟩⟩
theorem bref_node {r : ByteArray} (h : r ∈ nodesP l) : r ∈ brefP l := by
 obtain ⟨k, hk, hr⟩ := nodes_mem.1 h
 obtain ⟨o, ho, hb, hs⟩ := keysP_mem.1 hk
 exact bref_mem.2 ⟨o, ho, isB_kind hb, sides_refs hs hr⟩
theorem StepD.cross (h : StepD l n p) {k : KeyD} (hk : k ∈ keysP l) (hk1 : k.1 ≠ n) (hk2 : k.2 ≠ n) (hne : k ≠ p) : crossB l p k = false := by
 obtain ⟨kan, knb, hab, han, hbn, hord⟩ := h.two
 obtain ⟨nn, na, nb⟩ := h.nodes
 obtain ⟨np, nq⟩ := keys_nodes hk
 have near := fun r => pt_near h.ok r
 have inj : ∀ {r s : ByteArray}, r ∈ nodesP l → s ∈ nodesP l → r ≠ s → ptO l r ≠ ptO l s := fun hr hs hrs e => hrs (none_nodes h.none hr hs e)
 have hpq : k.1 ≠ k.2 := keys_ne h.ok hk
 have key_ne : ∀ x, k ≠ key2 x n := fun x e => by
  rcases key2_or x n with c | c <;> rw [c] at e
  ·exact hk2 (by rw [e])
  ·exact hk1 (by rw [e])
 have key_ne' : ∀ x, k ≠ key2 n x := fun x => by rw [key2_comm]; exact key_ne x
 have m1 : (meetsR (ptO l p.1, ptO l n) (segB l k) = 0) ∨ (k.1 = p.1 ∨ k.2 = p.1) := by
  have hc := cross_false (none_cross h.none kan hk (fun e => key_ne _ e.symm))
  rw [meetsR_comm, seg_key2, meetsR_comm] at hc
  rcases hc with hc | ⟨_, hc⟩
  ·exact Or.inl hc
  ·right
   unfold comK at hc
   simp only [Bool.or_eq_true, decide_eq_true_eq] at hc
   rcases key2_or p.1 n with e | e <;> rw [e] at hc <;> simp only at hc
   ·rcases hc with (c | c) | (c | c)
    ·exact Or.inl c.symm
    ·exact Or.inr c.symm
    ·exact absurd c.symm hk1
    ·exact absurd c.symm hk2
   ·rcases hc with (c | c) | (c | c)
    ·exact absurd c.symm hk1
    ·exact absurd c.symm hk2
    ·exact Or.inl c.symm
    ·exact Or.inr c.symm
 have m2 : (meetsR (ptO l n, ptO l p.2) (segB l k) = 0) ∨ (k.1 = p.2 ∨ k.2 = p.2) := by
  have hc := cross_false (none_cross h.none knb hk (fun e => key_ne' _ e.symm))
  rw [meetsR_comm, seg_key2, meetsR_comm] at hc
  rcases hc with hc | ⟨_, hc⟩
  ·exact Or.inl hc
  ·right
   unfold comK at hc
   simp only [Bool.or_eq_true, decide_eq_true_eq] at hc
   rcases key2_or n p.2 with e | e <;> rw [e] at hc <;> simp only at hc
   ·rcases hc with (c | c) | (c | c)
    ·exact absurd c.symm hk1
    ·exact absurd c.symm hk2
    ·exact Or.inl c.symm
    ·exact Or.inr c.symm
   ·rcases hc with (c | c) | (c | c)
    ·exact Or.inl c.symm
    ·exact Or.inr c.symm
    ·exact absurd c.symm hk1
    ·exact absurd c.symm hk2
 have san : nearS (ptO l p.1, ptO l n) = true := by unfold nearS; simp [near]
 have snb : nearS (ptO l n, ptO l p.2) = true := by unfold nearS; simp [near]
 have m3 : meetsR (ptO l p.1, ptO l n) (ptO l n, ptO l p.2) = 1 := by
  have hkk : key2 p.1 n ≠ key2 n p.2 := fun e => by
   have h1 : p.1 = (key2 n p.2).1 ∨ p.1 = (key2 n p.2).2 := by rw [← e]; exact key2_cases.2 (Or.inl rfl)
   rcases key2_cases.1 h1 with c | c
   ·exact han c
   ·exact hab c
  have hc := cross_false (none_cross h.none kan knb hkk)
  rw [seg_key2, meetsR_comm, seg_key2, meetsR_comm] at hc
  rcases hc with hc | ⟨hc, _⟩
  ·exact absurd ⟨(onR_ends (ptO l p.1, ptO l n)).2, (onR_ends (ptO l n, ptO l p.2)).1⟩ (((meets_none san snb).1 hc).1 (ptO l n) (Or.inr (Or.inl rfl)))
  ·exact hc
 have free : ∀ r, r ∈ nodesP l → r ≠ n → r ≠ p.1 → r ≠ p.2 → hasT (ptO l n) (ptO l p.1) (ptO l p.2) (ptO l r) = false := fun r hr => h.free r (bref_node hr)
 have off : ∀ r, r ∈ nodesP l → r ≠ n → r ≠ p.1 → r ≠ p.2 → onR (ptO l p.1, ptO l p.2) (ptO l r) = false := fun r hr h1 h2 h3 => by
  rw [Bool.eq_false_iff]
  intro c
  have := on_in (near n) (near p.1) (near p.2) (near r) (inj na nb hab) c
  rw [free r hr h1 h2 h3] at this; cases this
 have endA : ∀ c q : ByteArray, q ∈ nodesP l → q ≠ n → q ≠ p.1 → q ≠ p.2 → ((c = p.1 ∧ meetsR (ptO l n, ptO l p.2) (ptO l c, ptO l q) = 0) ∨ (c = p.2 ∧ meetsR (ptO l p.1, ptO l n) (ptO l c, ptO l q) = 0)) → meetsR (ptO l p.1, ptO l p.2) (ptO l c, ptO l q) = 1 := fun c q hq q1 q2 q3 hc => by
  have scq : nearS (ptO l c, ptO l q) = true := by unfold nearS; simp [near]
  refine new_end (inj na nb hab) (near _) (near _) (near _) (near _) ?_ (off q hq q1 q2 q3)
  rcases hc with ⟨rfl, hm⟩ | ⟨rfl, hm⟩
  ·refine Or.inl ⟨rfl, ?_⟩
   rw [Bool.eq_false_iff]
   intro hc
   exact ((meets_none snb scq).1 hm).1 (ptO l p.2) (Or.inr (Or.inl rfl)) ⟨(onR_ends (ptO l n, ptO l p.2)).2, hc⟩
  ·refine Or.inr ⟨rfl, ?_⟩
   rw [Bool.eq_false_iff]
   intro hc
   exact ((meets_none san scq).1 hm).1 (ptO l p.1) (Or.inl rfl) ⟨(onR_ends (ptO l p.1, ptO l n)).1, hc⟩
 have sw : ∀ (s : Sg) (x y : ByteArray), meetsR s (ptO l x, ptO l y) = meetsR s (ptO l y, ptO l x) := fun s x y => (meetsR_swap2 s (ptO l y, ptO l x))
 have fin1 : meetsR (segB l p) (segB l k) = 1 → comK p k = true → crossB l p k = false := fun h1 h2 => by
  unfold crossB; rw [h1, h2]; rfl
 have com : ∀ x, (x = p.1 ∨ x = p.2) → (x = k.1 ∨ x = k.2) → comK p k = true := fun x h1 h2 => by
  unfold comK
  simp only [Bool.or_eq_true, decide_eq_true_eq]
  rcases h1 with rfl | rfl
  ·exact Or.inl h2
  ·exact Or.inr h2
 by_cases c1 : k.1 = p.1
 ·have d2 : k.2 ≠ p.2 := fun e => hne (Prod.ext c1 e)
  have d1 : k.2 ≠ p.1 := fun e => hpq (c1.trans e.symm)
  refine fin1 ?_ (com p.1 (Or.inl rfl) (Or.inl c1.symm))
  refine endA k.1 k.2 nq hk2 d1 d2 (Or.inl ⟨c1, ?_⟩)
  rcases m2 with m2 | c | c
  ·exact m2
  ·exact absurd (c1.symm.trans c) hab
  ·exact absurd c d2
 ·by_cases c2 : k.2 = p.1
  ·have hkp : k.1 ≠ p.2 := fun e => by
    have ho := keys_ord hk
    obtain ⟨a, b, e2⟩ := ho
    have h1 : key2 k.1 k.2 = k := key2_of (by rw [e2]; exact key2_ordP a b)
    have h2 : key2 p.1 p.2 = p := key2_of hord
    rw [e, c2, key2_comm, h2] at h1
    exact hne h1.symm
   refine fin1 ?_ (com p.1 (Or.inl rfl) (Or.inr c2.symm))
   show meetsR (ptO l p.1, ptO l p.2) (ptO l k.1, ptO l k.2) = 1
   rw [sw]
   refine endA k.2 k.1 np hk1 c1 hkp (Or.inl ⟨c2, ?_⟩)
   rcases m2 with m2 | c | c
   ·rw [sw]; exact m2
   ·exact absurd c hkp
   ·exact absurd (c2.symm.trans c) hab
  ·have n1 : meetsR (ptO l p.1, ptO l n) (segB l k) = 0 := m1.resolve_right (by rintro (c | c); exact c1 c; exact c2 c)
   by_cases c3 : k.1 = p.2
   ·have d2 : k.2 ≠ p.2 := fun e => hpq (c3.trans e.symm)
    refine fin1 ?_ (com p.2 (Or.inr rfl) (Or.inl c3.symm))
    exact endA k.1 k.2 nq hk2 c2 d2 (Or.inr ⟨c3, n1⟩)
   ·by_cases c4 : k.2 = p.2
    ·refine fin1 ?_ (com p.2 (Or.inr rfl) (Or.inr c4.symm))
     show meetsR (ptO l p.1, ptO l p.2) (ptO l k.1, ptO l k.2) = 1
     rw [sw]
     refine endA k.2 k.1 np hk1 c1 c3 (Or.inr ⟨c4, ?_⟩)
     rw [sw]; exact n1
    ·have n2 : meetsR (ptO l n, ptO l p.2) (segB l k) = 0 := m2.resolve_right (by rintro (c | c); exact c3 c; exact c4 c)
     have := new_none (near p.1) (near p.2) (near n) (near k.1) (near k.2) (inj na nb hab) (inj na nn han) (inj nb nn hbn) n1 n2 m3 (free k.1 np hk1 c1 c3) (free k.2 nq hk2 c2 c4)
     unfold crossB
     rw [show meetsR (segB l p) (segB l k) = 0 from this]
     rfl
theorem StepD.check (h : StepD l n p) : checkP (dropP l n) = [] := by
 refine List.eq_nil_iff_forall_not_mem.2 fun key hkey => ?_
 obtain ⟨-, -, hab, han, hbn, -⟩ := h.two
 have pn : ∀ x ∈ nodesP (dropP l n), x ∈ nodesP l ∧ x ≠ n := fun x hx => by
  obtain ⟨k, hk, hxk⟩ := nodes_mem.1 hx
  obtain ⟨h1, h2, h3⟩ := h.keys hk
  refine ⟨?_, ?_⟩
  ·rcases h1 with h1 | rfl
   ·exact nodes_mem.2 ⟨k, h1, hxk⟩
   ·rcases hxk with rfl | rfl
    ·exact h.nodes.2.1
    ·exact h.nodes.2.2
  ·rcases hxk with rfl | rfl
   ·exact h2
   ·exact h3
 have hcr : ∀ k1 k2 : KeyD, k1 ∈ keysP (dropP l n) → k2 ∈ keysP (dropP l n) → crossB (dropP l n) k1 k2 = crossB l k1 k2 := fun k1 k2 h1 h2 => by
  obtain ⟨-, a1, a2⟩ := h.keys h1
  obtain ⟨-, b1, b2⟩ := h.keys h2
  unfold crossB segB
  rw [h.pt a1, h.pt a2, h.pt b1, h.pt b2]
 rcases bad_mem.1 (checkP_mem.1 hkey) with ⟨a, ha, b, hb, hne, hpt, -⟩ | ⟨q1, hq1, q2, hq2, hne, hc, -⟩
 ·obtain ⟨a1, a2⟩ := pn a ha
  obtain ⟨b1, b2⟩ := pn b hb
  rw [h.pt a2, h.pt b2] at hpt
  exact hne (none_nodes h.none a1 b1 hpt)
 ·have k1 := (borders_mem.1 hq1).1
  have k2 := (borders_mem.1 hq2).1
  rw [hcr _ _ k1 k2] at hc
  obtain ⟨o1, a1, a2⟩ := h.keys k1
  obtain ⟨o2, b1, b2⟩ := h.keys k2
  by_cases e1 : q1.1 = p
  ·have e2 : q2.1 ≠ p := fun e => hne (e1.trans e.symm)
   have := h.cross (o2.resolve_right e2) b1 b2 e2
   rw [e1, this] at hc; cases hc
  ·by_cases e2 : q2.1 = p
   ·have := h.cross (o1.resolve_right e1) a1 a2 e1
    rw [e2, crossB_symm, this] at hc; cases hc
   ·rw [none_cross h.none (o1.resolve_right e1) (o2.resolve_right e2) hne] at hc; cases hc
end
end Go.Proofs.YtibpaaajghbkoaaGreat

namespace Go.Proofs.YtibpaaajghbkoaaGreat
theorem fit_parts {l : List ObjD} : fitP l = true ↔ mapOK l = true ∧ checkP l = [] ∧ ∀ o ∈ l, fitO l o = true := by
 unfold fitP
 rw [Bool.and_eq_true, Bool.and_eq_true, List.isEmpty_iff, List.all_eq_true, and_assoc]
theorem at_some {l : List ObjD} (h : mapOK l = true) {x : ObjD} (hx : x ∈ l) : atO l x.id = some x := by
 obtain ⟨i, hi⟩ := List.getElem?_of_mem hx
 unfold atO
 rw [pos_self h hi]
 exact hi
theorem fit_iff {l : List ObjD} {o : ObjD} : fitO l o = true ↔ ∀ (i : Nat) (r : ByteArray), o.refs[i]? = some r → ∃ x, atO l r = some x ∧ x.kind = wantK o i := by
 unfold fitO
 rw [List.all_eq_true]
 constructor
 ·intro h i r hr
  have := h i (List.mem_range.2 (List.getElem?_eq_some_iff.1 hr).1)
  rw [ref_some hr] at this
  cases hx : atO l r with
  |none => rw [hx] at this; cases this
  |some x => rw [hx] at this; exact ⟨x, rfl, of_decide_eq_true this⟩
 ·intro h i hi
  have hr := refAt_eq (List.mem_range.1 hi)
  obtain ⟨x, hx, hk⟩ := h i _ hr
  rw [hx]; exact decide_eq_true hk
theorem StepD.fits {l : List ObjD} {n : ByteArray} {p : KeyD} (h : StepD l n p) : fitP (dropP l n) = true := by
 have hok : mapOK (dropP l n) = true := by rw [h.eq]; exact h.drop.ok
 refine fit_parts.2 ⟨hok, h.check, fun x hx => ?_⟩
 obtain ⟨o, ho, hne, rfl, -⟩ := h.less hx
 have hf := fit_iff.1 (h.fit o ho)
 refine fit_iff.2 fun i r hr => ?_
 have hrn : r ∈ o.refs ∧ r ≠ n := less_mem.1 (List.mem_of_getElem? hr)
 have key : ∃ j, o.refs[j]? = some r ∧ wantK o j = wantK (lessO n o) i := by
  by_cases hm : n ∈ o.refs
  ·obtain ⟨j, hj⟩ := List.getElem?_of_mem hrn.1
   have hk := h.kind ho hm
   have hw : ∀ (y : ObjD) (m : Nat), y.kind = 2 ∨ y.kind = 3 → wantK y m = 1 := fun y m hy => by unfold wantK; rw [if_neg (by omega)]
   exact ⟨j, hj, by rw [hw o j hk, hw (lessO n o) i hk]⟩
  ·have e : lessO n o = o := by unfold lessO; rw [less_self hm]
   rw [e] at hr ⊢
   exact ⟨i, hr, rfl⟩
 obtain ⟨j, hj, hw⟩ := key
 obtain ⟨y, hy, hyk⟩ := hf j r hj
 obtain ⟨hym, e⟩ := at_node hy
 subst e
 have hyx : lessO n y ∈ dropP l n := drop_mem.2 ⟨y, hym, hrn.2, rfl⟩
 exact ⟨lessO n y, at_some hok hyx, by rw [← hw]; exact hyk⟩
theorem fit_step {l : List ObjD} {tol : Int} {n : ByteArray} (h : fitP l = true) (hs : stepP l tol = some n) : fitP (dropP l n) = true := by
 obtain ⟨h1, h2, h3⟩ := fit_parts.1 h
 obtain ⟨p, hp, -⟩ := step_data h1 h2 h3 hs
 exact hp.fits
theorem all_induct {P : List ObjD → Prop} {tol : Int} (hP : ∀ l n, fitP l = true → stepP l tol = some n → P l → P (dropP l n)) : ∀ (k : Nat) (l : List ObjD), l.length ≤ k → fitP l = true → P l → fitP (allP l tol) = true ∧ P (allP l tol)
 |0, l, hk, hf, hp => by
  have e : l = [] := List.eq_nil_of_length_eq_zero (by omega)
  subst e
  exact ⟨hf, hp⟩
 |k + 1, l, hk, hf, hp => by
  cases hs : stepP l tol with
  |none => rw [all_none hs]; exact ⟨hf, hp⟩
  |some n =>
   obtain ⟨o, ho, e, -⟩ := step_spec hs
   have := drop_len ⟨o, ho, e⟩
   rw [all_some hs]
   exact all_induct hP k _ (by omega) (fit_step hf hs) (hP l n hf hs hp)
theorem sim_all {l : List ObjD} {tol : Int} (h : fitP l = true) (ht : 0 ≤ tol) : simP l tol = allP l tol := by unfold simP; rw [if_pos ⟨h, ht⟩]; rfl
theorem sim_not {l : List ObjD} {tol : Int} (h : fitP l = false) : simP l tol = l := by unfold simP; rw [if_neg (by rw [h]; simp)]
end Go.Proofs.YtibpaaajghbkoaaGreat

namespace Go.Proofs.YtibpaaajghbkoaaGreat
theorem on_between {a b n : Pt} (na : nearQ a = true) (nb : nearQ b = true) (nn : nearQ n = true) (han : a ≠ n) (hbn : b ≠ n) (h3 : meetsR (a, n) (n, b) = 1) (hd : crs a b n = 0) : onR (a, b) n = true := by
 have san : nearS (a, n) = true := by unfold nearS; simp [na, nn]
 have snb : nearS (n, b) = true := by unfold nearS; simp [nn, nb]
 obtain ⟨f1, f2⟩ := meets_end san snb h3 han hbn
 have hz : crs n b a = 0 ∧ crs a n b = 0 := by have := crs_odd a b n; rw [hd] at this; exact this
 have hk1 := on_key (p := a) nn nb na
 have hk2 := on_key (p := b) na nn nb
 rw [f1] at hk1
 rw [f2] at hk2
 rw [hz.1] at hk1
 rw [hz.2] at hk2
 exact (on_key na nb nn).2 ⟨hd, by simp at hk1 hk2; omega⟩
theorem on_part {a b n x : Pt} (na : nearQ a = true) (nb : nearQ b = true) (nn : nearQ n = true) (nx : nearQ x = true) (han : a ≠ n) (h : onR (a, b) n = true) (hx : onR (a, n) x = true) : onR (a, b) x = true := by
 obtain ⟨c1, b1⟩ := (on_key na nb nn).1 h
 obtain ⟨c2, b2⟩ := (on_key na nn nx).1 hx
 have h0 : crs a n b = 0 := by rw [(crs_odd a b n).2, c1]; rfl
 have := (crs_line han h0 c2).2
 rw [crs_swap a b x] at this
 exact (on_key na nb nx).2 ⟨by omega, by omega⟩
section
variable {l : List ObjD} {n : ByteArray} {p : KeyD}
theorem StepD.meet3 (h : StepD l n p) : meetsR (ptO l p.1, ptO l n) (ptO l n, ptO l p.2) = 1 := by
 obtain ⟨kan, knb, hab, han, hbn, hord⟩ := h.two
 have near := fun r => pt_near h.ok r
 have san : nearS (ptO l p.1, ptO l n) = true := by unfold nearS; simp [near]
 have snb : nearS (ptO l n, ptO l p.2) = true := by unfold nearS; simp [near]
 have hkk : key2 p.1 n ≠ key2 n p.2 := fun e => by
  have h1 : p.1 = (key2 n p.2).1 ∨ p.1 = (key2 n p.2).2 := by rw [← e]; exact key2_cases.2 (Or.inl rfl)
  rcases key2_cases.1 h1 with c | c
  ·exact han c
  ·exact hab c
 have hc := cross_false (none_cross h.none kan knb hkk)
 rw [seg_key2, meetsR_comm, seg_key2, meetsR_comm] at hc
 rcases hc with hc | ⟨hc, _⟩
 ·exact absurd ⟨(onR_ends (ptO l p.1, ptO l n)).2, (onR_ends (ptO l n, ptO l p.2)).1⟩ (((meets_none san snb).1 hc).1 (ptO l n) (Or.inr (Or.inl rfl)))
 ·exact hc
theorem StepD.new (h : StepD l n p) : p ∈ keysP (dropP l n) := by
 obtain ⟨o, ho, hr⟩ := h.refs
 obtain ⟨-, -, -, h1, -⟩ := sides_less (map_obj h.ok ho) hr (h.nbr o ho hr)
 have hne : o.id ≠ n := fun e => by
  rw [(h.node o ho e).2] at hr; cases hr
 have hx : lessO n o ∈ dropP l n := drop_mem.2 ⟨o, ho, hne, rfl⟩
 have hb := fit_sound h.ok (h.fit o ho) (h.kind ho hr)
 refine keysP_mem.2 ⟨_, hx, ?_, h1⟩
 have := isb_left h.drop o
 rw [← h.eq] at this
 rw [← hb, ← this]
 congr 1
 unfold lessO lessR
 congr 1
 refine List.filter_congr fun r _ => ?_
 simp
theorem side_at {o : ObjD} (hok : objOK o = true) (hid : n ∈ o.refs) (hn : nbrO o n = some p) {k : KeyD} (hs : k ∈ sidesP o) (hk : k.1 = n ∨ k.2 = n) : k = key2 p.1 n ∨ k = key2 n p.2 := by
 have hkind := (nbr_parts hok hid hn).1
 obtain ⟨A, B, a, b, hsp, hA, hB, rfl, hne, ha, hb⟩ := nbr_ends hok hid hn
 have l1 : 2 ≤ o.refs.length := by
  simp only [objOK, Bool.and_eq_true, decide_eq_true_eq] at hok
  have h4 := hok.1.1.1.2
  rcases hkind with hk | hk
  ·rw [hk] at h4; unfold leastK at h4; simp at h4; omega
  ·rw [hk] at h4; unfold leastK at h4; simp at h4; omega
 have goal : k = key2 a n ∨ k = key2 n b → k = key2 (key2 a b).1 n ∨ k = key2 n (key2 a b).2 := fun h => by
  rcases key2_or a b with e | e <;> rw [e] <;> simp only
  ·exact h
  ·rcases h with h | h
   ·right; rw [h, key2_comm]
   ·left; rw [h, key2_comm]
 refine goal ?_
 have hcount : ∀ C D : List ByteArray, C ++ n :: D = A ++ n :: B → C = A ∧ D = B := fun C D e => by
  rcases List.append_eq_append_iff.1 e with ⟨E, e1, e2⟩ | ⟨E, e1, e2⟩
  ·cases E with
   |nil => simp at e1 e2; exact ⟨e1.symm, e2⟩
   |cons x E =>
    have : n = x := (List.cons.inj (show n :: D = x :: (E ++ n :: B) from e2)).1
    exact absurd (by rw [e1, this]; simp) hA
  ·cases E with
   |nil => simp at e1 e2; exact ⟨e1, e2.symm⟩
   |cons x E =>
    have h1 := List.cons.inj (show n :: B = x :: (E ++ n :: D) from e2)
    exact absurd (by rw [h1.2]; simp) hB
 rw [sides_adj hkind l1] at hs
 rcases hs with ⟨C, D, u, v, e, rfl⟩ | ⟨hk3, u, v, e1, e2, rfl⟩
 ·have huv : u = n ∨ v = n := by
   rcases hk with hk | hk
   ·have := key2_cases.1 (Or.inl hk.symm : n = (key2 u v).1 ∨ n = (key2 u v).2)
    exact this.imp Eq.symm Eq.symm
   ·have := key2_cases.1 (Or.inr hk.symm : n = (key2 u v).1 ∨ n = (key2 u v).2)
    exact this.imp Eq.symm Eq.symm
  rcases huv with rfl | rfl
  ·obtain ⟨rfl, rfl⟩ := hcount C (v :: D) (e.symm.trans hsp)
   right
   rcases hb with hb | ⟨hb, _⟩
   ·have : v = b := by simpa using hb
    rw [this]
   ·cases hb
  ·obtain ⟨e3, rfl⟩ := hcount (C ++ [u]) D (by rw [List.append_assoc]; exact e.symm.trans hsp)
   left
   rcases ha with ha | ⟨ha, _⟩
   ·rw [← e3, last_snoc] at ha
    injection ha with ha
    rw [ha]
   ·rw [← e3] at ha; simp at ha
 ·have huv : u = n ∨ v = n := by
   rcases hk with hk | hk
   ·have := key2_cases.1 (Or.inl hk.symm : n = (key2 u v).1 ∨ n = (key2 u v).2)
    exact this.imp Eq.symm Eq.symm
   ·have := key2_cases.1 (Or.inr hk.symm : n = (key2 u v).1 ∨ n = (key2 u v).2)
    exact this.imp Eq.symm Eq.symm
  rcases huv with rfl | rfl
  ·
   obtain ⟨C, e⟩ := last_split e1
   obtain ⟨rfl, e4⟩ := hcount C [] (e.symm.trans hsp)
   subst e4
   right
   rcases hb with hb | ⟨_, _, hb⟩
   ·cases hb
   ·rw [hsp] at e2
    cases C with
    |nil => cases hb
    |cons x C =>
     injection hb with hb
     injection e2 with e2
     rw [← e2, hb]
  ·
   obtain ⟨D, e⟩ := head_split e2
   obtain ⟨e4, rfl⟩ := hcount [] D (e.symm.trans hsp)
   subst e4
   left
   rcases ha with ha | ⟨_, _, ha⟩
   ·cases ha
   ·obtain ⟨D', rfl⟩ := last_split ha
    rw [hsp] at e1
    have e5 : (([] : List ByteArray) ++ v :: (D' ++ [a])).getLast? = some a := last_snoc (v :: D') a
    rw [e5] at e1
    injection e1 with e1
    rw [e1]
theorem StepD.still (h : StepD l n p) (hz : crs (ptO l p.1) (ptO l p.2) (ptO l n) = 0) {x : Pt} (nx : nearQ x = true) {k : KeyD} (hk : k ∈ keysP l) (hx : onR (segB l k) x = true) : ∃ k' ∈ keysP (dropP l n), onR (segB (dropP l n) k') x = true := by
 obtain ⟨kan, knb, hab, han, hbn, hord⟩ := h.two
 obtain ⟨nn, na, nb⟩ := h.nodes
 have near := fun r => pt_near h.ok r
 have inj : ∀ {r s : ByteArray}, r ∈ nodesP l → s ∈ nodesP l → r ≠ s → ptO l r ≠ ptO l s := fun hr hs hrs e => hrs (none_nodes h.none hr hs e)
 have hbt := on_between (near p.1) (near p.2) (near n) (inj na nn han) (inj nb nn hbn) h.meet3 hz
 have hseg : segB (dropP l n) p = (ptO l p.1, ptO l p.2) := by unfold segB; rw [h.pt han, h.pt hbn]
 obtain ⟨o, ho, hb, hs⟩ := keysP_mem.1 hk
 by_cases hn : k.1 = n ∨ k.2 = n
 ·have hr : n ∈ o.refs := by
   rcases hn with e | e
   ·exact e ▸ sides_refs hs (Or.inl rfl)
   ·exact e ▸ sides_refs hs (Or.inr rfl)
  refine ⟨p, h.new, ?_⟩
  rw [hseg]
  rcases side_at (map_obj h.ok ho) hr (h.nbr o ho hr) hs hn with e | e
  ·have hx' : onR (ptO l p.1, ptO l n) x = true := by
    rw [e] at hx
    rcases key2_or p.1 n with e2 | e2 <;> rw [e2] at hx
    ·exact hx
    ·rw [← onR_swap]; exact hx
   exact on_part (near p.1) (near p.2) (near n) nx (inj na nn han) hbt hx'
  ·have hx' : onR (ptO l p.2, ptO l n) x = true := by
    rw [e] at hx
    rcases key2_or n p.2 with e2 | e2 <;> rw [e2] at hx
    ·rw [← onR_swap]; exact hx
    ·exact hx
   rw [← onR_swap]
   exact on_part (near p.2) (near p.1) (near n) nx (inj nb nn hbn) (by rw [← onR_swap]; exact hbt) hx'
 ·have h1 : k.1 ≠ n := fun e => hn (Or.inl e)
  have h2 : k.2 ≠ n := fun e => hn (Or.inr e)
  have hne : o.id ≠ n := fun e => by
   have hr := sides_refs hs (Or.inl rfl)
   rw [(h.node o ho e).2] at hr; cases hr
  refine ⟨k, ?_, by unfold segB at hx ⊢; rw [h.pt h1, h.pt h2]; exact hx⟩
  have hy : ({ o with refs := o.refs.filter fun r => decide (r ∉ [n]) } : ObjD) ∈ dropP l n := by rw [h.eq]; exact mem_drops.2 ⟨o, ho, by simpa using hne, rfl⟩
  refine keysP_mem.2 ⟨_, hy, ?_, sides_left hs (by simpa using h1) (by simpa using h2)⟩
  have := isb_left h.drop o
  rw [← h.eq] at this
  rw [this]; exact hb
end
end Go.Proofs.YtibpaaajghbkoaaGreat

namespace Go.Proofs.YtibpaaajghbkoaaGreat
def areaF (a b : Pt) : Int := (a.1 + b.1) * (b.2 - a.2)
def pathS : List Pt → Int
 |[] => 0
 |[_] => 0
 |a :: b :: r => areaF a b + pathS (b :: r)
def cycS (r : List Pt) : Int := pathS r + (match r.getLast?, r.head? with
 |some a, some b => areaF a b
 |_, _ => 0)
theorem path_app : ∀ (X Y : List Pt) (a b : Pt), pathS (X ++ a :: b :: Y) = pathS (X ++ [a]) + areaF a b + pathS (b :: Y)
 |[], Y, a, b => by simp [pathS]
 |[x], Y, a, b => by simp [pathS]; omega
 |x :: y :: X, Y, a, b => by
  have := path_app (y :: X) Y a b
  simp only [List.cons_append, pathS] at this ⊢
  omega
theorem area_tri {a b n : Pt} (h : crs a b n = 0) : areaF a n + areaF n b = areaF a b := by
 unfold areaF crs at *
 grind
theorem cyc_less {PA PB : List Pt} {a b n : Pt} (ht : areaF a n + areaF n b = areaF a b) (ha : PA.getLast? = some a ∨ (PA = [] ∧ PB.getLast? = some a)) (hb : PB.head? = some b ∨ (PB = [] ∧ PA.head? = some b)) (hl : 2 ≤ PA.length + PB.length) : cycS (PA ++ n :: PB) = cycS (PA ++ PB) := by
 unfold cycS
 rcases ha with ha | ⟨rfl, ha⟩
 ·obtain ⟨X, rfl⟩ := last_split ha
  rcases hb with hb | ⟨rfl, hb⟩
  ·obtain ⟨Y, rfl⟩ := head_split hb
   have e1 : pathS (X ++ [a] ++ n :: b :: Y) = pathS (X ++ [a]) + areaF a n + (areaF n b + pathS (b :: Y)) := by
    rw [List.append_assoc]
    have := path_app X (b :: Y) a n
    simp only [List.cons_append, List.nil_append, pathS] at this ⊢
    exact this
   have e2 : pathS (X ++ [a] ++ b :: Y) = pathS (X ++ [a]) + areaF a b + pathS (b :: Y) := by
    rw [List.append_assoc]
    exact path_app X Y a b
   have e3 : (X ++ [a] ++ n :: b :: Y).getLast? = (X ++ [a] ++ b :: Y).getLast? := by
    rw [List.getLast?_append (l := X ++ [a]) (l' := n :: b :: Y), List.getLast?_append (l := X ++ [a]) (l' := b :: Y), List.getLast?_cons_cons]
   have e4 : (X ++ [a] ++ n :: b :: Y).head? = (X ++ [a] ++ b :: Y).head? := by cases X <;> rfl
   rw [e1, e2, e3, e4]
   omega
  ·obtain ⟨Z, hZ⟩ := head_split hb
   have e1 : pathS (X ++ [a] ++ n :: []) = pathS (X ++ [a]) + areaF a n := by
    rw [List.append_assoc]
    have := path_app X [] a n
    simp only [List.cons_append, List.nil_append, pathS] at this ⊢
    omega
   have e3 : (X ++ [a] ++ n :: []).getLast? = some n := last_snoc (X ++ [a]) n
   have e5 : (X ++ [a] ++ ([] : List Pt)).getLast? = some a := by rw [List.append_nil]; exact last_snoc X a
   have e4 : (X ++ [a] ++ n :: []).head? = some b := by rw [hZ]; rfl
   have e6 : (X ++ [a] ++ ([] : List Pt)).head? = some b := by rw [hZ]; rfl
   rw [e1, e3, e4, e5, e6, List.append_nil]
   simp only
   omega
 ·obtain ⟨X, rfl⟩ := last_split ha
  rcases hb with hb | ⟨hb, _⟩
  ·obtain ⟨Y, hY⟩ := head_split hb
   have e1 : pathS ([] ++ n :: (X ++ [a])) = areaF n b + pathS (X ++ [a]) := by
    rw [hY]; rfl
   have e3 : ([] ++ n :: (X ++ [a])).getLast? = some a := last_snoc (n :: X) a
   have e5 : ([] ++ (X ++ [a])).getLast? = some a := last_snoc X a
   have e4 : ([] ++ n :: (X ++ [a])).head? = some n := rfl
   have e6 : ([] ++ (X ++ [a])).head? = some b := by rw [hY]; rfl
   rw [e1, e3, e4, e5, e6]
   simp only [List.nil_append]
   omega
  ·simp at hb
theorem StepD.ring {l : List ObjD} {n : ByteArray} {p : KeyD} (h : StepD l n p) (hz : crs (ptO l p.1) (ptO l p.2) (ptO l n) = 0) {o : ObjD} (ho : o ∈ l) : cycS ((lessR n o.refs).map (ptO l)) = cycS (o.refs.map (ptO l)) := by
 by_cases hr : n ∈ o.refs
 ·obtain ⟨A, B, a, b, hs, hA, hB, hp, hne, ha, hb⟩ := nbr_ends (map_obj h.ok ho) hr (h.nbr o ho hr)
  have hlok := less_ok (map_obj h.ok ho) hr (h.nbr o ho hr)
  have hR : (lessO n o).refs = A ++ B := by show lessR n o.refs = _; rw [hs, less_split hA hB]
  have hkind := h.kind ho hr
  have hl : 2 ≤ A.length + B.length := by
   simp only [objOK, Bool.and_eq_true, decide_eq_true_eq] at hlok
   have h4 : leastK o.kind ≤ (lessO n o).refs.length := hlok.1.1.1.2
   rw [hR, List.length_append] at h4
   rcases hkind with hk | hk
   ·rw [hk] at h4; unfold leastK at h4; simp at h4; omega
   ·rw [hk] at h4; unfold leastK at h4; simp at h4; omega
  have hcr : crs (ptO l a) (ptO l b) (ptO l n) = 0 := by
   rw [hp] at hz
   rcases key2_or a b with e | e <;> rw [e] at hz
   ·exact hz
   ·have := crs_swap (ptO l a) (ptO l b) (ptO l n)
    simp only at hz
    omega
  have e : lessR n o.refs = A ++ B := hR
  rw [e, hs, List.map_append, List.map_append, List.map_cons]
  refine (cyc_less (area_tri hcr) ?_ ?_ (by rw [List.length_map, List.length_map]; exact hl)).symm
  ·rcases ha with ha | ⟨rfl, _, ha⟩
   ·left; rw [List.getLast?_map, ha]; rfl
   ·right; refine ⟨rfl, ?_⟩; rw [List.getLast?_map, ha]; rfl
  ·rcases hb with hb | ⟨rfl, _, hb⟩
   ·left; rw [List.head?_map, hb]; rfl
   ·right; refine ⟨rfl, ?_⟩; rw [List.head?_map, hb]; rfl
 ·rw [less_self hr]
structure FlatM (m l' : List ObjD) (D : List ByteArray) : Prop where
 gone : GoneM m D
 eq : l' = dropsP m D
 on : ∀ d ∈ D, ∃ k ∈ keysP l', onR (segB l' k) (ptO m d) = true
 ring : ∀ o ∈ m, cycS ((o.refs.filter fun r => decide (r ∉ D)).map (ptO m)) = cycS (o.refs.map (ptO m))
theorem flat_step {m l' : List ObjD} {D : List ByteArray} {n : ByteArray} (hf : fitP l' = true) (hs : stepP l' 0 = some n) (h : FlatM m l' D) : FlatM m (dropP l' n) (n :: D) := by
 obtain ⟨h1, h2, h3⟩ := fit_parts.1 hf
 obtain ⟨p, hp, hsz⟩ := step_data h1 h2 h3 hs
 have hz : crs (ptO l' p.1) (ptO l' p.2) (ptO l' n) = 0 := by
  have e : crs (ptO l' n) (ptO l' p.1) (ptO l' p.2) = crs (ptO l' p.1) (ptO l' p.2) (ptO l' n) := by unfold crs; grind
  unfold sizeT at hsz
  omega
 have hg := gone_step h.gone (by rw [← h.eq]; exact hs)
 rw [← h.eq] at hg
 have hnD : n ∉ D := (List.nodup_cons.1 hg.1.nodup).1
 have pt : ∀ r, r ∉ D → ptO l' r = ptO m r := fun r hr => by unfold ptO; rw [h.eq, node_left h.gone hr]
 have near : ∀ r, nearQ (ptO m r) = true := fun r => pt_near h.gone.okm r
 refine ⟨hg.1, hg.2, fun d hd => ?_, fun o ho => ?_⟩
 ·rcases List.mem_cons.1 hd with rfl | hd
  ·obtain ⟨-, -, hab, han, hbn, -⟩ := hp.two
   obtain ⟨nn, na, nb⟩ := hp.nodes
   have inj : ∀ {r s : ByteArray}, r ∈ nodesP l' → s ∈ nodesP l' → r ≠ s → ptO l' r ≠ ptO l' s := fun hr hs hrs e => hrs (none_nodes hp.none hr hs e)
   refine ⟨p, hp.new, ?_⟩
   rw [show segB (dropP l' d) p = (ptO l' p.1, ptO l' p.2) by unfold segB; rw [hp.pt han, hp.pt hbn], ← pt d hnD]
   exact on_between (pt_near h1 _) (pt_near h1 _) (pt_near h1 _) (inj na nn han) (inj nb nn hbn) hp.meet3 hz
  ·obtain ⟨k, hk, hx⟩ := h.on d hd
   exact hp.still hz (near d) hk hx
 ·rw [← h.ring o ho]
  by_cases hoD : o.id ∈ D
  ·have hk := gone_kind h.gone ho hoD
   have : o.refs = [] := node_refs (map_obj h.gone.okm ho) hk.1
   rw [this]; rfl
  ·have hm : ({ o with refs := o.refs.filter fun r => decide (r ∉ D) } : ObjD) ∈ l' := by rw [h.eq]; exact mem_drops.2 ⟨o, ho, hoD, rfl⟩
   have := hp.ring hz hm
   have e1 : lessR n (o.refs.filter fun r => decide (r ∉ D)) = o.refs.filter fun r => decide (r ∉ n :: D) := by
    unfold lessR
    rw [List.filter_filter]
    refine List.filter_congr fun r _ => ?_
    rw [Bool.eq_iff_iff]
    simp [not_or]
   have e2 : ∀ L : List ByteArray, (∀ r ∈ L, r ∉ D) → L.map (ptO l') = L.map (ptO m) := fun L hL => List.map_congr_left fun r hr => pt r (hL r hr)
   rw [show ({ o with refs := o.refs.filter fun r => decide (r ∉ D) } : ObjD).refs = o.refs.filter fun r => decide (r ∉ D) from rfl, e1] at this
   rw [e2 _ (fun r hr => by
    have := of_decide_eq_true (List.mem_filter.1 hr).2
    exact fun c => this (List.mem_cons_of_mem _ c)), e2 _ (fun r hr => of_decide_eq_true (List.mem_filter.1 hr).2)] at this
   exact this
theorem flat_law {m : List ObjD} (h : fitP m = true) : ∃ D, FlatM m (simP m 0) D := by
 rw [sim_all h (Int.le_refl 0)]
 have hm := (fit_parts.1 h).1
 refine (all_induct (P := fun l' => ∃ D, FlatM m l' D) (fun l' n hf hs ⟨D, hD⟩ => ⟨n :: D, flat_step hf hs hD⟩) _ m (Nat.le_refl _) h ⟨[], gone_nil hm, (drops_nil m).symm, fun d hd => (by cases hd), fun o _ => ?_⟩).2
 have : (o.refs.filter fun r => decide (r ∉ ([] : List ByteArray))) = o.refs := List.filter_eq_self.2 (fun _ _ => by simp)
 rw [this]
end Go.Proofs.YtibpaaajghbkoaaGreat

namespace Go.Proofs.YtibpaaajghbkoaaGreat
theorem drops_len {m : List ObjD} (D : List ByteArray) : (dropsP m D).length + ((m.filter fun o => decide (o.id ∈ D)).map (·.id)).length = m.length := by
 unfold dropsP
 rw [List.length_map, List.length_map]
 induction m with
 |nil => rfl
 |cons o m ih =>
  rw [List.filter_cons, List.filter_cons]
  by_cases h : o.id ∈ D
  ·simp only [h, not_true_eq_false, decide_false, decide_true, if_true, Bool.false_eq_true, if_false, List.length_cons]
   omega
  ·simp only [h, not_false_eq_true, decide_true, decide_false, if_true, Bool.false_eq_true, if_false, List.length_cons]
   omega
end Go.Proofs.YtibpaaajghbkoaaGreat

namespace Go.Proofs.YtibpaaajghbkoaaGreat
open Go Go.RowKit Go.Maps Go.ChangeMaps Go.MapKept
section
variable {κ ν : Type}
def adel [DecidableEq κ] (k : κ) (l : List (κ × ν)) : List (κ × ν) := l.filter fun p => decide (p.1 ≠ k)
theorem aget_del [DecidableEq κ] (k k' : κ) : ∀ l : List (κ × ν), aget k' (adel k l) = if k' = k then none else aget k' l
 |[] => by simp [adel, aget]
 |(k0, v) :: l => by
  have ih := aget_del k k' l
  unfold adel at ih ⊢
  rw [List.filter_cons]
  by_cases h : k0 = k
  ·subst h
   rw [if_neg (by simp), ih]
   by_cases h2 : k' = k0
   ·rw [if_pos h2, if_pos h2]
   ·rw [if_neg h2, if_neg h2, aget, if_neg (fun e => h2 e.symm)]
  ·rw [if_pos (by simpa using h)]
   by_cases h2 : k' = k
   ·subst h2
    rw [if_pos rfl, aget, if_neg h, ih, if_pos rfl]
   ·rw [if_neg h2, aget, aget]
    by_cases h3 : k0 = k'
    ·rw [if_pos h3, if_pos h3]
    ·rw [if_neg h3, if_neg h3, ih, if_neg h2]
variable {P : Program} {t : TypeId} {ek : κ → Value} {ev : ν → Value} {w w' : World} {b : Nat} {l : List (κ × ν)}
theorem del_at [DecidableEq κ] {k : κ} : ∀ {l : List (κ × ν)} {j : Nat} {p : κ × ν}, (l.map (·.1)).Nodup → l[j]? = some p → p.1 = k → adel k l = l.eraseIdx j
 |[], j, p, _, h, _ => by simp at h
 |x :: l, 0, p, hn, h, hk => by
  have e : x = p := by simpa using h
  subst e
  obtain ⟨h1, h2⟩ := List.nodup_cons.1 hn
  unfold adel
  rw [List.filter_cons, if_neg (by simp [hk])]
  show _ = l
  refine List.filter_eq_self.2 fun y hy => decide_eq_true fun e => h1 ?_
  exact List.mem_map.2 ⟨y, hy, e.trans hk.symm⟩
 |x :: l, j + 1, p, hn, h, hk => by
  obtain ⟨h1, h2⟩ := List.nodup_cons.1 hn
  have hj : l[j]? = some p := by simpa using h
  have hx : x.1 ≠ k := fun e => h1 (by
   have : x.1 = p.1 := e.trans hk.symm
   exact List.mem_map.2 ⟨p, List.mem_of_getElem? hj, this.symm⟩)
  have ih := del_at h2 hj hk
  unfold adel at ih ⊢
  rw [List.filter_cons, if_pos (by simpa using hx), ih]
  rfl
theorem del_absent [DecidableEq κ] {k : κ} {l : List (κ × ν)} (h : ∀ p ∈ l, p.1 ≠ k) : adel k l = l := List.filter_eq_self.2 fun p hp => decide_eq_true (h p hp)
theorem MapAt.delete [DecidableEq κ] {T E ty : TypeId} (h : MapAt P t ek ev w b l) (K : Keyed P t) (hinj : ∀ x y, ek x = ek y → x = y) (hT : P.underlying T = some (.map t E)) (k : κ) (hk : ∃ kl, keyOf P t (ek k) = some kl) :
  ∃ w', (Builtin.delete_ #[T, t] ty #[.map (some b), ek k]).run P w = .ok (.tuple #[]) w' ∧ MapAt P t ek ev w' b (adel k l) ∧ w.grownBy w' (some b) ∧ w'.heap.size = w.heap.size := by
 have hn := h.nodup
 obtain ⟨es, clock, h1, h2, h3, h4, h5⟩ := h
 obtain ⟨kl, hkl⟩ := hk
 have hkeys : ∀ e ∈ es.toList, ∃ l, keyOf P t e.key = some l := fun e he => by
  obtain ⟨j, hj⟩ := List.getElem?_of_mem he
  obtain ⟨p, hp, e1, _⟩ := pairs_at h4 hj
  rw [e1]; exact h5 p (List.mem_of_getElem? hp)
 have grown : ∀ o : Obj, w.grownBy (setBlock w b o) (some b) := fun o => ⟨rfl, rfl, rfl, by simp [setBlock], fun i _ hi => heap_setBlock_other h1 _ (fun e => hi (by rw [e]))⟩
 rcases K.find w hkl es.toList hkeys with ⟨a, hno⟩ | ⟨j, e, a, hj, he⟩
 ·refine ⟨setBlock w b (.map es clock), ?_, ?_, grown _, by simp [setBlock]⟩
  ·simp [Builtin.delete_, run_underlying hT, MapKept.run_getObj_map h1, K.check w _ hkl, a, MapKept.run_setObj_map _ h1, Result.andThen, setBlock]
  ·rw [del_absent (fun p hp e => ?_)]
   ·exact ⟨es, clock, heap_setBlock_same h1 _, h2, h3, h4, h5⟩
   ·obtain ⟨x, hx, e1, _⟩ := pairs_keys h4 hp
    exact hno x hx (by rw [e1, e])
 ·obtain ⟨p, hp, e1, e2⟩ := pairs_at h4 hj
  have hkk : p.1 = k := hinj _ _ (by rw [← e1, he])
  have hjl : j < es.toList.length := (List.getElem?_eq_some_iff.1 hj).1
  have hjs : j < es.size := by simpa using hjl
  have hsub : (es.eraseIdxIfInBounds j).toList = es.toList.eraseIdx j := by
   unfold Array.eraseIdxIfInBounds
   rw [dif_pos hjs]
   simp
  refine ⟨setBlock w b (.map (es.eraseIdxIfInBounds j) clock), ?_, ⟨_, _, heap_setBlock_same h1 _, Nat.le_trans (MapFrom.size_erase es j) h2, stamped_erase h3 j, ?_, ?_⟩, grown _, by simp [setBlock]⟩
  ·simp [Builtin.delete_, run_underlying hT, MapKept.run_getObj_map h1, K.check w _ hkl, a, MapKept.run_setObj_map _ h1, Result.andThen, setBlock]
  ·rw [hsub, del_at hn hp hkk]
   have em : ∀ {α β : Type} (f : α → β) (L : List α) (i : Nat), (L.eraseIdx i).map f = (L.map f).eraseIdx i := by
    intro α β f L
    induction L with
    |nil => intro i; cases i <;> rfl
    |cons x L ih =>
     intro i
     cases i with
     |zero => rfl
     |succ i => simp only [List.eraseIdx_cons_succ, List.map_cons, ih]
   rw [em, h4, em]
  ·intro q hq
   exact h5 q (List.mem_filter.1 hq).1
end
end Go.Proofs.YtibpaaajghbkoaaGreat
