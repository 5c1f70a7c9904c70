/- Drawn regions: a quiet head, then two operations in any order, then a chain. No program in sight. Drawn regions: a quiet head, then a chain with one operation beside it that may be drawn at any place, then a chain. No program in sight. -/
import Derived.Test.YtbkomdinchiffaaGreatMix
namespace Go.Proofs.YtbkomdinchiffaaGreat
open Go.RowKit

section
variable {P : Program} {md : Region.Mode} {ops : Array Oper} {S0 : World → Prop} {Q : Act → World → Prop}

theorem LoudB.mk' {o : Oper} {a : Act} {S : World → Prop} {K' : Act → (World → Prop) → Prop} {ι : Type} (val : ι → Value) (T : ι → World → Prop) (hst : ∀ x, StableW (T x)) (hs0 : ∀ x w, T x w → S0 w)
    (hrun : ∀ w, S w → ∀ K : Act → World → Prop, (∀ x w', T x w' → K (a.put o.dst (val x)) w') → o.wp P a w K (fun _ _ _ => False)) (hk : ∀ x, K' (a.put o.dst (val x)) (T x)) : LoudB P S0 o a K' S :=
  ⟨ι, val, T, hst, hs0, fun w hS => hrun w hS _ fun x _ hT => ⟨x, rfl, hT⟩, hk⟩
theorem getD_set_same {listed : Array Bool} {i : Nat} (h : i < listed.size) (d : Bool) : (listed.setIfInBounds i true).getD i d = true := by simp [h]
theorem two_lex {n : Nat} (hc : Region.chainB md ops (n + 1) = true) (hw2 : Region.waitsFor md ops (n + 2) n = true) (o1 o2 : Oper) (rest : List Oper) (listed : Array Bool) (a : Act) (S : World → Prop)
    (hd : DoneTo ops n listed) (hl : ∀ j, (o1 :: o2 :: rest)[j]? = ops[n + j]?) (hB : Region.lexFrom md ops (rest.length + 2) n listed = true) (hw1a : Region.wanted o1 (yielded ops a.tmps) = true) (hw2a : Region.wanted o2 (yielded ops a.tmps) = true)
    (h1 : LoudB P S0 o1 a (tailM P ops S0 Q (o2 :: rest)) S)
    (h2 : LoudB P S0 o2 a (fun a' S' => Region.wanted o1 (yielded ops a'.tmps) = true ∧ LoudB P S0 o1 a' (tailM P ops S0 Q rest) S') S) : anyM P md ops S0 Q (rest.length + 2) listed a S := by
  have g1 : ops[n]? = some o1 := by simpa using (hl 0).symm
  have g2 : ops[n + 1]? = some o2 := by simpa using (hl 1).symm
  have z1 : n < ops.size := (Array.getElem?_eq_some_iff.1 g1).1
  have z2 : n + 1 < ops.size := (Array.getElem?_eq_some_iff.1 g2).1
  simp only [Region.lexFrom, Bool.and_eq_true] at hB
  obtain ⟨⟨hr, hf⟩, ⟨hr2, hf2⟩, hB2⟩ := hB
  have hr' : n ∈ Region.ready md ops listed := by simpa using hr
  have late : ∀ (listed' : Array Bool) (i : Nat), (∀ j, n + 2 ≤ j → j < ops.size → listed'.getD j false = false) → i ∈ Region.ready md ops listed' → n + 3 ≤ i → False := fun listed' i hno hi hge => by
    obtain ⟨hun, oi, hoi, hall⟩ := mem_ready.1 hi
    have hiz : i < ops.size := (Array.getElem?_eq_some_iff.1 hoi).1
    have h4 := List.all_eq_true.1 hc i (List.mem_range.2 hiz)
    simp only [Bool.or_eq_true, decide_eq_true_eq] at h4
    rcases h4 with h4 | h4
    · omega
    · obtain ⟨o', ho', e, he, hb, hon⟩ := Region.waitsFor_spec h4
      have : o' = oi := Option.some.inj (ho'.symm.trans hoi)
      subst this
      have h5 := hall e he hb
      rw [hon, hno (i - 1) (by omega) (by omega)] at h5
      cases h5
  have wait2 : ∀ (listed' : Array Bool) , listed'.getD n false = false → n + 2 ∈ Region.ready md ops listed' → False := fun listed' hno hi => by
    obtain ⟨hun, oi, hoi, hall⟩ := mem_ready.1 hi
    obtain ⟨o', ho', e, he, hb, hon⟩ := Region.waitsFor_spec hw2
    have : o' = oi := Option.some.inj (ho'.symm.trans hoi)
    subst this
    have h5 := hall e he hb
    rw [hon, hno] at h5
    cases h5
  have no1 : ∀ j, n ≤ j → j < ops.size → ∀ d, listed.getD j d = false := fun j hj hz d => by rw [hd.2 j hz d]; exact decide_eq_false (by omega)
  refine ⟨fun e => (by rw [e] at hr'; cases hr'), fun i hi => ?_⟩
  have hik : i = n ∨ i = n + 1 := by
    obtain ⟨hun, oi, hoi, _⟩ := mem_ready.1 hi
    have hiz : i < ops.size := (Array.getElem?_eq_some_iff.1 hoi).1
    have h1 := hd.2 i hiz true
    rw [hun] at h1
    have h2 : ¬ i < n := of_decide_eq_false h1.symm
    by_cases e2 : i = n + 2
    · subst e2; exact (wait2 listed (no1 n (Nat.le_refl _) z1 _) hi).elim
    · by_cases e3 : n + 3 ≤ i
      · exact (late listed i (fun j hj hz => no1 j (by omega) hz _) hi e3).elim
      · omega
  rcases hik with rfl | rfl
  · have step : ∀ b S', tailM P ops S0 Q (o2 :: rest) b S' → anyM P md ops S0 Q (o2 :: rest).length (listed.setIfInBounds i true) b S' := fun b S' hb =>
      tail_lex hc (o2 :: rest) (i + 1) _ b S' (Nat.le_refl _) hd.step (fun j => by have := hl (j + 1); simpa [Nat.add_assoc, Nat.add_comm 1 j] using this) (by simp only [List.length_cons, Region.lexFrom, Bool.and_eq_true]; exact ⟨⟨hr2, hf2⟩, hB2⟩) hb
    unfold opM
    simp only [g1, hw1a, if_true]
    exact Or.inr (h1.mono fun a' S' _ _ hk => step a' S' hk)
  · have hsz : n + 1 < listed.size := by rw [hd.1]; exact z2
    have un : (listed.setIfInBounds (n + 1) true).getD n false = false := by
      rw [getD_set_ne false (by omega), no1 n (Nat.le_refl _) z1]
    have unt : (listed.setIfInBounds (n + 1) true).getD n true = false := by
      rw [getD_set_ne true (by omega), no1 n (Nat.le_refl _) z1]
    have comm : (listed.setIfInBounds (n + 1) true).setIfInBounds n true = (listed.setIfInBounds n true).setIfInBounds (n + 1) true := by
      rw [Array.setIfInBounds_comm]; omega
    have hrn : n ∈ Region.ready md ops (listed.setIfInBounds (n + 1) true) := by
      obtain ⟨_, oi, hoi, hall⟩ := mem_ready.1 hr'
      refine mem_ready.2 ⟨unt, oi, hoi, fun e he hb => ?_⟩
      have h5 := hall e he hb
      by_cases ee : n + 1 = e.on
      · rw [← ee]; exact getD_set_same hsz _
      · rw [getD_set_ne false ee]; exact h5
    unfold opM
    simp only [g2, hw2a, if_true]
    refine Or.inr (h2.mono fun a' S' _ _ hk => ⟨fun e => (by rw [e] at hrn; cases hrn), fun i hi => ?_⟩)
    have hin : i = n := by
      obtain ⟨hun, oi, hoi, _⟩ := mem_ready.1 hi
      have hiz : i < ops.size := (Array.getElem?_eq_some_iff.1 hoi).1
      by_cases e1 : i = n + 1
      · subst e1; rw [getD_set_same hsz] at hun; cases hun
      · rw [getD_set_ne true (by omega)] at hun
        have h1 := hd.2 i hiz true
        rw [hun] at h1
        have h2 : ¬ i < n := of_decide_eq_false h1.symm
        by_cases e2 : i = n + 2
        · subst e2; exact (wait2 _ un hi).elim
        · by_cases e3 : n + 3 ≤ i
          · exact (late _ i (fun j hj hz => by rw [getD_set_ne false (by omega)]; exact no1 j (by omega) hz _) hi e3).elim
          · omega
    subst hin
    unfold opM
    simp only [g1, hk.1, if_true]
    refine Or.inr (hk.2.mono fun b S2 _ _ hk2 => ?_)
    rw [comm]
    exact tail_lex hc rest (i + 2) _ b S2 (by omega) hd.step.step (fun j => by have := hl (j + 2); simpa [Nat.add_assoc, Nat.add_comm 2 j] using this) hB2 hk2

/-- The law: behind a quiet head two operations that may be drawn in any order, then a chain. -/
theorem wp_region_two {id : Nat} {Q' : Exit → Act → World → Prop} {a : Act} {w : World} {l : List Oper} (n : Nat) (S0 S1 : World → Prop) (hm : P.follows .mixedOrders = true)
    (hB : Region.lexB .any l.toArray = true) (hc : Region.chainB .any l.toArray (n + 1) = true) (hw2 : Region.waitsFor .any l.toArray (n + 2) n = true) (hd : dstsB (l.take n) a.tmps.size = true) (hst : StableW S1) (h10 : ∀ W, S1 W → S0 W) (h1 : S1 w.drew)
    (o1 o2 : Oper) (rest : List Oper) (hl : l.drop n = o1 :: o2 :: rest)
    (hh : ∃ b, (∀ W, S0 W → wpQuiet P l.toArray (ByW W) (fun a' => a' = b) (l.take n) a) ∧ Region.wanted o1 (yielded l.toArray b.tmps) = true ∧ Region.wanted o2 (yielded l.toArray b.tmps) = true ∧
      LoudB P S0 o1 b (tailM P l.toArray S0 (fun a' w' => Q' .normal a' w') (o2 :: rest)) S1 ∧
      LoudB P S0 o2 b (fun a' S' => Region.wanted o1 (yielded l.toArray a'.tmps) = true ∧ LoudB P S0 o1 a' (tailM P l.toArray S0 (fun a' w' => Q' .normal a' w') rest) S') S1) :
    (Code.region id l.toArray true).wp P Q' a w := by
  obtain ⟨b, hq, wa, wb, ht1, ht2⟩ := hh
  simp only [Region.lexB, Bool.and_eq_true] at hB
  refine wp_region_any hm (anyM_sound (Q := fun a' w' => Q' .normal a' w') (S0 := S0) (fun _ _ h => h) _ _ _ S1 hst h10 ?_ _ h1)
  have hlen : l.toArray.size = (l.take n).length + (l.drop n).length := by
    rw [List.size_toArray, ← List.length_append, List.take_append_drop]
  rw [hlen]
  have hn : n < l.length := by
    have := congrArg List.length hl
    rw [List.length_drop] at this
    simp at this; omega
  have e : (l.take n).length = n := by rw [List.length_take]; omega
  refine head_lex hB.1 hst h10 (l.drop n).length (l.take n) 0 _ a (by rw [← hlen]; exact DoneTo.start) (fun j o hj => ?_) (by rw [← hlen]; exact hB.2) (head_of_quiet _ _ hd ⟨_, h10 _ h1⟩ hq) (fun listed' hd' hB' => ?_)
  · rw [List.getElem?_take] at hj
    rw [Nat.zero_add, List.getElem?_toArray]
    split at hj
    · exact hj
    · cases hj
  · rw [e, Nat.zero_add] at hd' hB'
    rw [hl] at hB' ⊢
    exact two_lex hc hw2 o1 o2 rest listed' b S1 hd' (fun j => by rw [← hl, List.getElem?_drop, List.getElem?_toArray]) hB' wa wb ht1 ht2
end
end Go.Proofs.YtbkomdinchiffaaGreat

namespace Go.Proofs.YtbkomdinchiffaaGreat
open Go.RowKit

section
variable {P : Program} {md : Region.Mode} {ops : Array Oper} {S0 : World → Prop} {Q : Act → World → Prop}

/-- Behind the head: the chain's operations, at each of which the free one may come first; when the chain is done, the free one, then the rest. -/
def freeM (P : Program) (ops : Array Oper) (S0 : World → Prop) (Q : Act → World → Prop) (f : Oper) (rest : List Oper) : List Oper → Act → (World → Prop) → Prop
  | [], a, S => Region.wanted f (yielded ops a.tmps) = true ∧ LoudB P S0 f a (tailM P ops S0 Q rest) S
  | o :: l, a, S => (Region.wanted f (yielded ops a.tmps) = true ∧ LoudB P S0 f a (tailM P ops S0 Q (o :: l ++ rest)) S) ∧ Region.wanted o (yielded ops a.tmps) = true ∧ LoudB P S0 o a (freeM P ops S0 Q f rest l) S
/-- At each step one operation is ready, and this is the next. -/
def seqB (md : Region.Mode) (ops : Array Oper) : List Nat → Array Bool → Bool
  | [], listed => (Region.ready md ops listed).isEmpty
  | c :: q, listed => !(Region.ready md ops listed).isEmpty && (Region.ready md ops listed).all (fun i => i == c) && seqB md ops q (listed.setIfInBounds c true)
def freeB (md : Region.Mode) (ops : Array Oper) (f : Nat) (rest : List Nat) : List Nat → Array Bool → Bool
  | [], listed => seqB md ops (f :: rest) listed
  | c :: q, listed => !(Region.ready md ops listed).isEmpty && (Region.ready md ops listed).all (fun i => i == c || i == f) && seqB md ops (c :: q ++ rest) (listed.setIfInBounds f true) && freeB md ops f rest q (listed.setIfInBounds c true)
theorem ne_of_isEmpty {α : Type} {l : List α} (h : (!l.isEmpty) = true) : l ≠ [] := fun e => by rw [e] at h; cases h
theorem seq_any : ∀ (q : List Nat) (l : List Oper) (listed : Array Bool) (a : Act) (S : World → Prop), seqB md ops q listed = true → q.map (fun i => ops[i]?) = l.map some → tailM P ops S0 Q l a S → anyM P md ops S0 Q q.length listed a S
  | [], [], listed, a, S, hB, _, h => ⟨by simpa [seqB] using hB, h⟩
  | [], _ :: _, _, _, _, _, he, _ => by cases he
  | _ :: _, [], _, _, _, _, he, _ => by cases he
  | c :: q, o :: l, listed, a, S, hB, he, h => by
    simp only [seqB, Bool.and_eq_true] at hB
    obtain ⟨⟨h1, h2⟩, h3⟩ := hB
    simp only [List.map_cons, List.cons.injEq] at he
    refine ⟨fun e => absurd e (ne_of_isEmpty h1), fun i hi => ?_⟩
    have hik : i = c := by simpa using List.all_eq_true.1 h2 i hi
    subst hik
    have step : ∀ b S', tailM P ops S0 Q l b S' → anyM P md ops S0 Q q.length (listed.setIfInBounds i true) b S' := fun b S' hb => seq_any q l _ b S' h3 he.2 hb
    unfold opM
    unfold tailM at h
    simp only [he.1]
    by_cases hw : Region.wanted o (yielded ops a.tmps) = true
    · simp only [hw, if_true] at h ⊢
      exact Or.inr (h.mono fun a' S' _ _ hk => step a' S' hk)
    · simp only [hw] at h ⊢
      exact step _ S h
theorem freeq_any (f : Nat) (fo : Oper) (hf : ops[f]? = some fo) (rest : List Nat) (lr : List Oper) (hr : rest.map (fun i => ops[i]?) = lr.map some) : ∀ (q : List Nat) (l : List Oper) (listed : Array Bool) (a : Act) (S : World → Prop), freeB md ops f rest q listed = true → q.map (fun i => ops[i]?) = l.map some →
    freeM P ops S0 Q fo lr l a S → anyM P md ops S0 Q (q.length + (rest.length + 1)) listed a S
  | [], [], listed, a, S, hB, _, h => by
    have := seq_any (P := P) (S0 := S0) (Q := Q) (f :: rest) (fo :: lr) listed a S hB (by simp [hf, hr]) (by unfold tailM; rw [if_pos h.1]; exact h.2)
    simpa using this
  | [], _ :: _, _, _, _, _, he, _ => by cases he
  | _ :: _, [], _, _, _, _, he, _ => by cases he
  | c :: q, o :: l, listed, a, S, hB, he, h => by
    simp only [freeB, Bool.and_eq_true] at hB
    obtain ⟨⟨⟨h1, h2⟩, h3⟩, h4⟩ := hB
    simp only [List.map_cons, List.cons.injEq] at he
    obtain ⟨⟨hw1, hl1⟩, hw2, hl2⟩ := h
    have e1 : (c :: q).length + (rest.length + 1) = (q.length + (rest.length + 1)) + 1 := by simp; omega
    rw [e1]
    refine ⟨fun e => absurd e (ne_of_isEmpty h1), fun i hi => ?_⟩
    have hik : i = c ∨ i = f := by simpa using List.all_eq_true.1 h2 i hi
    unfold opM
    rcases hik with rfl | rfl
    · simp only [he.1, hw2, if_true]
      exact Or.inr (hl2.mono fun a' S' _ _ hk => freeq_any f fo hf rest lr hr q l _ a' S' h4 he.2 hk)
    · simp only [hf, hw1, if_true]
      refine Or.inr (hl1.mono fun a' S' _ _ hk => ?_)
      have := seq_any (P := P) (S0 := S0) (Q := Q) (c :: q ++ rest) (o :: l ++ lr) _ a' S' h3 (by simp [he.1, he.2, hr]) hk
      have e2 : (c :: q ++ rest).length = q.length + (rest.length + 1) := by simp; omega
      rw [e2] at this
      exact this
/-- The state behind the head. -/
def startL (n k : Nat) : Array Bool := (Array.range k).map fun i => decide (i < n)
theorem doneTo_start {n : Nat} {listed : Array Bool} (h : DoneTo ops n listed) : listed = startL n ops.size := by
  refine Array.ext (by simp [startL, h.1]) fun i h1 h2 => ?_
  have := h.2 i (by rw [← h.1]; exact h1) false
  rw [Array.getD_eq_getD_getElem?, Array.getElem?_eq_getElem h1] at this
  simpa [startL] using this
/-- The law: behind a quiet head of n operations a chain of m, the free one, then r more. -/
theorem wp_region_free {id : Nat} {Q' : Exit → Act → World → Prop} {a : Act} {w : World} {l : List Oper} (n m r : Nat) (S0 S1 : World → Prop) (hm : P.follows .mixedOrders = true)
    (hB : Region.lexB .any l.toArray = true) (hF : freeB .any l.toArray (n + m) ((List.range r).map fun i => n + m + 1 + i) ((List.range m).map fun i => n + i) (startL n l.length) = true) (hlen : l.length = n + m + 1 + r)
    (hd : dstsB (l.take n) a.tmps.size = true) (hst : StableW S1) (h10 : ∀ W, S1 W → S0 W) (h1 : S1 w.drew)
    (fo : Oper) (chain rest : List Oper) (hl : l.drop n = chain ++ fo :: rest) (hcl : chain.length = m)
    (hh : ∃ b, (∀ W, S0 W → wpQuiet P l.toArray (ByW W) (fun a' => a' = b) (l.take n) a) ∧ freeM P l.toArray S0 (fun a' w' => Q' .normal a' w') fo rest chain b S1) :
    (Code.region id l.toArray true).wp P Q' a w := by
  obtain ⟨b, hq, hfr⟩ := hh
  simp only [Region.lexB, Bool.and_eq_true] at hB
  refine wp_region_any hm (anyM_sound (Q := fun a' w' => Q' .normal a' w') (S0 := S0) (fun _ _ h => h) _ _ _ S1 hst h10 ?_ _ h1)
  have hle : l.toArray.size = (l.take n).length + (l.drop n).length := by
    rw [List.size_toArray, ← List.length_append, List.take_append_drop]
  rw [hle]
  have e : (l.take n).length = n := by rw [List.length_take]; omega
  have hget : ∀ i, l[n + i]? = (chain ++ fo :: rest)[i]? := fun i => by rw [← hl, List.getElem?_drop]
  have hrl : rest.length = r := by
    have := congrArg List.length hl
    rw [List.length_drop, List.length_append, List.length_cons] at this
    omega
  refine head_lex hB.1 hst h10 (l.drop n).length (l.take n) 0 _ a (by rw [← hle]; exact DoneTo.start) (fun j o hj => ?_) (by rw [← hle]; exact hB.2) (head_of_quiet _ _ hd ⟨_, h10 _ h1⟩ hq) (fun listed' hd' _ => ?_)
  · rw [List.getElem?_take] at hj
    rw [Nat.zero_add, List.getElem?_toArray]
    split at hj
    · exact hj
    · cases hj
  · rw [e, Nat.zero_add] at hd'
    have hs := doneTo_start hd'
    rw [List.size_toArray] at hs
    subst hs
    have h5 : (l.drop n).length = ((List.range m).map fun i => n + i).length + (((List.range r).map fun i => n + m + 1 + i).length + 1) := by
      rw [List.length_drop]; simp; omega
    rw [h5]
    refine freeq_any (n + m) fo ?_ _ rest ?_ _ chain _ b S1 hF ?_ hfr
    · rw [List.getElem?_toArray, hget, List.getElem?_append_right (by omega), hcl, Nat.sub_self]; rfl
    · refine List.ext_getElem? fun i => ?_
      rw [List.getElem?_map, List.getElem?_map, List.getElem?_map]
      by_cases hi : i < r
      · rw [List.getElem?_range hi]
        simp only [Option.map_some]
        rw [List.getElem?_toArray, show n + m + 1 + i = n + (m + 1 + i) by omega, hget, List.getElem?_append_right (by omega), hcl, show m + 1 + i - m = i + 1 by omega, List.getElem?_cons_succ, List.getElem?_eq_getElem (by omega)]
        rfl
      · rw [List.getElem?_eq_none (by simp; omega), List.getElem?_eq_none (by omega)]; rfl
    · refine List.ext_getElem? fun i => ?_
      rw [List.getElem?_map, List.getElem?_map, List.getElem?_map]
      by_cases hi : i < m
      · rw [List.getElem?_range hi]
        simp only [Option.map_some]
        rw [List.getElem?_toArray, hget, List.getElem?_append_left (by omega), List.getElem?_eq_getElem (by omega)]
        rfl
      · rw [List.getElem?_eq_none (by simp; omega), List.getElem?_eq_none (by omega)]; rfl
/-! Node by node: the state 'listed' is written out, what is ready is computed. -/
theorem any_one {fuel : Nat} {listed : Array Bool} {a : Act} {S : World → Prop} (c : Nat) {o : Oper} (hr : Region.ready md ops listed = [c]) (ho : ops[c]? = some o) (hw : Region.wanted o (yielded ops a.tmps) = true)
    (h : LoudB P S0 o a (anyM P md ops S0 Q fuel (listed.setIfInBounds c true)) S) : anyM P md ops S0 Q (fuel + 1) listed a S := by
  refine ⟨fun e => (by rw [hr] at e; cases e), fun i hi => ?_⟩
  rw [hr] at hi
  obtain rfl : i = c := by simpa using hi
  unfold opM
  simp only [ho, hw, if_true]
  exact Or.inr h
theorem any_two {fuel : Nat} {listed : Array Bool} {a : Act} {S : World → Prop} (c d : Nat) {o o' : Oper} (hr : Region.ready md ops listed = [c, d]) (ho : ops[c]? = some o) (ho' : ops[d]? = some o') (hw : Region.wanted o (yielded ops a.tmps) = true) (hw' : Region.wanted o' (yielded ops a.tmps) = true)
    (h : LoudB P S0 o a (anyM P md ops S0 Q fuel (listed.setIfInBounds c true)) S) (h' : LoudB P S0 o' a (anyM P md ops S0 Q fuel (listed.setIfInBounds d true)) S) : anyM P md ops S0 Q (fuel + 1) listed a S := by
  refine ⟨fun e => (by rw [hr] at e; cases e), fun i hi => ?_⟩
  rw [hr] at hi
  have hi : i = c ∨ i = d := by simpa using hi
  unfold opM
  rcases hi with rfl | rfl
  · simp only [ho, hw, if_true]
    exact Or.inr h
  · simp only [ho', hw', if_true]
    exact Or.inr h'
theorem any_quiet {fuel : Nat} {listed : Array Bool} {a : Act} {S : World → Prop} (i : Nat) (v : Value) {o : Oper} (hst : StableW S) (h10 : ∀ w, S w → S0 w) (ho : ops[i]? = some o) (hs : Region.noSelect ops = true) (hf : Region.free md ops listed i = true) (hr : (Region.ready md ops listed).contains i = true) (hw : Region.wanted o (yielded ops a.tmps) = true)
    (hq : QuietB P S0 o a v) (h : anyM P md ops S0 Q fuel (listed.setIfInBounds i true) (a.put o.dst v) S) : anyM P md ops S0 Q (fuel + 1) listed a S :=
  anyM_first ho (Region.noSelect_spec hs) fuel listed a S hst h10 (Region.free_spec ho hf) (by simpa using hr) (Or.inl ⟨hw, hq⟩) h
theorem any_end {listed : Array Bool} {a : Act} {S : World → Prop} (hr : Region.ready md ops listed = []) (h : ∀ w, S w → Q a w) : anyM P md ops S0 Q 0 listed a S := ⟨hr, h⟩
theorem QuietB.pure {o : Oper} {a : Act} {v : Value} (h : ∀ w, (execOp a.eval o).run P w = .ok (.value v) w) : QuietB P S0 o a v := fun w _ => by
  show Oper.quietUpon P (ByW w) w v _
  rw [h w]
  exact ⟨rfl, rfl⟩
/-- The law: behind a quiet head, whatever the orders are. -/
theorem wp_region_nodes {id : Nat} {Q' : Exit → Act → World → Prop} {a : Act} {w : World} {l : List Oper} (n k : Nat) (S0 S1 : World → Prop) (hm : P.follows .mixedOrders = true)
    (hs : Region.noSelect l.toArray = true) (hB : Region.lexFrom .any l.toArray l.length 0 (Array.replicate l.length false) = true) (hd : dstsB (l.take n) a.tmps.size = true) (hst : StableW S1) (h10 : ∀ W, S1 W → S0 W) (h1 : S1 w.drew) (hk : l.length = n + k)
    (hh : ∃ b, (∀ W, S0 W → wpQuiet P l.toArray (ByW W) (fun a' => a' = b) (l.take n) a) ∧ anyM P .any l.toArray S0 (fun a' w' => Q' .normal a' w') k (startL n (n + k)) b S1) :
    (Code.region id l.toArray true).wp P Q' a w := by
  obtain ⟨b, hq, hfr⟩ := hh
  obtain rfl : k = l.length - n := by omega
  rw [← hk] at hfr
  have hn : n ≤ l.length := by omega
  refine wp_region_any hm (anyM_sound (Q := fun a' w' => Q' .normal a' w') (S0 := S0) (fun _ _ h => h) _ _ _ S1 hst h10 ?_ _ h1)
  have e : (l.take n).length = n := by rw [List.length_take]; omega
  have hle : l.toArray.size = (l.take n).length + (l.length - n) := by rw [List.size_toArray, e]; omega
  rw [hle]
  refine head_lex hs hst h10 (l.length - n) (l.take n) 0 _ a (by rw [← hle]; exact DoneTo.start) (fun j o hj => ?_) (by rw [← hle, List.size_toArray]; exact hB) (head_of_quiet _ _ hd ⟨_, h10 _ h1⟩ hq) (fun listed' hd' _ => ?_)
  · rw [List.getElem?_take] at hj
    rw [Nat.zero_add, List.getElem?_toArray]
    split at hj
    · exact hj
    · cases hj
  · rw [e, Nat.zero_add] at hd'
    have hs2 := doneTo_start hd'
    rw [List.size_toArray] at hs2
    subst hs2
    exact hfr
end
end Go.Proofs.YtbkomdinchiffaaGreat
