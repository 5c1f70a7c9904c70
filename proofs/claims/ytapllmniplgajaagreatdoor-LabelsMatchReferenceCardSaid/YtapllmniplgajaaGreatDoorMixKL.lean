/- A region that draws its order: operations that read and calls that leave what stood unturned come up in any order; behind them in the text stands a chain of operations that write or make memory. One walk of the text's order serves every order. The reference's point of a label. The reference's Labels. -/
import Derived.Test.YtapllmniplgajaaGreatDoorObjN
import Derived.Test.YtapllmniplgajaaGreatDoorLabL
import Derived.StillTail
import Derived.Test.YtapllmniplgajaaGreatDoorLawN
import Derived.BigQuiet
import Derived.Deep.CutRange
import Derived.Test.YtapllmniplgajaaGreatDoorRefIJ
import Derived.Test.YtapllmniplgajaaGreatDoorRefGH
import Derived.Test.YtapllmniplgajaaGreatDoorRefC
import Derived.Test.YtapllmniplgajaaGreatDoorLabW
namespace Go.Proofs.YtapllmniplgajaaGreatDoor
open Go.RowKit

/-- What holds of a world goes on holding where nothing that stood is turned. -/
def StableW (S : World → Prop) : Prop := ∀ w w', S w → Below w.heap.size w w' → S w'
/-- The worlds in which all that stood in w stands unturned. -/
abbrev ByW (w : World) : World → Prop := fun w' => ∃ p : BelowBy w, w' = p.at'

section
variable (P : Program) (md : Region.Mode) (ops : Array Oper) (S0 : World → Prop) (Q : Act → World → Prop)

/-- An operation that hands back v from every world of S0 and turns nothing that stood. -/
def QuietB (o : Oper) (a : Act) (v : Value) : Prop := ∀ w, S0 w → o.quietAt P a (ByW w) w v
/-- An operation that writes or makes memory. -/
def LoudB (o : Oper) (a : Act) (K : Act → (World → Prop) → Prop) (S : World → Prop) : Prop :=
  ∃ (ι : Type) (val : ι → Value) (T : ι → World → Prop), (∀ x, StableW (T x)) ∧ (∀ x w, T x w → S0 w) ∧
    (∀ w, S w → o.wp P a w (fun a' w' => ∃ x, a' = a.put o.dst (val x) ∧ T x w') (fun _ _ _ => False)) ∧ ∀ x, K (a.put o.dst (val x)) (T x)
def opM (i : Nat) (K : Act → (World → Prop) → Prop) (a : Act) (S : World → Prop) : Prop :=
  match ops[i]? with
  | none => K a S
  | some o => if Region.wanted o (yielded ops a.tmps) then (∃ v, QuietB P S0 o a v ∧ K (a.put o.dst v) S) ∨ LoudB P S0 o a K S else K (a.put o.dst undef) S
def anyM : Nat → Array Bool → Act → (World → Prop) → Prop
  | 0, listed, a, S => Region.ready md ops listed = [] ∧ ∀ w, S w → Q a w
  | fuel + 1, listed, a, S => (Region.ready md ops listed = [] → ∀ w, S w → Q a w) ∧
    ∀ i ∈ Region.ready md ops listed, opM P ops S0 i (anyM fuel (listed.setIfInBounds i true)) a S
/-- The head's walk, in the text's order, to one frame. -/
def hdMix : List Oper → Act → Act → Prop
  | [], a, b => a = b
  | o :: rest, a, b => if Region.wanted o (yielded ops a.tmps) then ∃ v, QuietB P S0 o a v ∧ hdMix rest (a.put o.dst v) b else hdMix rest (a.put o.dst undef) b
/-- The tail's walk. -/
def tailM : List Oper → Act → (World → Prop) → Prop
  | [], a, S => ∀ w, S w → Q a w
  | o :: rest, a, S => if Region.wanted o (yielded ops a.tmps) then LoudB P S0 o a (tailM rest) S else tailM rest (a.put o.dst undef) S
end

section
variable {P : Program} {md : Region.Mode} {ops : Array Oper} {S0 : World → Prop} {Q : Act → World → Prop}

theorem put_size (a : Act) (x : Option Tmp) (v : Value) : (a.put x v).tmps.size = a.tmps.size := by cases x <;> simp [Act.put]
theorem put_defs (a : Act) (x : Option Tmp) (v : Value) : (a.put x v).defers = a.defers := by cases x <;> rfl
theorem put_cancel {a : Act} {x y : Option Tmp} {v u u' : Value} (h : ∀ d, x = some d → y ≠ some d) (e : (a.put x v).put y u = (a.put x v).put y u') : a.put y u = a.put y u' := by
  cases y with
  | none => rfl
  | some d =>
    cases x with
    | none => exact e
    | some c =>
      have hne : c ≠ d := fun he => h c rfl (by rw [he])
      have e1 := congrArg (fun b : Act => b.tmps[d]?) e
      simp only [Act.put] at e1
      rcases Nat.lt_or_ge d a.tmps.size with hd | hd
      · simp [hd] at e1
        rw [e1]
      · simp only [Act.put]
        rw [Array.setIfInBounds_eq_of_size_le (by omega), Array.setIfInBounds_eq_of_size_le (by omega)]

theorem upon_mono {o : Oper} {a b : Act} {K K' : Act → World → Prop} {Q' : Exit → Act → World → Prop} {r : Result Next}
    (hK : ∀ u w, K (a.put o.dst u) w → K' (b.put o.dst u) w) (hdef : ∀ d w, ¬ K ({ a with defers := d :: a.defers }.put o.dst undef) w)
    (h : o.upon P a K (fun _ _ _ => False) r) : o.upon P b K' Q' r := by
  cases r with
  | ok n w' =>
    cases n <;> simp only [Oper.upon] at h ⊢
    case value v => exact hK _ _ h
    case skip => exact hK _ _ h
    case defer d => exact absurd h (hdef d w')
    case enter f args =>
      refine Calls.mono h ?_
      intro e w'' h2
      cases e with
      | returned v => exact hK _ _ h2
      | panicked c => exact h2.elim
      | outgrown =>
        obtain ⟨_, _, h3⟩ := (h2 : LetsOut _)
        exact h3.elim
    case row row args =>
      exact Rows.mono h fun v w'' h2 => hK _ _ h2
  | halt x w' =>
    cases x <;> simp only [Oper.upon] at h

theorem QuietB.of_put {oi oj : Oper} {a : Act} {v u : Value} (hsj : ∀ cs b, oj.op ≠ .select cs b) (h1 : ∀ d, oi.dst = some d → d ∉ oj.looksAt ops) (h : QuietB P S0 oj (a.put oi.dst v) u) : QuietB P S0 oj a u := by
  intro w hw
  have := h w hw
  unfold Oper.quietAt at this ⊢
  rwa [execOp_put oj hsj a oi.dst v h1] at this
theorem QuietB.put {oi oj : Oper} {a : Act} {v u : Value} (hsi : ∀ cs b, oi.op ≠ .select cs b) (h3 : ∀ d, oj.dst = some d → d ∉ oi.looksAt ops) (h : QuietB P S0 oi a v) : QuietB P S0 oi (a.put oj.dst u) v := by
  intro w hw
  have := h w hw
  unfold Oper.quietAt at this ⊢
  rwa [execOp_put oi hsi a oj.dst u h3]
theorem LoudB.of_put {oi oj : Oper} {a : Act} {v : Value} {K : Act → (World → Prop) → Prop} {S : World → Prop} (hsj : ∀ cs b, oj.op ≠ .select cs b) (h1 : ∀ d, oi.dst = some d → d ∉ oj.looksAt ops) (h2 : ∀ d, oi.dst = some d → oj.dst ≠ some d)
    (h : LoudB P S0 oj (a.put oi.dst v) K S) : LoudB P S0 oj a (fun a' S' => StableW S' ∧ (∀ w, S' w → S0 w) ∧ K (a'.put oi.dst v) S') S := by
  obtain ⟨ι, val, T, hst, hs0, hw, hk⟩ := h
  refine ⟨ι, val, T, hst, hs0, fun w hS => ?_, fun x => ⟨hst x, hs0 x, by rw [← Act.put_comm a v (val x) h2]; exact hk x⟩⟩
  have := hw w hS
  unfold Oper.wp at this ⊢
  rw [execOp_put oj hsj a oi.dst v h1] at this
  refine upon_mono ?_ ?_ this
  · rintro u w' ⟨x, hx, hT⟩
    exact ⟨x, put_cancel h2 hx, hT⟩
  · rintro d w' ⟨x, hx, -⟩
    have := congrArg Act.defers hx
    simp only [put_defs] at this
    have := congrArg List.length this
    simp at this
theorem LoudB.mono {o : Oper} {a : Act} {K K' : Act → (World → Prop) → Prop} {S : World → Prop} (hK : ∀ a' S', StableW S' → (∀ w, S' w → S0 w) → K a' S' → K' a' S') (h : LoudB P S0 o a K S) : LoudB P S0 o a K' S := by
  obtain ⟨ι, val, T, hst, hs0, hw, hk⟩ := h
  exact ⟨ι, val, T, hst, hs0, hw, fun x => hK _ _ (hst x) (hs0 x) (hk x)⟩

/-- It serves every order that may be drawn. -/
theorem anyM_sound {Q' : Exit → Act → World → Prop} (hQ : ∀ a w, Q a w → Q' .normal a w) : ∀ (fuel : Nat) (listed : Array Bool) (a : Act) (S : World → Prop), StableW S → (∀ w, S w → S0 w) →
    anyM P md ops S0 Q fuel listed a S → ∀ w, S w → wpAny P md ops Q' fuel listed a w
  | 0, _, _, _, _, _, h, w, hw => ⟨h.1, hQ _ _ (h.2 w hw)⟩
  | fuel + 1, listed, a, S, hst, hs0, h, w, hw => by
    refine ⟨fun h0 => hQ _ _ (h.1 h0 w hw), fun i hi => ?_⟩
    have hi' := h.2 i hi
    unfold opM at hi'
    unfold wpOp
    cases ho : ops[i]? with
    | none => simp only [ho] at hi' ⊢; exact anyM_sound hQ fuel _ _ S hst hs0 hi' w hw
    | some o =>
      simp only [ho] at hi' ⊢
      by_cases hwd : Region.wanted o (yielded ops a.tmps) = true
      · simp only [hwd, if_true] at hi' ⊢
        refine Or.inl ?_
        rcases hi' with ⟨v, hq, hk⟩ | hl
        · have h1 := hq w (hs0 w hw)
          unfold Oper.quietAt at h1
          unfold Oper.wp
          generalize (execOp a.eval o).run P w = r at h1 ⊢
          cases r with
          | ok n w' =>
            cases n <;> simp only [Oper.quietUpon] at h1 <;> simp only [Oper.upon]
            case value u =>
              obtain ⟨e1, e2⟩ := h1
              rw [e1, e2]
              exact anyM_sound hQ fuel _ _ S hst hs0 hk w hw
            case skip =>
              obtain ⟨e1, e2⟩ := h1
              rw [e1, ← e2]
              exact anyM_sound hQ fuel _ _ S hst hs0 hk w hw
            case enter f args =>
              obtain ⟨e1, hc⟩ := h1
              rw [e1]
              refine hc.mono ?_
              rintro e w'' ⟨rfl, p, rfl⟩
              exact anyM_sound hQ fuel _ _ S hst hs0 hk _ (hst _ _ hw p.below)
          | halt x w' => simp only [Oper.quietUpon] at h1
        · obtain ⟨ι, val, T, hst', hs0', hw', hk⟩ := hl
          have h1 := hw' w hw
          unfold Oper.wp at h1 ⊢
          refine upon_mono ?_ ?_ h1
          · rintro u w'' ⟨x, hx, hT⟩
            rw [hx]
            exact anyM_sound hQ fuel _ _ (T x) (hst' x) (hs0' x) (hk x) w'' hT
          · rintro d w'' ⟨x, hx, -⟩
            have := congrArg Act.defers hx
            simp only [put_defs] at this
            have := congrArg List.length this
            simp at this
      · simp only [hwd] at hi' ⊢
        exact anyM_sound hQ fuel _ _ S hst hs0 hi' w hw

def YieldsM (P : Program) (ops : Array Oper) (S0 : World → Prop) (o : Oper) (v : Value) (a : Act) : Prop :=
  (Region.wanted o (yielded ops a.tmps) = true ∧ QuietB P S0 o a v) ∨ (Region.wanted o (yielded ops a.tmps) = false ∧ v = undef)
theorem YieldsM.opM {i : Nat} {o : Oper} {v : Value} {a : Act} {S : World → Prop} (hi : ops[i]? = some o) (hy : YieldsM P ops S0 o v a) {K : Act → (World → Prop) → Prop} (h : K (a.put o.dst v) S) : opM P ops S0 i K a S := by
  unfold Proofs.YtapllmniplgajaaGreatDoor.opM
  simp only [hi]
  rcases hy with ⟨hw, hv⟩ | ⟨hw, rfl⟩
  · simp only [hw, if_true]; exact Or.inl ⟨v, hv, h⟩
  · simp only [hw, Bool.false_eq_true, if_false]; exact h

/-- A quiet operation that may come up now may be taken first. -/
theorem anyM_first {i : Nat} {oi : Oper} {v : Value} (hi : ops[i]? = some oi) (hsel : ∀ (j : Nat) (o : Oper) cs b, ops[j]? = some o → o.op ≠ .select cs b) :
    ∀ (fuel : Nat) (listed : Array Bool) (a : Act) (S : World → Prop), StableW S → (∀ w, S w → S0 w) →
      (∀ j oj, ops[j]? = some oj → j ≠ i → listed.getD j true = false → (∀ e ∈ oj.after, Region.binds md e = true → e.on ≠ i) → oi.apart ops oj = true) →
      i ∈ Region.ready md ops listed → YieldsM P ops S0 oi v a →
      anyM P md ops S0 Q fuel (listed.setIfInBounds i true) (a.put oi.dst v) S → anyM P md ops S0 Q (fuel + 1) listed a S := by
  intro fuel
  induction fuel with
  | zero =>
    intro listed a S _ _ _ hr hy H
    refine ⟨fun h => (by rw [h] at hr; cases hr), fun j hj => ?_⟩
    by_cases hji : j = i
    · subst hji; exact hy.opM hi H
    · have := ready_mono hj hji
      rw [H.1] at this
      cases this
  | succ fuel ih =>
    intro listed a S hst hs0 hfree hr hy H
    refine ⟨fun h => (by rw [h] at hr; cases hr), fun j hj => ?_⟩
    by_cases hji : j = i
    · subst hji; exact hy.opM hi H
    · have h1 := H.2 j (ready_mono hj hji)
      obtain ⟨hjun, oj, hoj, hall⟩ := mem_ready.1 hj
      have hnot : ∀ e ∈ oj.after, Region.binds md e = true → e.on ≠ i := fun e he hb heq => by
        have h1 := hall e he hb
        have h0 := (mem_ready.1 hr).1
        rw [heq] at h1
        rcases Nat.lt_or_ge i listed.size with h' | h'
        · simp [h'] at h0 h1; rw [h0] at h1; cases h1
        · simp [Array.getElem?_eq_none h'] at h1
      obtain ⟨a1, a2, a3⟩ := Oper.apart_spec (hfree j oj hoj hji hjun hnot)
      have hsi := fun cs b => hsel i oi cs b hi
      have hsj := fun cs b => hsel j oj cs b hoj
      have keep : ∀ u, YieldsM P ops S0 oi v (a.put oj.dst u) := fun u => by
        rcases hy with ⟨hw, hv⟩ | ⟨hw, e⟩
        · exact Or.inl ⟨by rw [wanted_put oi a oj.dst u a3]; exact hw, hv.put hsi a3⟩
        · exact Or.inr ⟨by rw [wanted_put oi a oj.dst u a3]; exact hw, e⟩
      have hfree' : ∀ k ok, ops[k]? = some ok → k ≠ i → (listed.setIfInBounds j true).getD k true = false →
          (∀ e ∈ ok.after, Region.binds md e = true → e.on ≠ i) → oi.apart ops ok = true := fun k ok hk hki hun hno => by
        refine hfree k ok hk hki ?_ hno
        by_cases hjk : j = k
        · subst hjk; exact hjun
        · rw [getD_set_ne true hjk] at hun; exact hun
      have next : ∀ (b : Act) (S' : World → Prop), StableW S' → (∀ w, S' w → S0 w) → YieldsM P ops S0 oi v b →
          anyM P md ops S0 Q fuel ((listed.setIfInBounds i true).setIfInBounds j true) (b.put oi.dst v) S' → anyM P md ops S0 Q (fuel + 1) (listed.setIfInBounds j true) b S' := fun b S' h1 h2 h3 h4 => by
        refine ih (listed.setIfInBounds j true) b S' h1 h2 hfree' (ready_mono hr (Ne.symm hji)) h3 ?_
        rw [Array.setIfInBounds_comm _ _ hji]
        exact h4
      unfold opM at h1 ⊢
      simp only [hoj] at h1 ⊢
      rw [wanted_put oj a oi.dst v a1] at h1
      by_cases hw : Region.wanted oj (yielded ops a.tmps) = true
      · simp only [hw, if_true] at h1 ⊢
        rcases h1 with ⟨u, hu, hk⟩ | hl
        · refine Or.inl ⟨u, hu.of_put hsj a1, next _ S hst hs0 (keep u) ?_⟩
          rw [← Act.put_comm a v u a2]; exact hk
        · refine Or.inr ?_
          obtain ⟨ι, val, T, hst', hs0', hw', hk⟩ := hl.of_put hsj a1 a2
          exact ⟨ι, val, T, hst', hs0', hw', fun x => next _ _ (hst' x) (hs0' x) (keep (val x)) (hk x).2.2⟩
      · simp only [hw] at h1 ⊢
        refine next _ S hst hs0 (keep undef) ?_
        rw [← Act.put_comm a v undef a2]; exact h1

/-- The operations before k are done, and no others. -/
def DoneTo (ops : Array Oper) (k : Nat) (listed : Array Bool) : Prop := listed.size = ops.size ∧ ∀ j, j < ops.size → ∀ d, listed.getD j d = decide (j < k)
theorem DoneTo.start : DoneTo ops 0 (Array.replicate ops.size false) := ⟨by simp, fun j hj d => by simp [hj]⟩
theorem DoneTo.step {k : Nat} {listed : Array Bool} (h : DoneTo ops k listed) : DoneTo ops (k + 1) (listed.setIfInBounds k true) := by
  refine ⟨by simp [h.1], fun j hj d => ?_⟩
  by_cases e : k = j
  · subst e
    have : k < listed.size := by rw [h.1]; exact hj
    simp [this]
  · rw [getD_set_ne d e, h.2 j hj d, decide_eq_decide]; omega

theorem head_lex (hs : Region.noSelect ops = true) {b : Act} {S : World → Prop} (hst : StableW S) (hs0 : ∀ w, S w → S0 w) (f : Nat) :
    ∀ (l : List Oper) (k : Nat) (listed : Array Bool) (a : Act), DoneTo ops k listed → (∀ j o, l[j]? = some o → ops[k + j]? = some o) → Region.lexFrom md ops (l.length + f) k listed = true →
      hdMix P ops S0 l a b → (∀ listed', DoneTo ops (k + l.length) listed' → Region.lexFrom md ops f (k + l.length) listed' = true → anyM P md ops S0 Q f listed' b S) → anyM P md ops S0 Q (l.length + f) listed a S
  | [], k, listed, a, hd, _, hB, h, hK => by
    have e : a = b := h
    subst e
    simp only [List.length_nil, Nat.zero_add] at hB ⊢
    exact hK listed hd hB
  | o :: l, k, listed, a, hd, hl, hB, h, hK => by
    have h0 : ops[k]? = some o := by simpa using hl 0 o rfl
    have e1 : (o :: l).length + f = (l.length + f) + 1 := by simp; omega
    rw [e1] at hB ⊢
    simp only [Region.lexFrom, Bool.and_eq_true] at hB
    obtain ⟨⟨hr, hf⟩, hB'⟩ := hB
    have step : ∀ v, hdMix P ops S0 l (a.put o.dst v) b → anyM P md ops S0 Q (l.length + f) (listed.setIfInBounds k true) (a.put o.dst v) S := fun v hv =>
      head_lex hs hst hs0 f l (k + 1) _ _ hd.step (fun j o' hj => by have := hl (j + 1) o' (by simpa using hj); rw [← this]; congr 1; omega) hB' hv
        (fun listed' hd' hB2 => by
          have e : k + 1 + l.length = k + (o :: l).length := by simp; omega
          rw [e] at hd' hB2
          exact hK listed' hd' hB2)
    unfold hdMix at h
    by_cases hw : Region.wanted o (yielded ops a.tmps) = true
    · simp only [hw, if_true] at h
      obtain ⟨v, hv, hh⟩ := h
      exact anyM_first h0 (Region.noSelect_spec hs) _ listed a S hst hs0 (Region.free_spec h0 hf) (by simpa using hr) (Or.inl ⟨hw, hv⟩) (step v hh)
    · simp only [hw] at h
      exact anyM_first h0 (Region.noSelect_spec hs) _ listed a S hst hs0 (Region.free_spec h0 hf) (by simpa using hr) (Or.inr ⟨by simpa using hw, rfl⟩) (step undef h)

theorem tail_lex {n : Nat} (hc : Region.chainB md ops n = true) :
    ∀ (l : List Oper) (k : Nat) (listed : Array Bool) (a : Act) (S : World → Prop), n ≤ k → DoneTo ops k listed → (∀ j, l[j]? = ops[k + j]?) → Region.lexFrom md ops l.length k listed = true →
      tailM P ops S0 Q l a S → anyM P md ops S0 Q l.length listed a S
  | [], k, listed, a, S, _, _, _, hB, h => ⟨by simpa [Region.lexFrom] using hB, h⟩
  | o :: l, k, listed, a, S, hn, hd, hl, hB, h => by
    have h0 : ops[k]? = some o := by simpa using (hl 0).symm
    have hkz : k < ops.size := (Array.getElem?_eq_some_iff.1 h0).1
    simp only [List.length_cons, Region.lexFrom, Bool.and_eq_true] at hB
    obtain ⟨⟨hr, hf⟩, hB'⟩ := hB
    have hr' : k ∈ Region.ready md ops listed := by simpa using hr
    refine ⟨fun e => (by rw [e] at hr'; cases hr'), fun i hi => ?_⟩
    have hik : i = k := by
      obtain ⟨hun, oi, hoi, hall⟩ := mem_ready.1 hi
      have hiz : i < ops.size := (Array.getElem?_eq_some_iff.1 hoi).1
      have h1 := hd.2 i hiz true
      rw [hun] at h1
      have h2 : ¬ i < k := of_decide_eq_false h1.symm
      rcases Nat.lt_or_eq_of_le (Nat.le_of_not_lt h2) with h3 | h3
      · have h4 := List.all_eq_true.1 hc i (List.mem_range.2 hiz)
        simp only [Bool.or_eq_true, decide_eq_true_eq] at h4
        rcases h4 with h4 | h4
        · omega
        · obtain ⟨o', ho', e, he, hb, hon⟩ := Region.waitsFor_spec h4
          have : o' = oi := Option.some.inj (ho'.symm.trans hoi)
          subst this
          have h5 := hall e he hb
          rw [hon, hd.2 (i - 1) (by omega) false] at h5
          have := of_decide_eq_true h5
          omega
      · exact h3.symm
    subst hik
    have step : ∀ b S', tailM P ops S0 Q l b S' → anyM P md ops S0 Q l.length (listed.setIfInBounds i true) b S' := fun b S' hb =>
      tail_lex hc l (i + 1) _ b S' (by omega) hd.step (fun j => by have := hl (j + 1); simpa [Nat.add_assoc, Nat.add_comm 1 j] using this) hB' hb
    unfold opM
    unfold tailM at h
    simp only [h0]
    by_cases hw : Region.wanted o (yielded ops a.tmps) = true
    · simp only [hw, if_true] at h ⊢
      exact Or.inr (h.mono fun a' S' _ _ hk => step a' S' hk)
    · simp only [hw] at h ⊢
      exact step _ S h

/-- The slots that the head writes: all different, and there. -/
def dstsB : List Oper → Nat → Bool
  | [], _ => true
  | o :: l, n => (match o.dst with
    | some d => decide (d < n) && l.all fun o' => o'.dst != some d
    | none => false) && dstsB l n
theorem quiet_keeps {C : World → Prop} {b : Act} {d : Tmp} : ∀ (l : List Oper) (a : Act), (l.all fun o' => o'.dst != some d) = true → wpQuiet P ops C (fun a' => a' = b) l a → b.tmps[d]? = a.tmps[d]?
  | [], a, _, h => by have e : a = b := h; rw [e]
  | o :: l, a, hl, h => by
    simp only [List.all_cons, Bool.and_eq_true] at hl
    have hne : o.dst ≠ some d := by simpa using hl.1
    have key : ∀ v, wpQuiet P ops C (fun a' => a' = b) l (a.put o.dst v) → b.tmps[d]? = a.tmps[d]? := fun v hv => by
      rw [quiet_keeps l _ hl.2 hv]
      cases ho : o.dst with
      | none => rfl
      | some c =>
        have : c ≠ d := fun e => hne (by rw [ho, e])
        simp [Act.put, Array.getElem?_setIfInBounds_ne this]
    unfold wpQuiet at h
    by_cases hw : Region.wanted o (yielded ops a.tmps) = true
    · simp only [hw, if_true] at h
      obtain ⟨v, _, hv⟩ := h
      exact key v hv
    · simp only [hw] at h
      exact key undef h
theorem head_of_quiet {b : Act} : ∀ (l : List Oper) (a : Act), dstsB l a.tmps.size = true → (∃ w, S0 w) → (∀ w, S0 w → wpQuiet P ops (ByW w) (fun a' => a' = b) l a) → hdMix P ops S0 l a b
  | [], a, _, ⟨w, hw⟩, h => h w hw
  | o :: l, a, hd, ⟨w0, hw0⟩, h => by
    unfold dstsB at hd
    rw [Bool.and_eq_true] at hd
    cases ho : o.dst with
    | none => rw [ho] at hd; simp at hd
    | some d =>
      rw [ho] at hd
      simp only [Bool.and_eq_true, decide_eq_true_eq] at hd
      obtain ⟨⟨hdz, hdl⟩, hd2⟩ := hd
      unfold hdMix
      by_cases hw : Region.wanted o (yielded ops a.tmps) = true
      · simp only [hw, if_true]
        have hall : ∀ w, S0 w → ∃ v, (∀ w', ByW w w' → o.quietAt P a (ByW w) w' v) ∧ wpQuiet P ops (ByW w) (fun a' => a' = b) l (a.put o.dst v) := fun w hS => by
          have := h w hS
          unfold wpQuiet at this
          simp only [hw, if_true] at this
          exact this
        obtain ⟨v0, h1, h2⟩ := hall w0 hw0
        have uni : ∀ w v, wpQuiet P ops (ByW w) (fun a' => a' = b) l (a.put o.dst v) → b.tmps[d]? = some v := fun w v hv => by
          rw [quiet_keeps l _ hdl hv, ho]
          simp [Act.put, hdz]
        refine ⟨v0, fun w hS => ?_, ?_⟩
        · obtain ⟨v, h3, h4⟩ := hall w hS
          have e : v = v0 := Option.some.inj ((uni w v h4).symm.trans (uni w0 v0 h2))
          rw [← e]
          exact h3 w ⟨⟨w, Below.refl _ _⟩, rfl⟩
        · refine head_of_quiet l _ (by rw [put_size]; exact hd2) ⟨w0, hw0⟩ fun w hS => ?_
          obtain ⟨v, h3, h4⟩ := hall w hS
          have e : v = v0 := Option.some.inj ((uni w v h4).symm.trans (uni w0 v0 h2))
          rw [← e]
          exact h4
      · simp only [hw]
        refine head_of_quiet l _ (by rw [put_size]; exact hd2) ⟨w0, hw0⟩ fun w hS => ?_
        have := h w hS
        unfold wpQuiet at this
        simp only [hw] at this
        exact this

/-- **The law.** n: how many operations stand before the first that writes or makes memory. S0: what is known of every world in which an operation of the region may come up. S1: what is known besides, as long as none of those that write or make memory has come up. -/
theorem wp_region_mix {id : Nat} {Q' : Exit → Act → World → Prop} {a : Act} {w : World} {l : List Oper} (n : Nat) (S0 S1 : World → Prop) (hm : P.follows .mixedOrders = true)
    (hB : Region.lexB .any l.toArray = true) (hc : Region.chainB .any l.toArray n = true) (hd : dstsB (l.take n) a.tmps.size = true) (hst : StableW S1) (h10 : ∀ W, S1 W → S0 W) (h1 : S1 w.drew)
    (hh : ∃ b, (∀ W, S0 W → wpQuiet P l.toArray (ByW W) (fun a' => a' = b) (l.take n) a) ∧ tailM P l.toArray S0 (fun a' w' => Q' .normal a' w') (l.drop n) b S1) :
    (Code.region id l.toArray true).wp P Q' a w := by
  obtain ⟨b, hq, ht⟩ := hh
  simp only [Region.lexB, Bool.and_eq_true] at hB
  refine wp_region_any hm (anyM_sound (Q := fun a' w' => Q' .normal a' w') (S0 := S0) (fun _ _ h => h) _ _ _ S1 hst h10 ?_ _ h1)
  have hlen : l.toArray.size = (l.take n).length + (l.drop n).length := by
    rw [List.size_toArray, ← List.length_append, List.take_append_drop]
  rw [hlen]
  refine head_lex hB.1 hst h10 (l.drop n).length (l.take n) 0 _ a (by rw [← hlen]; exact DoneTo.start) (fun j o hj => ?_) (by rw [← hlen]; exact hB.2) (head_of_quiet _ _ hd ⟨_, h10 _ h1⟩ hq) (fun listed' hd' hB' => ?_)
  · rw [List.getElem?_take] at hj
    rw [Nat.zero_add, List.getElem?_toArray]
    split at hj
    · exact hj
    · cases hj
  · rcases Nat.lt_or_ge n l.length with hn | hn
    · have e : (l.take n).length = n := by rw [List.length_take]; omega
      rw [e, Nat.zero_add] at hd' hB'
      exact tail_lex hc (l.drop n) n listed' b S1 (Nat.le_refl _) hd' (fun j => by rw [List.getElem?_drop, List.getElem?_toArray]) hB' ht
    · have e : l.drop n = [] := List.drop_of_length_le hn
      rw [e] at ht hB' ⊢
      exact ⟨by simpa [Region.lexFrom] using hB', ht⟩

/-- One operation of the tail: from every world of the class it hands back a value and leaves a world of another class. -/
theorem tailM_step {o : Oper} {rest : List Oper} {a : Act} {S : World → Prop} {ι : Type} (val : ι → Value) (T : ι → World → Prop) (hw : Region.wanted o (yielded ops a.tmps) = true) (hst : ∀ x, StableW (T x)) (hs0 : ∀ x w, T x w → S0 w)
    (hrun : ∀ w, S w → ∀ K : Act → World → Prop, (∀ x w', T x w' → K (a.put o.dst (val x)) w') → o.wp P a w K (fun _ _ _ => False)) (hk : ∀ x, tailM P ops S0 Q rest (a.put o.dst (val x)) (T x)) : tailM P ops S0 Q (o :: rest) a S := by
  unfold tailM
  rw [if_pos hw]
  exact ⟨ι, val, T, hst, hs0, fun w hS => hrun w hS _ fun x w' hT => ⟨x, rfl, hT⟩, hk⟩
/-- .. that hands back one value and turns nothing. -/
theorem tailM_pure {o : Oper} {rest : List Oper} {a : Act} {S : World → Prop} (v : Value) (hw : Region.wanted o (yielded ops a.tmps) = true) (hst : StableW S) (hs0 : ∀ w, S w → S0 w)
    (hrun : ∀ w, S w → ∀ K : Act → World → Prop, K (a.put o.dst v) w → o.wp P a w K (fun _ _ _ => False)) (hk : tailM P ops S0 Q rest (a.put o.dst v) S) : tailM P ops S0 Q (o :: rest) a S :=
  tailM_step (ι := Unit) (fun _ => v) (fun _ => S) hw (fun _ => hst) (fun _ => hs0) (fun w hS K hK => hrun w hS K (hK () w hS)) fun _ => hk
theorem tailM_nil {a : Act} {S : World → Prop} (h : ∀ w, S w → Q a w) : tailM P ops S0 Q [] a S := h
end

theorem StableW.below (B : Nat) (w : World) (hB : B ≤ w.heap.size) : StableW fun W => Below B w W := fun _ _ h h' => h.trans (h'.mono (Nat.le_trans hB h.size))
theorem StableW.and {S T : World → Prop} (h : StableW S) (k : StableW T) : StableW fun W => S W ∧ T W := fun _ _ h1 h2 => ⟨h _ _ h1.1 h2, k _ _ h1.2 h2⟩
theorem StableW.row (b : Nat) (o : Obj) : StableW fun W => W.heap[b]? = some o := fun _ _ h h2 => row_later h2 h
theorem StableW.const (p : Prop) : StableW fun _ => p := fun _ _ h _ => h
theorem StableW.owns (B : Nat) (e : TypeId) (size : Nat) (v : Value) (n : Nat) (xs : List Value) : StableW fun W => W.ownsRow B e size v n xs := fun _ _ h h2 => own_later h h2
end Go.Proofs.YtapllmniplgajaaGreatDoor

namespace Go.Proofs.YtapllmniplgajaaGreatDoor
open Go.RowKit Go.Sort

theorem filterMap_at {α β : Type} (f : α → Option β) : ∀ l : List α, (l.all fun x => (f x).isSome) = true → ∀ (i : Nat) (x : α), l[i]? = some x → ∃ y, f x = some y ∧ (l.filterMap f)[i]? = some y
  | [], _, i, x, h => by simp at h
  | z :: l, h, i, x, hx => by
    rw [List.all_cons, Bool.and_eq_true] at h
    obtain ⟨y, hy⟩ := Option.isSome_iff_exists.1 h.1
    rw [List.filterMap_cons_some hy]
    cases i with
    | zero =>
      obtain rfl : z = x := by simpa using hx
      exact ⟨y, hy, rfl⟩
    | succ i =>
      obtain ⟨q, h1, h2⟩ := filterMap_at f l h.2 i x (by simpa using hx)
      exact ⟨q, h1, by simpa using h2⟩
theorem nodeAt_of {l : List ObjD} {r : ByteArray} {q : Int × Int} (h : nodeAt l r = some q) : ∃ (j : Nat) (o : ObjD), posO r l = some j ∧ l[j]? = some o ∧ o.kind = 1 ∧ q = (o.x, o.y) := by
  cases hp : posO r l with
  | none => rw [nodeAt_none l r hp] at h; cases h
  | some j =>
    obtain ⟨o, ho, _⟩ := posO_some r l j hp
    rw [nodeAt_some l r j hp o ho] at h
    split at h
    · rename_i hk
      exact ⟨j, o, rfl, ho, hk, (Option.some.inj h).symm⟩
    · cases h
theorem anchor_cases {l : List ObjD} (hok : mapOK l = true) {k : Nat} {o : ObjD} (ho : l[k]? = some o) {p : Int × Int} (hp : anchorO l o = some p) :
    (o.kind = 1 ∧ p = (o.x, o.y)) ∨ ((o.kind = 2 ∨ o.kind = 3) ∧ (o.refs.all fun r => (nodeAt l r).isSome) = true ∧ anchorP o.kind (o.refs.filterMap (nodeAt l)) = some p) := by
  unfold anchorO at hp
  rw [ptsO_some l o.id hok k (pos_self hok ho) o ho] at hp
  unfold ptsK at hp
  by_cases h1 : o.kind = 1
  · rw [if_pos h1] at hp
    simp only [if_true] at hp
    refine Or.inl ⟨h1, ?_⟩
    unfold anchorP at hp
    rw [if_neg (by simp), if_neg (by omega)] at hp
    simpa using hp.symm
  · rw [if_neg h1] at hp
    by_cases h23 : o.kind = 2 ∨ o.kind = 3
    · rw [if_pos h23] at hp
      cases hs : o.refs.all fun r => (nodeAt l r).isSome with
      | false => rw [hs] at hp; simp at hp
      | true => rw [hs] at hp; exact Or.inr ⟨h23, rfl, hp⟩
    · rw [if_neg h23] at hp
      simp at hp

set_option maxRecDepth 100000 in
set_option maxHeartbeats 4000000 in
theorem rpoint2_any (v vr vt : Value) (l : List ObjD) (o : ObjD) (w : World) (hv : ObjsIs w v l) (hr : StrRow w vr o.refs) (ht : TagRow w vt o.tags) (hk : o.kind = 2) (hs : (o.refs.all fun r => (nodeAt l r).isSome) = true) (p : Int × Int) (hp : anchorP o.kind (o.refs.filterMap (nodeAt l)) = some p) (hz : o.refs.length ≤ 2000) :
    Calls Tryz.prog 48 #[.agg #[v], .agg #[.string o.id, .int .i64 o.kind, .int .i64 o.x, .int .i64 o.y, vr, vt]] w fun e w' => e = .returned (.agg #[.int .i64 p.1, .int .i64 p.2]) ∧ Below w.heap.size w w' := by
  have mixed : Tryz.prog.follows .mixedOrders = true := by kernel_rfl
  have FD := Lib.hid (fun id w' (hb : Below w.heap.size w w') => rfind12_any v l id w' (hv.later hb))
  have hlen := filterMap_all (nodeAt l) o.refs hs
  have hne : o.refs.filterMap (nodeAt l) ≠ [] := by
    intro e; unfold anchorP at hp; rw [if_pos e] at hp; cases hp
  have hpos : 0 < o.refs.length := by rw [← hlen]; exact List.length_pos_iff.2 hne
  unfold anchorP at hp
  rw [if_neg hne, if_neg (by omega), hlen] at hp
  obtain ⟨h, hh⟩ : ∃ h, o.refs.length / 2 = h := ⟨_, rfl⟩
  rw [hh] at hp
  have hhl : h < o.refs.length := by omega
  obtain ⟨r, hr0⟩ : ∃ r, o.refs[h]? = some r := ⟨_, List.getElem?_eq_getElem hhl⟩
  obtain ⟨q, hq1, hq2⟩ := filterMap_at (nodeAt l) o.refs hs h r hr0
  obtain rfl : p = q := by rw [hp] at hq2; exact (Option.some.inj hq2)
  obtain ⟨j, o', hj, ho', -, rfl⟩ := nodeAt_of hq1
  have hidx : idxO r l = j := by unfold idxO; rw [hj]
  have hjl : j < l.length := (List.getElem?_eq_some_iff.1 ho').1
  clear hp hq2 hq1 hne hlen hs hj
  rw [hk]
  obtain ⟨a, cap, rfl, hln, hc⟩ := hv
  obtain ⟨ar, capr, rfl, hrl, -, hrc⟩ := hr
  obtain ⟨at1, capt, rfl, _⟩ := ht
  obtain ⟨N, hN⟩ : ∃ N, l.length = N := ⟨_, rfl⟩
  obtain ⟨M, hM⟩ : ∃ M, o.refs.length = M := ⟨_, rfl⟩
  rw [hN] at hln hc FD ⊢
  rw [hM] at hrl hrc ⊢
  have HN := Lib.hid hN
  have HM := Lib.hid hM
  have HC := Lib.hid hc
  have HRC := Lib.hid hrc
  clear hN hM hc hrc
  go_enter Tryz.func48, Tryz.ntmps48
  go_wp2_with fail
  have q1 : (M : Int).tdiv 2 = (h : Int) := by rw [Int.tdiv_eq_ediv_of_nonneg (by omega), ← HM.out]; omega
  have q2 : (M : Int) / 2 = (h : Int) := by rw [← HM.out]; omega
  have q3 : IntKind.i64.wrap (h : Int) = (h : Int) := IntWalk.i64_in _ (by omega)
  clear hh
  go_wp2_with fail
  have B1 : Below w.heap.size w (((w.alloc (.cells #[.slice a N cap] 35)).alloc (.cells #[.string o.id, .int .i64 2, .int .i64 o.x, .int .i64 o.y, .slice ar M capr, .slice at1 o.tags.length capt] 59)).alloc (.cells #[.int .i64 0, .int .i64 0] 24)) := (((Below.refl _ w).alloc (Nat.le_refl _) _).alloc (by simp) _).alloc (by simp; omega) _
  have HA := row_past (o' := .cells #[.int .i64 0, .int .i64 0] 24) (row_past (o' := .cells #[.string o.id, .int .i64 2, .int .i64 o.x, .int .i64 o.y, .slice ar M capr, .slice at1 o.tags.length capt] 59) (row_new w (.cells #[.slice a N cap] 35)))
  have HO := row_past (o' := .cells #[.int .i64 0, .int .i64 0] 24) (row_new1 w (.cells #[.slice a N cap] 35) (.cells #[.string o.id, .int .i64 2, .int .i64 o.x, .int .i64 o.y, .slice ar M capr, .slice at1 o.tags.length capt] 59))
  have HR := row_new2 w (.cells #[.slice a N cap] 35) (.cells #[.string o.id, .int .i64 2, .int .i64 o.x, .int .i64 o.y, .slice ar M capr, .slice at1 o.tags.length capt] 59) (.cells #[.int .i64 0, .int .i64 0] 24)
  generalize hw1 : ((w.alloc (.cells #[.slice a N cap] 35)).alloc (.cells #[.string o.id, .int .i64 2, .int .i64 o.x, .int .i64 o.y, .slice ar M capr, .slice at1 o.tags.length capt] 59)).alloc (.cells #[.int .i64 0, .int .i64 0] 24) = w1
  rw [hw1] at B1 HA HO HR
  have hws : w1.heap.size = w.heap.size + 3 := by rw [← hw1]; simp
  clear hw1
  obtain ⟨R, hR⟩ : ∃ R, w.heap.size + 2 = R := ⟨_, rfl⟩
  have hR2 : w.heap.size + 1 + 1 = R := by omega
  rw [hR] at HR
  rw [hR2]
  have hRz := lt_of_block HR
  have hjN : j < N := by have := HN.out; omega
  have hhM : h < M := by have := HM.out; omega
  obtain ⟨bo, offo, rfl, hcell⟩ := HC.out (by omega)
  obtain ⟨vr', vt', -, -, c2, c3, -, -, -, -, -⟩ := hcell j o' ho'
  obtain ⟨br, offr, rfl, hcr⟩ := HRC.out (by omega)
  have cr := hcr h r hr0
  have hzw : w.heap.size < R := by omega
  have hzw1 : w.heap.size + 1 < R := by omega
  have jb : (0 : Int) ≤ (j : Int) := by omega
  have jb2 : (j : Int) < (N : Int) := by omega
  have hb : (0 : Int) ≤ (h : Int) := by omega
  have hb2 : (h : Int) < (M : Int) := by omega
  clear hR hR2 hcell hcr ho' hr0 hjl hhl hws
  have HAh := Lib.hid HA
  have HOh := Lib.hid HO
  have HRh := Lib.hid HR
  have C2 := Lib.hid c2
  have C3 := Lib.hid c3
  have CR := Lib.hid cr
  have HID := Lib.hid hidx
  clear HA HO HR c2 c3 cr hidx
  refine wp_region_mix 13 (fun W => Below R w1 W) (fun W => Below w1.heap.size w1 W) mixed (by kernel_rfl) (by kernel_rfl) (by kernel_rfl) (StableW.below _ _ (Nat.le_refl _)) (fun W hW => hW.mono (by omega)) (Below.refl _ _).drew ?_
  apply Exists.intro
  refine ⟨fun W hW => ?_, ?_⟩
  · have BW : Below w.heap.size w W := B1.trans (hW.mono (by omega))
    have HA := (hW.block _ hzw).trans HAh.out
    have HO := (hW.block _ hzw1).trans HOh.out
    have mz := lt_of_block HA
    have m0 := cell_of_row W _ 0 _ _ _ HA
    simp only [List.getElem?_toArray, List.getElem?_cons_zero] at m0
    have HA' := Lib.hid HA
    clear HA
    have xz := lt_of_block HO
    have x0 := cell_of_row W _ 0 _ _ _ HO
    have x1 := cell_of_row W _ 1 _ _ _ HO
    have x2 := cell_of_row W _ 2 _ _ _ HO
    have x3 := cell_of_row W _ 3 _ _ _ HO
    have x4 := cell_of_row W _ 4 _ _ _ HO
    have x5 := cell_of_row W _ 5 _ _ _ HO
    simp only [List.getElem?_toArray, List.getElem?_cons_zero, List.getElem?_cons_succ] at x0 x1 x2 x3 x4 x5
    have HO' := Lib.hid HO
    clear HO
    have d0 := cell_belowBy m0
    have d1 := cell_belowBy x4
    have d2 := cell_belowBy (cell_later BW C2.out)
    have d3 := cell_belowBy (cell_later BW C3.out)
    have d4 := cell_belowBy (cell_later BW CR.out)
    have FDW := Lib.hid (fun w' (hb : Below W.heap.size W w') => by
      have := FD.out r w' (below_step BW (Nat.le_refl _) hb)
      rw [HID.out] at this
      exact this)
    clear m0 x0 x1 x2 x3 x4 x5
    simp only [List.take_succ_cons, List.take_zero]
    repeat (go_big_quiet_step (first | (go_at_call 32; exact calls_belowBy (FDW.out _ (BelowBy.below _)))))
    exact wpQuiet_nil rfl
  · simp only [List.drop_succ_cons, List.drop_zero]
    refine tailM_step (ι := Unit) (fun _ => undef) (fun _ W => Below R w1 W ∧ W.heap[R]? = some (.cells #[.int .i64 o'.x, .int .i64 o'.y] 24)) rfl (fun _ => (StableW.below _ _ (by omega)).and (StableW.row _ _)) (fun _ W h => h.1) (fun W hS K hK => ?_) (fun _ => tailM_nil fun W hW => ?_)
    · have HR := row_later hS HRh.out
      have rz := lt_of_block HR
      have r0 := cell_of_row W _ 0 _ _ _ HR
      have r1 := cell_of_row W _ 1 _ _ _ HR
      have rf0 := frozen_of_row W _ 0 _ _ HR
      have rf1 := frozen_of_row W _ 1 _ _ HR
      simp only [List.getElem?_toArray, List.getElem?_cons_zero, List.getElem?_cons_succ] at r0 r1
      have HR' := Lib.hid HR
      clear HR
      go_simp
      exact hK () _ ⟨((hS.mono (Nat.le_of_lt hRz)).setCell (p := ⟨R, 0, none⟩) (Nat.le_refl _) _).setCell (p := ⟨R, 1, none⟩) (Nat.le_refl _) _, row_set (i := 1) (row_set (i := 0) HR'.out)⟩
    · obtain ⟨hW1, HR⟩ := hW
      have BW : Below w.heap.size w W := B1.trans (hW1.mono (by omega))
      have rz := lt_of_block HR
      have r0 := cell_of_row W _ 0 _ _ _ HR
      have r1 := cell_of_row W _ 1 _ _ _ HR
      simp only [List.getElem?_toArray, List.getElem?_cons_zero, List.getElem?_cons_succ] at r0 r1
      have HR' := Lib.hid HR
      clear HR
      simp only [Act.put]
      go_wp2
      refine bodyPost_ret (v := .agg #[.int .i64 o'.x, .int .i64 o'.y]) ?_ rfl ⟨rfl, BW⟩
      simp [results, Tryz.results48, go_sem, r0, r1]

def sumX (ps : List (Int × Int)) : Int := (ps.map (·.1)).sum
def sumY (ps : List (Int × Int)) : Int := (ps.map (·.2)).sum
set_option maxRecDepth 100000 in
set_option maxHeartbeats 4000000 in
theorem rpoint3_any (v vr vt : Value) (l : List ObjD) (o : ObjD) (w : World) (hv : ObjsIs w v l) (hr : StrRow w vr o.refs) (ht : TagRow w vt o.tags) (hok : mapOK l = true) (hk : o.kind = 3) (hs : (o.refs.all fun r => (nodeAt l r).isSome) = true) (p : Int × Int) (hp : anchorP o.kind (o.refs.filterMap (nodeAt l)) = some p) (hz : o.refs.length ≤ 2000) :
    Calls Tryz.prog 48 #[.agg #[v], .agg #[.string o.id, .int .i64 o.kind, .int .i64 o.x, .int .i64 o.y, vr, vt]] w fun e w' => e = .returned (.agg #[.int .i64 p.1, .int .i64 p.2]) ∧ Below w.heap.size w w' := by
  have mixed : Tryz.prog.follows .mixedOrders = true := by kernel_rfl
  have FD := Lib.hid (fun id w' (hb : Below w.heap.size w w') => rfind12_any v l id w' (hv.later hb))
  have hlen := filterMap_all (nodeAt l) o.refs hs
  have hne : o.refs.filterMap (nodeAt l) ≠ [] := by
    intro e; unfold anchorP at hp; rw [if_pos e] at hp; cases hp
  have hpos : 0 < o.refs.length := by rw [← hlen]; exact List.length_pos_iff.2 hne
  unfold anchorP at hp
  rw [if_neg hne, if_pos hk, hlen] at hp
  have HAT := Lib.hid (filterMap_at (nodeAt l) o.refs hs)
  have HON := Lib.hid (show ∀ q ∈ o.refs.filterMap (nodeAt l), onG q from fun q hq => by
    obtain ⟨r, _, e⟩ := List.mem_filterMap.1 hq
    exact node_on hok e)
  generalize o.refs.filterMap (nodeAt l) = ps at hp hlen HAT HON
  obtain ⟨px, py⟩ := p
  simp only [Option.some.injEq, Prod.mk.injEq] at hp
  obtain ⟨hpx, hpy⟩ := hp
  have HPX := Lib.hid (show sumX ps / (o.refs.length : Int) = px from hpx)
  have HPY := Lib.hid (show sumY ps / (o.refs.length : Int) = py from hpy)
  clear hpx hpy hne hs hok
  rw [hk]
  obtain ⟨a, cap, rfl, hln, hc⟩ := hv
  obtain ⟨ar, capr, rfl, hrl, -, hrc⟩ := hr
  obtain ⟨at1, capt, rfl, _⟩ := ht
  obtain ⟨N, hN⟩ : ∃ N, l.length = N := ⟨_, rfl⟩
  obtain ⟨M, hM⟩ : ∃ M, o.refs.length = M := ⟨_, rfl⟩
  rw [hN] at hln hc FD ⊢
  rw [hM] at hrl hrc ⊢
  have HN := Lib.hid hN
  have HM := Lib.hid hM
  have HC := Lib.hid hc
  have HRC := Lib.hid hrc
  clear hN hM hc hrc
  go_enter Tryz.func48, Tryz.ntmps48
  go_wp2_with fail
  have HL := Lib.hid hlen
  rw [HM.out] at HPX HPY HL
  clear hlen
  have B1 : Below w.heap.size w (((w.alloc (.cells #[.slice a N cap] 35)).alloc (.cells #[.string o.id, .int .i64 3, .int .i64 o.x, .int .i64 o.y, .slice ar M capr, .slice at1 o.tags.length capt] 59)).alloc (.cells #[.int .i64 0, .int .i64 0] 24)) := (((Below.refl _ w).alloc (Nat.le_refl _) _).alloc (by simp) _).alloc (by simp; omega) _
  have HA := row_past (o' := .cells #[.int .i64 0, .int .i64 0] 24) (row_past (o' := .cells #[.string o.id, .int .i64 3, .int .i64 o.x, .int .i64 o.y, .slice ar M capr, .slice at1 o.tags.length capt] 59) (row_new w (.cells #[.slice a N cap] 35)))
  have HO := row_past (o' := .cells #[.int .i64 0, .int .i64 0] 24) (row_new1 w (.cells #[.slice a N cap] 35) (.cells #[.string o.id, .int .i64 3, .int .i64 o.x, .int .i64 o.y, .slice ar M capr, .slice at1 o.tags.length capt] 59))
  have HR := row_new2 w (.cells #[.slice a N cap] 35) (.cells #[.string o.id, .int .i64 3, .int .i64 o.x, .int .i64 o.y, .slice ar M capr, .slice at1 o.tags.length capt] 59) (.cells #[.int .i64 0, .int .i64 0] 24)
  generalize hw1 : ((w.alloc (.cells #[.slice a N cap] 35)).alloc (.cells #[.string o.id, .int .i64 3, .int .i64 o.x, .int .i64 o.y, .slice ar M capr, .slice at1 o.tags.length capt] 59)).alloc (.cells #[.int .i64 0, .int .i64 0] 24) = w1
  rw [hw1] at B1 HA HO HR
  have hws : w1.heap.size = w.heap.size + 3 := by rw [← hw1]; simp
  clear hw1
  obtain ⟨R, hR⟩ : ∃ R, w.heap.size + 2 = R := ⟨_, rfl⟩
  have hR2 : w.heap.size + 1 + 1 = R := by omega
  rw [hR] at HR
  rw [hR2]
  have hRz := lt_of_block HR
  have hMp : 0 < M := by have := HM.out; omega
  have hMz : M ≤ 2000 := by have := HM.out; omega
  obtain ⟨br, offr, rfl, hcr⟩ := HRC.out (by omega)
  have hzw : w.heap.size < R := by omega
  have hzw1 : w.heap.size + 1 < R := by omega
  have HCR := Lib.hid hcr
  have HAh := Lib.hid HA
  have HOh := Lib.hid HO
  have HRh := Lib.hid HR
  have hws2 : w1.heap.size = R + 1 := by omega
  clear hR hR2 hcr HA HO HR hws
  have HP := row_new w1 (.cells #[.int .i64 0, .int .i64 0] 24)
  have B2 : Below w1.heap.size w1 (w1.alloc (.cells #[.int .i64 0, .int .i64 0] 24)) := (Below.refl _ _).alloc (Nat.le_refl _) _
  generalize hw2 : w1.alloc (.cells #[.int .i64 0, .int .i64 0] 24) = w2
  rw [hw2] at HP B2
  clear hw2
  obtain ⟨Bp, hBp⟩ : ∃ Bp, R + 1 = Bp := ⟨_, rfl⟩
  rw [hBp] at hws2 ⊢
  rw [hws2] at HP hRz B2
  have hBz := lt_of_block HP
  go_loopw [7] (fun i wr => ∃ k : Nat, k ≤ M ∧ i = .int .i64 k ∧ wr.heap[Bp]? = some (.cells #[.int .i64 (sumX (ps.take k)), .int .i64 (sumY (ps.take k))] 24) ∧ Below Bp w1 wr) (fun i _ => M - (intOf i).toNat)
  case atStart => exact ⟨0, by omega, rfl, HP, B2⟩
  case round =>
    clear HP hBz
    obtain ⟨k, hk', rfl, hrow, hbr⟩ := hrel
    have HROW := Lib.hid hrow
    have hBz := lt_of_block hrow
    have BR : Below w.heap.size w wr := B1.trans (hbr.mono (by omega))
    have HA2 := Lib.hid ((hbr.block _ (by omega)).trans HAh.out)
    have HO2 := Lib.hid ((hbr.block _ (by omega)).trans HOh.out)
    have HR2 := Lib.hid ((hbr.block _ hRz).trans HRh.out)
    clear hrow
    by_cases hlt : k < M
    · obtain ⟨r, hr0⟩ : ∃ r, o.refs[k]? = some r := ⟨o.refs[k]'(by rw [HM.out]; exact hlt), List.getElem?_eq_getElem _⟩
      obtain ⟨q, hq1, hq2⟩ := HAT.out k r hr0
      obtain ⟨st1, st2⟩ := sum_take ps k q hq2
      have hon := HON.out q (List.mem_of_getElem? hq2)
      have sb := sum_bd (ps.take k) fun x hx => HON.out x (List.mem_of_mem_take hx)
      rw [List.length_take] at sb
      have HS1 := Lib.hid (show sumX (ps.take (k + 1)) = sumX (ps.take k) + q.1 from st1)
      have HS2 := Lib.hid (show sumY (ps.take (k + 1)) = sumY (ps.take k) + q.2 from st2)
      have sb' : 0 ≤ sumX (ps.take k) ∧ sumX (ps.take k) ≤ 2097152000 ∧ 0 ≤ sumY (ps.take k) ∧ sumY (ps.take k) ≤ 2097152000 := by
        unfold sumX sumY; omega
      obtain ⟨sx, hsx⟩ : ∃ z, sumX (ps.take k) = z := ⟨_, rfl⟩
      obtain ⟨sy, hsy⟩ : ∃ z, sumY (ps.take k) = z := ⟨_, rfl⟩
      rw [hsx] at HS1 sb' HROW
      rw [hsy] at HS2 sb' HROW
      obtain ⟨j, o', hj, ho', -, rfl⟩ := nodeAt_of hq1
      have HID := Lib.hid (show idxO r l = j by unfold idxO; rw [hj])
      have hjN : j < N := by have := HN.out; have := (List.getElem?_eq_some_iff.1 ho').1; omega
      obtain ⟨bo, offo, rfl, hcell⟩ := HC.out (by omega)
      obtain ⟨vr', vt', -, -, c2, c3, -, -, -, -, -⟩ := hcell j o' ho'
      have C2 := Lib.hid c2
      have C3 := Lib.hid c3
      have CR := Lib.hid (HCR.out k r hr0)
      unfold onG at hon
      simp only [] at hon
      obtain ⟨ox, hox⟩ : ∃ z, o'.x = z := ⟨_, rfl⟩
      obtain ⟨oy, hoy⟩ : ∃ z, o'.y = z := ⟨_, rfl⟩
      rw [hox, hoy] at hon
      rw [hox] at C2 HS1
      rw [hoy] at C3 HS2
      have jb : (0 : Int) ≤ (j : Int) := by omega
      have jb2 : (j : Int) < (N : Int) := by omega
      clear hr0 hq1 hq2 st1 st2 sb hsx hsy hj ho' hcell c2 c3 hox hoy
      have HA3 := HA2.out
      have HO3 := HO2.out
      have HO4 := HO2.out
      have mz := lt_of_block HA3
      have m0 := cell_of_row wr _ 0 _ _ _ HA3
      simp only [List.getElem?_toArray, List.getElem?_cons_zero] at m0
      have HA3' := Lib.hid HA3
      clear HA3
      have xz := lt_of_block HO3
      have x0 := cell_of_row wr _ 0 _ _ _ HO3
      have x1 := cell_of_row wr _ 1 _ _ _ HO3
      have x2 := cell_of_row wr _ 2 _ _ _ HO3
      have x3 := cell_of_row wr _ 3 _ _ _ HO3
      have x4 := cell_of_row wr _ 4 _ _ _ HO3
      have x5 := cell_of_row wr _ 5 _ _ _ HO3
      simp only [List.getElem?_toArray, List.getElem?_cons_zero, List.getElem?_cons_succ] at x0 x1 x2 x3 x4 x5
      have HO3' := Lib.hid HO3
      clear HO3
      go_wp2_with fail
      clear m0 mz HA3' x0 x1 x2 x3 x4 x5 xz HO3' HO4
      refine wp_region_mix 12 (fun W => Below wr.heap.size wr W) (fun W => Below wr.heap.size wr W) mixed (by kernel_rfl) (by kernel_rfl) (by kernel_rfl) (StableW.below _ _ (Nat.le_refl _)) (fun _ h => h) (Below.refl _ _).drew ?_
      apply Exists.intro
      refine ⟨fun W hW => ?_, ?_⟩
      · have BW : Below w.heap.size w W := below_step BR (Nat.le_refl _) hW
        have HA := row_later hW HA2.out
        have HO := row_later hW HO2.out
        have mz := lt_of_block HA
        have m0 := cell_of_row W _ 0 _ _ _ HA
        simp only [List.getElem?_toArray, List.getElem?_cons_zero] at m0
        have HA' := Lib.hid HA
        clear HA
        have xz := lt_of_block HO
        have x0 := cell_of_row W _ 0 _ _ _ HO
        have x1 := cell_of_row W _ 1 _ _ _ HO
        have x2 := cell_of_row W _ 2 _ _ _ HO
        have x3 := cell_of_row W _ 3 _ _ _ HO
        have x4 := cell_of_row W _ 4 _ _ _ HO
        have x5 := cell_of_row W _ 5 _ _ _ HO
        simp only [List.getElem?_toArray, List.getElem?_cons_zero, List.getElem?_cons_succ] at x0 x1 x2 x3 x4 x5
        have HO' := Lib.hid HO
        clear HO
        have d0 := cell_belowBy m0
        have d1 := cell_belowBy x4
        have d2 := cell_belowBy (cell_later BW C2.out)
        have d3 := cell_belowBy (cell_later BW C3.out)
        have d4 := cell_belowBy (cell_later BW CR.out)
        have FDW := Lib.hid (fun w' (hb : Below W.heap.size W w') => by
          have := FD.out r w' (below_step BW (Nat.le_refl _) hb)
          rw [HID.out] at this
          exact this)
        clear m0 x0 x1 x2 x3 x4 x5
        simp only [List.take_succ_cons, List.take_zero]
        repeat (go_big_quiet_step (first | (go_at_call 32; exact calls_belowBy (FDW.out _ (BelowBy.below _)))))
        exact wpQuiet_nil rfl
      · simp only [List.drop_succ_cons, List.drop_zero]
        refine tailM_step (ι := Nat) (fun g => .pointer (some ⟨g, 0, none⟩)) (fun g W => Below wr.heap.size wr W ∧ (wr.heap.size ≤ g ∧ W.heap[g]? = some (.cells #[.int .i64 0, .int .i64 0] 24))) rfl (fun g => (StableW.below _ _ (Nat.le_refl _)).and ((StableW.const _).and (StableW.row _ _))) (fun _ _ h => h.1) (fun W hS K hK => ?_) (fun g => ?_)
        · go_simp
          exact hK W.heap.size _ ⟨hS.alloc hS.size _, hS.size, row_new _ _⟩
        simp only [Act.put, List.setIfInBounds_toArray, List.set_cons_succ, List.set_cons_zero]
        refine tailM_step (ι := Unit) (fun _ => undef) (fun _ W => Below wr.heap.size wr W ∧ (wr.heap.size ≤ g ∧ W.heap[g]? = some (.cells #[.int .i64 ox, .int .i64 oy] 24))) rfl (fun _ => (StableW.below _ _ (Nat.le_refl _)).and ((StableW.const _).and (StableW.row _ _))) (fun _ _ h => h.1) (fun W hS K hK => ?_) (fun _ => tailM_nil fun W hW => ?_)
        · obtain ⟨hS1, hS2, hS3⟩ := hS
          have rz := lt_of_block hS3
          have r0 := cell_of_row W _ 0 _ _ _ hS3
          have r1 := cell_of_row W _ 1 _ _ _ hS3
          have rf0 := frozen_of_row W _ 0 _ _ hS3
          have rf1 := frozen_of_row W _ 1 _ _ hS3
          simp only [List.getElem?_toArray, List.getElem?_cons_zero, List.getElem?_cons_succ] at r0 r1
          have hS3' := Lib.hid hS3
          clear hS3
          go_simp
          exact hK () _ ⟨(hS1.setCell (p := ⟨g, 0, none⟩) hS2 _).setCell (p := ⟨g, 1, none⟩) hS2 _, hS2, row_set (i := 1) (row_set (i := 0) hS3'.out)⟩
        · obtain ⟨hW1, hW2, hW3⟩ := hW
          have HBW := row_later hW1 HROW.out
          have hne1 : g ≠ Bp := by omega
          have hne2 : Bp ≠ g := by omega
          have BQ := hbr.trans (hW1.mono (by omega))
          have wx : IntKind.i64.wrap (sx + ox) = sx + ox := IntWalk.i64_in _ (by omega)
          have wy : IntKind.i64.wrap (sy + oy) = sy + oy := IntWalk.i64_in _ (by omega)
          have bz := lt_of_block HBW
          have b0 := cell_of_row W _ 0 _ _ _ HBW
          have b1 := cell_of_row W _ 1 _ _ _ HBW
          have bf0 := frozen_of_row W _ 0 _ _ HBW
          have bf1 := frozen_of_row W _ 1 _ _ HBW
          simp only [List.getElem?_toArray, List.getElem?_cons_zero, List.getElem?_cons_succ] at b0 b1
          have HBW' := Lib.hid HBW
          clear HBW
          have qz := lt_of_block hW3
          have q0 := cell_of_row W _ 0 _ _ _ hW3
          have q1 := cell_of_row W _ 1 _ _ _ hW3
          have qf0 := frozen_of_row W _ 0 _ _ hW3
          have qf1 := frozen_of_row W _ 1 _ _ hW3
          simp only [List.getElem?_toArray, List.getElem?_cons_zero, List.getElem?_cons_succ] at q0 q1
          have hW3' := Lib.hid hW3
          clear hW3
          simp only [Act.put]
          go_wp2
          go_roundw
          case rel => exact ⟨k + 1, by omega, by go_num, by rw [HS1.out, HS2.out]; exact row_set (i := 1) (row_set (i := 0) HBW'.out), (BQ.setCell (p := ⟨Bp, 0, none⟩) (Nat.le_refl _) _).setCell (p := ⟨Bp, 1, none⟩) (Nat.le_refl _) _⟩
          case measure => simp [intOf]; omega
    · obtain rfl : k = M := by omega
      have htk : ps.take k = ps := List.take_of_length_le (by rw [HL.out]; exact Nat.le_refl _)
      rw [htk] at HROW
      have sb := sum_bd ps HON.out
      rw [HL.out] at sb
      have sb' : 0 ≤ sumX ps ∧ sumX ps ≤ 2097152000 ∧ 0 ≤ sumY ps ∧ sumY ps ≤ 2097152000 := by
        unfold sumX sumY; omega
      obtain ⟨sx, hsx⟩ : ∃ z, sumX ps = z := ⟨_, rfl⟩
      obtain ⟨sy, hsy⟩ : ∃ z, sumY ps = z := ⟨_, rfl⟩
      rw [hsx] at HPX sb' HROW
      rw [hsy] at HPY sb' HROW
      clear htk hsx hsy sb
      have kz : (k : Int) ≠ 0 := by omega
      have qx : sx.tdiv (k : Int) = px := by rw [Int.tdiv_eq_ediv_of_nonneg (by omega)]; exact HPX.out
      have qy : sy.tdiv (k : Int) = py := by rw [Int.tdiv_eq_ediv_of_nonneg (by omega)]; exact HPY.out
      have bx := Int.ediv_nonneg (show 0 ≤ sx by omega) (show (0 : Int) ≤ k by omega)
      have bx2 := Int.ediv_le_self (k : Int) (show 0 ≤ sx by omega)
      have by1 := Int.ediv_nonneg (show 0 ≤ sy by omega) (show (0 : Int) ≤ k by omega)
      have by2 := Int.ediv_le_self (k : Int) (show 0 ≤ sy by omega)
      rw [HPX.out] at bx bx2
      rw [HPY.out] at by1 by2
      have wx : IntKind.i64.wrap px = px := IntWalk.i64_in _ (by omega)
      have wy : IntKind.i64.wrap py = py := IntWalk.i64_in _ (by omega)
      have HB3 := HROW.out
      go_wp2_with fail
      refine wp_region_mix 9 (fun W => Below R wr W ∧ W.heap[Bp]? = some (.cells #[.int .i64 sx, .int .i64 sy] 24)) (fun W => Below wr.heap.size wr W) mixed (by kernel_rfl) (by kernel_rfl) (by kernel_rfl) (StableW.below _ _ (Nat.le_refl _)) (fun W hW => ⟨hW.mono (by omega), row_later hW HB3⟩) (Below.refl _ _).drew ?_
      clear HB3
      apply Exists.intro
      refine ⟨fun W hW => ?_, ?_⟩
      · obtain ⟨-, HB⟩ := hW
        have bz := lt_of_block HB
        have b0 := cell_of_row W _ 0 _ _ _ HB
        have b1 := cell_of_row W _ 1 _ _ _ HB
        simp only [List.getElem?_toArray, List.getElem?_cons_zero, List.getElem?_cons_succ] at b0 b1
        have HB' := Lib.hid HB
        clear HB
        have d0 := cell_belowBy b0
        have d1 := cell_belowBy b1
        clear b0 b1
        simp only [List.take_succ_cons, List.take_zero]
        repeat (go_big_quiet_step (fail))
        exact wpQuiet_nil rfl
      · simp only [List.drop_succ_cons, List.drop_zero]
        refine tailM_step (ι := Unit) (fun _ => undef) (fun _ W => (Below R wr W ∧ W.heap[Bp]? = some (.cells #[.int .i64 sx, .int .i64 sy] 24)) ∧ W.heap[R]? = some (.cells #[.int .i64 px, .int .i64 py] 24)) rfl (fun _ => ((StableW.below _ _ (by omega)).and (StableW.row _ _)).and (StableW.row _ _)) (fun _ W h => h.1) (fun W hS K hK => ?_) (fun _ => tailM_nil fun W hW => ?_)
        · have HR := row_later hS HR2.out
          have HBW := row_later hS HROW.out
          have rz := lt_of_block HR
          have r0 := cell_of_row W _ 0 _ _ _ HR
          have r1 := cell_of_row W _ 1 _ _ _ HR
          have rf0 := frozen_of_row W _ 0 _ _ HR
          have rf1 := frozen_of_row W _ 1 _ _ HR
          simp only [List.getElem?_toArray, List.getElem?_cons_zero, List.getElem?_cons_succ] at r0 r1
          have HR' := Lib.hid HR
          clear HR
          go_simp
          exact hK () _ ⟨⟨((hS.mono (B' := R) (by omega)).setCell (p := ⟨R, 0, none⟩) (Nat.le_refl _) _).setCell (p := ⟨R, 1, none⟩) (Nat.le_refl _) _, row_set_other (row_set_other HBW (by simp only; omega)) (by simp only; omega)⟩, row_set (i := 1) (row_set (i := 0) HR'.out)⟩
        · obtain ⟨⟨hW1, -⟩, HR⟩ := hW
          have BW : Below w.heap.size w W := BR.trans (hW1.mono (by omega))
          have rz := lt_of_block HR
          have r0 := cell_of_row W _ 0 _ _ _ HR
          have r1 := cell_of_row W _ 1 _ _ _ HR
          simp only [List.getElem?_toArray, List.getElem?_cons_zero, List.getElem?_cons_succ] at r0 r1
          have HR' := Lib.hid HR
          clear HR
          simp only [Act.put]
          go_wp2
          refine bodyPost_ret (v := .agg #[.int .i64 px, .int .i64 py]) ?_ rfl ⟨rfl, BW⟩
          simp [results, Tryz.results48, go_sem, r0, r1]

set_option maxRecDepth 100000 in
set_option maxHeartbeats 1000000 in
theorem rpoint1_any (v vr vt : Value) (l : List ObjD) (o : ObjD) (w : World) (hv : ObjsIs w v l) (hr : StrRow w vr o.refs) (ht : TagRow w vt o.tags) (hk : o.kind = 1) :
    Calls Tryz.prog 48 #[.agg #[v], .agg #[.string o.id, .int .i64 o.kind, .int .i64 o.x, .int .i64 o.y, vr, vt]] w fun e w' => e = .returned (.agg #[.int .i64 o.x, .int .i64 o.y]) ∧ Below w.heap.size w w' := by
  obtain ⟨a, cap, rfl, _⟩ := hv
  obtain ⟨ar, capr, rfl, _⟩ := hr
  obtain ⟨at1, capt, rfl, _⟩ := ht
  rw [hk]
  go_enter Tryz.func48, Tryz.ntmps48
  go_wp2
  refine bodyPost_ret (v := .agg #[.int .i64 o.x, .int .i64 o.y]) ?_ rfl ⟨rfl, ?_⟩
  · simp [results, Tryz.results48, go_sem]
  · repeat' (first | exact Below.refl _ _ | refine Below.drew ?_ | refine Below.drewN' ?_ | refine Below.setCell ?_ (by first | omega | (simp; done) | exact Below.size (by assumption) | (simp; omega)) _ | refine Below.alloc ?_ (by first | omega | (simp; done) | exact Below.size (by assumption) | (simp; omega)) _ | refine Below.trans ?_ (Below.mono (by assumption) ?_) | (first | omega | (simp; done) | exact Below.size (by assumption) | (simp; omega)))
theorem rpoint_any (v vr vt : Value) (l : List ObjD) (k : Nat) (o : ObjD) (w : World) (hv : ObjsIs w v l) (hr : StrRow w vr o.refs) (ht : TagRow w vt o.tags) (hok : mapOK l = true) (ho : l[k]? = some o) (p : Int × Int) (hp : anchorO l o = some p) :
    Calls Tryz.prog 48 #[.agg #[v], .agg #[.string o.id, .int .i64 o.kind, .int .i64 o.x, .int .i64 o.y, vr, vt]] w fun e w' => e = .returned (.agg #[.int .i64 p.1, .int .i64 p.2]) ∧ Below w.heap.size w w' := by
  have hz := obj_refs (map_obj hok (List.mem_of_getElem? ho))
  rcases anchor_cases hok ho hp with ⟨h1, rfl⟩ | ⟨h2 | h3, hs, ha⟩
  · exact rpoint1_any v vr vt l o w hv hr ht h1
  · exact rpoint2_any v vr vt l o w hv hr ht h2 hs p ha hz
  · exact rpoint3_any v vr vt l o w hv hr ht hok h3 hs p ha hz
end Go.Proofs.YtapllmniplgajaaGreatDoor

namespace Go.Proofs.YtapllmniplgajaaGreatDoor
open Go.RowKit Go.Sort

theorem cells_row {w : World} {g : Nat} {cs : List Value} {t : TypeId} (h : w.heap[g]? = some (.cells cs.toArray t (0, 0))) : ∀ (j : Nat) (u : Value), cs[j]? = some u → w.cell? ((⟨g, 0, none⟩ : Addr).add j) = some u := by
  intro j u hu
  have hadd : (⟨g, 0, none⟩ : Addr).add j = ⟨g, j, none⟩ := by unfold Addr.add; split <;> simp_all
  rw [hadd, cell_of_row _ _ j _ _ _ h]
  simpa using hu
theorem row_grown {w w' : World} {row : Option Nat} (h : w.grownBy w' row) {b : Nat} {o : Obj} (hb : w.heap[b]? = some o) (hne : some b ≠ row) : w'.heap[b]? = some o := (h.block b (lt_of_block hb) hne).trans hb
theorem g7pixel0 (px py : Int) (k : Nat) (hk : k ≤ 17) (hn : nearB px py = true) (w : World) :
    Calls Tryz.prog 47 #[.agg #[.int .i64 k, .int .i64 0, .int .i64 0], .agg #[.int .i64 px, .int .i64 py]] w fun e w' => e = .returned (.tuple #[.agg #[.int .i64 (pxZ k px), .int .i64 (pxZ k py)], .int .i64 0]) ∧ Below w.heap.size w w' := by
  have hp : (0 : Int) < 2 ^ k := Int.pow_pos (by omega)
  have := g7rpixel_ok 0 0 px py k hk ⟨by omega, hp⟩ ⟨by omega, hp⟩ hn w
  simp only [Int.zero_mul, Int.sub_zero] at this
  exact this

theorem rlabels_bad (v vl : Value) (l : List ObjD) (z : Int) (langs : List ByteArray) (w : World) (hv : ObjsIs w v l) (hz : mapOK l = false ∨ z < 0 ∨ 17 < z) :
    Calls Tryz.prog 19 #[.agg #[v], .int .i64 z, vl] w (LabsPost (labelsL l z langs) w) := by
  have VD := Lib.hid (fun w' hb => rvalid12_any v l w' (hv.later (w' := w') hb))
  obtain ⟨a, cap, rfl, _⟩ := hv
  have HR := Lib.hid (show labelsL l z langs = [] by
    unfold labelsL
    rw [if_neg]
    rw [Bool.and_eq_true, decide_eq_true_eq]
    rintro ⟨h1, h2⟩
    rcases hz with h | h | h
    · rw [h] at h1; cases h1
    · omega
    · omega)
  generalize labelsL l z langs = r at HR
  go_enter Tryz.func19, Tryz.ntmps19
  go_wp2_with fail
  have B1 : Below w.heap.size w (w.alloc (.cells #[.slice a l.length cap] 35)) := (Below.refl _ w).alloc (Nat.le_refl _) _
  refine (VD.out _ B1).mono ?_
  rintro e w2 ⟨rfl, hb2⟩
  have B2 := below_step B1 (Nat.le_refl _) hb2
  cases hok : mapOK l with
  | false =>
    clear VD hz hok
    go_wp2
    go_ret
    exact ⟨_, rfl, by rw [HR.out]; exact row_nil _ _ _, B2⟩
  | true =>
    have hz2 : z < 0 ∨ 17 < z := by
      rcases hz with h | h
      · rw [hok] at h; cases h
      · exact h
    clear hz hok VD
    rcases hz2 with h | h
    · go_wp2
      go_ret
      exact ⟨_, rfl, by rw [HR.out]; exact row_nil _ _ _, B2⟩
    · have h' : ¬ z < 0 := by omega
      go_wp2
      go_ret
      exact ⟨_, rfl, by rw [HR.out]; exact row_nil _ _ _, B2⟩

set_option maxRecDepth 100000 in
set_option maxHeartbeats 4000000 in
theorem rlabels_good (v vl : Value) (l : List ObjD) (k : Nat) (langs : List ByteArray) (w : World) (hv : ObjsIs w v l) (hvl : StrRow w vl langs) (hl : l.length ≤ 40) (hla : langs.length ≤ 1000000) (hk : k ≤ 17) (hok : mapOK l = true) :
    Calls Tryz.prog 19 #[.agg #[v], .int .i64 k, vl] w (LabsPost (labelsL l k langs) w) := by
  have mixed : Tryz.prog.follows .mixedOrders = true := by kernel_rfl
  have VD := Lib.hid (fun w' hb => by have := rvalid12_any v l w' (hv.later (w' := w') hb); rw [hok] at this; exact this)
  have HV := Lib.hid (fun w' hb => hv.later (w' := w') hb)
  have BS := Lib.hid (fun (o : ObjD) (ho : o ∈ l) (vt : Value) w' hb ht => rbest_any vt vl o.tags langs w' hla ht (hvl.later (w' := w') hb) (by
    have h := map_obj hok ho
    simp only [objOK, Bool.and_eq_true] at h
    exact h.1.1.1.1.2))
  have OKO := Lib.hid (fun (o : ObjD) (ho : o ∈ l) => obj_kind (map_obj hok ho))
  have SND := Lib.hid (fun (v vr vt : Value) (o : ObjD) w' h1 h2 h3 h4 h5 => rsound_any v vr vt l o w' h1 h2 h3 hok h4 h5)
  have WB := Lib.hid (fun j o ho => lab1_iff hok (k := j) (o := o) ho k langs)
  have PTS := Lib.hid (fun (v vr vt : Value) j o w' h1 h2 h3 h4 p hp => rpoint_any v vr vt l j o w' h1 h2 h3 hok h4 p hp)
  have HR := Lib.hid (show labelsL l k langs = isort (ltOf cfL) (l.filterMap (lab1 l k langs)) by
    unfold labelsL; rw [hok, decide_eq_true (by omega)]; rfl)
  have SD := Lib.hid (fun (vv : Value) (ls : List LabD) (w : World) h1 h2 => rsorted_any vv ls w h1 h2)
  have hfl : (l.filterMap (lab1 l k langs)).length ≤ 40 := by have := List.length_filterMap_le (lab1 l k langs) l; omega
  generalize labelsL l k langs = r at HR ⊢
  obtain ⟨a, cap, rfl, hn, hc⟩ := hv
  obtain ⟨avl, cvl, rfl, _⟩ := hvl
  obtain ⟨i0, hi, hi0, hi1, hi2⟩ := info_parts infoLabel
  obtain ⟨N, hN⟩ : ∃ N, l.length = N := ⟨_, rfl⟩
  rw [hN] at hc hl hn VD HV ⊢
  have HN := Lib.hid hN
  have HC := Lib.hid hc
  have hkz : ¬ (k : Int) < 0 := by omega
  have hkz2 : ¬ (17 : Int) < (k : Int) := by omega
  clear hN hc hok
  go_enter Tryz.func19, Tryz.ntmps19
  go_wp2_with fail
  have B1 : Below w.heap.size w (w.alloc (.cells #[.slice a N cap] 35)) := (Below.refl _ w).alloc (Nat.le_refl _) _
  have HM1 := row_new w (.cells #[.slice a N cap] 35)
  refine (VD.out _ B1).mono ?_
  rintro e w2 ⟨rfl, hb2⟩
  have B2 := below_step B1 (Nat.le_refl _) hb2
  have HM2 := row_later hb2 HM1
  have HMh := Lib.hid HM2
  clear B1 VD HM1
  have mz := lt_of_block HM2
  have m0 := cell_of_row w2 _ 0 _ _ _ HM2
  simp only [List.getElem?_toArray, List.getElem?_cons_zero] at m0
  have HM2' := Lib.hid HM2
  clear HM2
  go_wp2
  clear m0 mz HM2'
  obtain ⟨Bm, hBm⟩ : ∃ Bm, w.heap.size = Bm := ⟨_, rfl⟩
  rw [hBm] at HMh ⊢
  have HBm := Lib.hid (show Bm < w2.heap.size by have := hb2.size; simp at this; omega)
  clear hBm hb2
  go_loopw [7, 8] (fun v7 i wr => ∃ q : Nat, q ≤ N ∧ i = .int .i64 q ∧ wr.ownsRow w2.heap.size 47 6 v7 ((l.take q).filterMap (lab1 l k langs)).length (((l.take q).filterMap (lab1 l k langs)).flatMap encL) ∧ Below w2.heap.size w2 wr) (fun _ i _ => N - (intOf i).toNat)
  case atStart => exact ⟨0, by omega, rfl, ⟨rfl, Or.inl ⟨rfl, rfl⟩⟩, Below.refl _ _⟩
  case round =>
    obtain ⟨q, hq, rfl, hown, hbr⟩ := hrel
    have BR := below_step B2 (Nat.le_refl _) hbr
    have HMR := row_later hbr HMh.out
    by_cases hlt : q < N
    · obtain ⟨o, ho⟩ : ∃ o, l[q]? = some o := ⟨l[q]'(by rw [HN.out]; exact hlt), List.getElem?_eq_getElem _⟩
      obtain ⟨b, off, ha, hcell⟩ := HC.out (by omega)
      subst ha
      obtain ⟨vr, vt, c0, c1, c2, c3, c4, c5, -, -, hz⟩ := (hcell q o ho).later BR
      obtain ⟨vr0, vt0, -, -, -, -, e4, e5, hr, ht, -⟩ := hcell q o ho
      have e4 := cell_later BR e4
      have e5 := cell_later BR e5
      obtain rfl : vr = vr0 := Option.some.inj (c4.symm.trans e4)
      obtain rfl : vt = vt0 := Option.some.inj (c5.symm.trans e5)
      clear e4 e5
      have hmem := List.mem_of_getElem? ho
      have hkind := OKO.out o hmem
      have HT := Lib.hid (labs_take l q o ho (lab1 l k langs))
      have HWB := Lib.hid (WB.out q o ho)
      have hlen : ((l.take q).filterMap (lab1 l k langs)).length ≤ q := by
        have := List.length_filterMap_le (lab1 l k langs) (l.take q)
        rw [List.length_take] at this; omega
      have hbsz := best_size o.tags langs
      have lvb := lvlS_bd ((getB levelK o.tags).getD ⟨#[]⟩)
      rw [show lvlS ((getB levelK o.tags).getD ⟨#[]⟩) = levelO o.tags from rfl] at lvb
      have HR1 := Lib.hid hr
      have HT1 := Lib.hid ht
      have BSO := Lib.hid (fun w' (hb : Below w.heap.size w w') => BS.out o hmem vt w' hb (HT1.out.later hb))
      have SNO := Lib.hid (fun w' (hb : Below w.heap.size w w') h4 h5 => SND.out _ vr vt o w' (HV.out w' hb) (HR1.out.later hb) (HT1.out.later hb) h4 h5)
      have LVO := Lib.hid (fun w' (hb : Below w.heap.size w w') => rlevel_any o.id o.kind o.x o.y vr vt o.refs o.tags w' (HR1.out.later hb) (HT1.out.later hb))
      have PTO := Lib.hid (fun w' (hb : Below w.heap.size w w') p hp => PTS.out _ vr vt q o w' (HV.out w' hb) (HR1.out.later hb) (HT1.out.later hb) ho p hp)
      have HL1 := Lib.hid (fun x hx => lab1_some (l := l) (k := k) (langs := langs) (o := o) (x := x) hx)
      have HNR := Lib.hid (anchor_near l o)
      have HWD := Lib.hid (show wantB l k langs o = (decide (o.kind ≤ 3) && soundB l o && decide (levelO o.tags ≤ (k : Int)) && decide ((bestB o.tags langs).1.size ≠ 0)) from rfl)
      obtain ⟨ar, capr, evr, _⟩ := hr
      obtain ⟨at1, capt, evt, _⟩ := ht
      subst evr evt
      have HMRh := Lib.hid HMR
      have mz := lt_of_block HMR
      have m0 := cell_of_row wr _ 0 _ _ _ HMR
      simp only [List.getElem?_toArray, List.getElem?_cons_zero] at m0
      have HMR' := Lib.hid HMR
      clear HMR
      clear hcell ho
      go_wp2_with fail
      have BA : Below wr.heap.size wr (wr.alloc (.cells #[.string o.id, .int .i64 o.kind, .int .i64 o.x, .int .i64 o.y, .slice ar o.refs.length capr, .slice at1 o.tags.length capt] 59)) := (Below.refl _ wr).alloc (Nat.le_refl _) _
      have HX := row_new wr (.cells #[.string o.id, .int .i64 o.kind, .int .i64 o.x, .int .i64 o.y, .slice ar o.refs.length capr, .slice at1 o.tags.length capt] 59)
      generalize hwa : wr.alloc (.cells #[.string o.id, .int .i64 o.kind, .int .i64 o.x, .int .i64 o.y, .slice ar o.refs.length capr, .slice at1 o.tags.length capt] 59) = wa
      rw [hwa] at BA HX
      obtain ⟨Bx, hBx⟩ : ∃ Bx, wr.heap.size = Bx := ⟨_, rfl⟩
      have HBX := Lib.hid (show w2.heap.size ≤ Bx by have := hbr.size; omega)
      have HXA : wa.heap[Bx]? = some (.cells #[.string o.id, .int .i64 o.kind, .int .i64 o.x, .int .i64 o.y, .slice ar o.refs.length capr, .slice at1 o.tags.length capt] 59) := by rw [← hBx]; exact HX
      have NXB := Lib.hid (show some Bx ≠ u7.ownBlock from fun e => by
        have := (hown.lt Bx e.symm).2
        omega)
      rw [hBx]
      have HOWN := Lib.hid hown
      clear hwa c0 c1 c2 c3 c4 c5 hBx hown HX m0 mz HMR'
      refine (BSO.out wa (below_step BR (Nat.le_refl _) BA)).mono ?_
      rintro e w3 ⟨rfl, hb3⟩
      have B3 := below_step BA (Nat.le_refl _) hb3
      have HX3h := Lib.hid (row_later hb3 HXA)
      have HM3h := Lib.hid (row_later B3 HMRh.out)
      clear BA hb3 HXA HMRh
      generalize (l.take q).filterMap (lab1 l k langs) = out at HOWN HT hlen
      by_cases k3 : o.kind ≤ 3
      case neg =>
        have k3d : decide (3 < o.kind) = true := decide_eq_true (by omega)
        have HX3 := HX3h.out
        have xz := lt_of_block HX3
        have x0 := cell_of_row w3 _ 0 _ _ _ HX3
        have x1 := cell_of_row w3 _ 1 _ _ _ HX3
        have x2 := cell_of_row w3 _ 2 _ _ _ HX3
        have x3 := cell_of_row w3 _ 3 _ _ _ HX3
        have x4 := cell_of_row w3 _ 4 _ _ _ HX3
        have x5 := cell_of_row w3 _ 5 _ _ _ HX3
        simp only [List.getElem?_toArray, List.getElem?_cons_zero, List.getElem?_cons_succ] at x0 x1 x2 x3 x4 x5
        have HX3' := Lib.hid HX3
        clear HX3
        have HT2 := Lib.hid (show (l.take (q + 1)).filterMap (lab1 l k langs) = out by
          have h1 : (lab1 l k langs o).isSome = false := by rw [HWB.out]; exact (by rw [HWD.out, decide_eq_false k3]; rfl)
          have h2 : lab1 l k langs o = none := by
            cases h : lab1 l k langs o with
            | none => rfl
            | some _ => rw [h] at h1; cases h1
          rw [HT.out, h2]; simp)
        have O3 := Lib.hid (own_later HOWN.out B3)
        have BB := below_step hbr (Nat.le_refl _) B3
        clear HT HWB
        go_wp2
        go_roundw
        case rel => exact ⟨q + 1, by omega, by go_num, by rw [HT2.out]; exact O3.out, BB⟩
        case measure => simp [intOf]; omega
      have k3d : decide (3 < o.kind) = false := decide_eq_false (by omega)
      have HX3 := HX3h.out
      have HM3 := HM3h.out
      have xz := lt_of_block HX3
      have x0 := cell_of_row w3 _ 0 _ _ _ HX3
      have x1 := cell_of_row w3 _ 1 _ _ _ HX3
      have x2 := cell_of_row w3 _ 2 _ _ _ HX3
      have x3 := cell_of_row w3 _ 3 _ _ _ HX3
      have x4 := cell_of_row w3 _ 4 _ _ _ HX3
      have x5 := cell_of_row w3 _ 5 _ _ _ HX3
      simp only [List.getElem?_toArray, List.getElem?_cons_zero, List.getElem?_cons_succ] at x0 x1 x2 x3 x4 x5
      have HX3' := Lib.hid HX3
      clear HX3
      have mz := lt_of_block HM3
      have m0 := cell_of_row w3 _ 0 _ _ _ HM3
      simp only [List.getElem?_toArray, List.getElem?_cons_zero] at m0
      have HM3' := Lib.hid HM3
      clear HM3
      go_wp2_with fail
      refine (SNO.out w3 (below_step BR (Nat.le_refl _) B3) (by omega) (by omega)).mono ?_
      rintro e w4 ⟨rfl, hb4⟩
      have B4 := below_step B3 (Nat.le_refl _) hb4
      have HX4h := Lib.hid (row_later hb4 HX3h.out)
      have HM4h := Lib.hid (row_later hb4 HM3h.out)
      clear x0 x1 x2 x3 x4 x5 xz HX3' m0 mz HM3' HX3h HM3h hb4 B3
      cases hsd : soundB l o with
      | false =>
        have HT2 := Lib.hid (show (l.take (q + 1)).filterMap (lab1 l k langs) = out by
          have h1 : (lab1 l k langs o).isSome = false := by rw [HWB.out]; exact (by rw [HWD.out, hsd]; simp)
          have h2 : lab1 l k langs o = none := by
            cases h : lab1 l k langs o with
            | none => rfl
            | some _ => rw [h] at h1; cases h1
          rw [HT.out, h2]; simp)
        have O3 := Lib.hid (own_later HOWN.out B4)
        have BB := below_step hbr (Nat.le_refl _) B4
        clear HT HWB
        go_wp2
        go_roundw
        case rel => exact ⟨q + 1, by omega, by go_num, by rw [HT2.out]; exact O3.out, BB⟩
        case measure => simp [intOf]; omega
      | true =>
      have HX4 := HX4h.out
      have xz := lt_of_block HX4
      have x0 := cell_of_row w4 _ 0 _ _ _ HX4
      have x1 := cell_of_row w4 _ 1 _ _ _ HX4
      have x2 := cell_of_row w4 _ 2 _ _ _ HX4
      have x3 := cell_of_row w4 _ 3 _ _ _ HX4
      have x4 := cell_of_row w4 _ 4 _ _ _ HX4
      have x5 := cell_of_row w4 _ 5 _ _ _ HX4
      simp only [List.getElem?_toArray, List.getElem?_cons_zero, List.getElem?_cons_succ] at x0 x1 x2 x3 x4 x5
      have HX4' := Lib.hid HX4
      clear HX4
      go_wp2_with fail
      refine (LVO.out w4 (below_step BR (Nat.le_refl _) B4)).mono ?_
      rintro e w5 ⟨rfl, hb5⟩
      have B5 := below_step B4 (Nat.le_refl _) hb5
      have HX5h := Lib.hid (row_later hb5 HX4h.out)
      have HM5h := Lib.hid (row_later hb5 HM4h.out)
      clear x0 x1 x2 x3 x4 x5 xz HX4' HX4h HM4h hb5 B4
      by_cases hkl : (k : Int) < levelO o.tags
      case pos =>
        have hkd : decide ((k : Int) < levelO o.tags) = true := decide_eq_true hkl
        have HT2 := Lib.hid (show (l.take (q + 1)).filterMap (lab1 l k langs) = out by
          have h1 : (lab1 l k langs o).isSome = false := by rw [HWB.out]; exact (by rw [HWD.out, decide_eq_false (show ¬ levelO o.tags ≤ (k : Int) by omega)]; simp)
          have h2 : lab1 l k langs o = none := by
            cases h : lab1 l k langs o with
            | none => rfl
            | some _ => rw [h] at h1; cases h1
          rw [HT.out, h2]; simp)
        have O3 := Lib.hid (own_later HOWN.out B5)
        have BB := below_step hbr (Nat.le_refl _) B5
        clear HT HWB
        go_wp2
        go_roundw
        case rel => exact ⟨q + 1, by omega, by go_num, by rw [HT2.out]; exact O3.out, BB⟩
        case measure => simp [intOf]; omega
      have hkd : decide ((k : Int) < levelO o.tags) = false := decide_eq_false hkl
      by_cases hb0 : (bestB o.tags langs).1.size = 0
      case pos =>
        have e0 : (bestB o.tags langs).1.toList = [] := str_nil hb0
        have e1 : (bestB o.tags langs).1.toList.isEmpty = true := by rw [e0]; rfl
        have HT2 := Lib.hid (show (l.take (q + 1)).filterMap (lab1 l k langs) = out by
          have h1 : (lab1 l k langs o).isSome = false := by rw [HWB.out]; exact (by rw [HWD.out, hb0]; simp)
          have h2 : lab1 l k langs o = none := by
            cases h : lab1 l k langs o with
            | none => rfl
            | some _ => rw [h] at h1; cases h1
          rw [HT.out, h2]; simp)
        have O3 := Lib.hid (own_later HOWN.out B5)
        have BB := below_step hbr (Nat.le_refl _) B5
        clear HT HWB
        go_wp2
        go_roundw
        case rel => exact ⟨q + 1, by omega, by go_num, by rw [HT2.out]; exact O3.out, BB⟩
        case measure => simp [intOf]; omega
      have e1 : (bestB o.tags langs).1.toList.isEmpty = false := str_not_empty (by omega)
      have e0 : ¬ (bestB o.tags langs).1.toList = [] := by
        intro h; rw [h] at e1; simp at e1
      have hsome : (lab1 l k langs o).isSome = true := by
        rw [HWB.out, HWD.out, hsd, decide_eq_true k3, decide_eq_true (show levelO o.tags ≤ (k : Int) by omega), decide_eq_true hb0]; rfl
      obtain ⟨lx, hlx⟩ := Option.isSome_iff_exists.1 hsome
      obtain ⟨p, hap, -, -, hxe⟩ := HL1.out lx hlx
      have HT2 := Lib.hid (show (l.take (q + 1)).filterMap (lab1 l k langs) = out ++ [lx] by rw [HT.out, hlx])
      have hnear := HNR.out p hap
      have PTP := Lib.hid (fun w' hb => PTO.out w' hb p hap)
      obtain ⟨px, py⟩ := p
      subst hxe
      clear HT HWB HWD HL1 HNR PTO hsome hlx hap hsd hkl
      have HX5 := HX5h.out
      have HM5 := HM5h.out
      have xz := lt_of_block HX5
      have x0 := cell_of_row w5 _ 0 _ _ _ HX5
      have x1 := cell_of_row w5 _ 1 _ _ _ HX5
      have x2 := cell_of_row w5 _ 2 _ _ _ HX5
      have x3 := cell_of_row w5 _ 3 _ _ _ HX5
      have x4 := cell_of_row w5 _ 4 _ _ _ HX5
      have x5 := cell_of_row w5 _ 5 _ _ _ HX5
      simp only [List.getElem?_toArray, List.getElem?_cons_zero, List.getElem?_cons_succ] at x0 x1 x2 x3 x4 x5
      have HX5' := Lib.hid HX5
      clear HX5
      have mz := lt_of_block HM5
      have m0 := cell_of_row w5 _ 0 _ _ _ HM5
      simp only [List.getElem?_toArray, List.getElem?_cons_zero] at m0
      have HM5' := Lib.hid HM5
      clear HM5
      go_wp2_with fail
      refine (PTP.out w5 (below_step BR (Nat.le_refl _) B5)).mono ?_
      rintro e w6 ⟨rfl, hb6⟩
      have B6 := below_step B5 (Nat.le_refl _) hb6
      have HX6h := Lib.hid (row_later hb6 HX5h.out)
      clear x0 x1 x2 x3 x4 x5 xz HX5' m0 mz HM5' HX5h HM5h hb6 B5
      go_wp2_with fail
      refine (g7pixel0 px py k hk hnear _).mono ?_
      rintro e w7 ⟨rfl, hb7⟩
      have B7 := below_step B6 (Nat.le_refl _) hb7
      have HX7 := row_later hb7 HX6h.out
      clear HX6h hb7 B6
      generalize pxZ k px = gx at HT2 ⊢
      generalize pxZ k py = gy at HT2 ⊢
      generalize (bestB o.tags langs).1 = s at e0 e1 hbsz hb0 HT2 ⊢
      generalize (bestB o.tags langs).2 = s2
      generalize levelO o.tags = lv at LVO lvb hkd HT2 ⊢
      go_wp2_with fail
      have HP8 := row_new w7 (.cells #[.int .i64 gx, .int .i64 gy] 24)
      have HX8 := row_past (o' := .cells #[.int .i64 gx, .int .i64 gy] 24) HX7
      have B8 := B7.alloc B7.size (.cells #[.int .i64 gx, .int .i64 gy] 24)
      generalize hw8 : w7.alloc (.cells #[.int .i64 gx, .int .i64 gy] 24) = w8
      rw [hw8] at HP8 HX8 B8
      obtain ⟨Bp, hBp⟩ : ∃ Bp, w7.heap.size = Bp := ⟨_, rfl⟩
      have hbpz := B7.size
      rw [hBp] at HP8 hbpz
      rw [hBp]
      have NPB := Lib.hid (show some Bp ≠ u7.ownBlock from fun e => by
        have := (HOWN.out.lt Bp e.symm).2
        omega)
      clear hw8 hBp B7 HX7
      have O8 := Lib.hid (own_later HOWN.out B8)
      have BW8 := below_step hbr (Nat.le_refl _) B8
      have wm1 : IntKind.i64.wrap (6 * (s.size : Int)) = 6 * s.size := by rw [IntKind.wrap_i64]; omega
      have wm2 : IntKind.i64.wrap (10 * lv) = 10 * lv := by rw [IntKind.wrap_i64]; omega
      have wm3 : IntKind.i64.wrap (10 * lv + o.kind) = 10 * lv + o.kind := by rw [IntKind.wrap_i64]; omega
      have HX8h := Lib.hid HX8
      have HP8h := Lib.hid HP8
      have hsz2 := hbr.size
      clear HX8 HP8 PTP
      refine wp_region_mix 14 (fun W => Below w2.heap.size w2 W ∧ W.heap[Bx]? = some (.cells #[.string o.id, .int .i64 o.kind, .int .i64 o.x, .int .i64 o.y, .slice ar o.refs.length capr, .slice at1 o.tags.length capt] 59) ∧ W.heap[Bp]? = some (.cells #[.int .i64 gx, .int .i64 gy] 24)) (fun W => Below w8.heap.size w8 W) mixed (by kernel_rfl) (by kernel_rfl) (by kernel_rfl) (StableW.below _ _ (Nat.le_refl _)) (fun W hW => ⟨below_step BW8 (Nat.le_refl _) hW, row_later hW HX8h.out, row_later hW HP8h.out⟩) (Below.refl _ _).drew ?_
      apply Exists.intro
      refine ⟨fun W hW => ?_, ?_⟩
      · obtain ⟨hW2, HX, HP⟩ := hW
        have hW3 := below_step B2 (Nat.le_refl _) hW2
        have xz := lt_of_block HX
        have x0 := cell_of_row W _ 0 _ _ _ HX
        have x1 := cell_of_row W _ 1 _ _ _ HX
        have x2 := cell_of_row W _ 2 _ _ _ HX
        have x3 := cell_of_row W _ 3 _ _ _ HX
        have x4 := cell_of_row W _ 4 _ _ _ HX
        have x5 := cell_of_row W _ 5 _ _ _ HX
        simp only [List.getElem?_toArray, List.getElem?_cons_zero, List.getElem?_cons_succ] at x0 x1 x2 x3 x4 x5
        have HX' := Lib.hid HX
        clear HX
        have pz := lt_of_block HP
        have p0 := cell_of_row W _ 0 _ _ _ HP
        have p1 := cell_of_row W _ 1 _ _ _ HP
        simp only [List.getElem?_toArray, List.getElem?_cons_zero, List.getElem?_cons_succ] at p0 p1
        have HP' := Lib.hid HP
        clear HP
        have d0 := cell_belowBy x0
        have d1 := cell_belowBy x1
        have d2 := cell_belowBy x2
        have d3 := cell_belowBy x3
        have d4 := cell_belowBy x4
        have d5 := cell_belowBy x5
        have d6 := cell_belowBy p0
        have d7 := cell_belowBy p1
        clear x0 x1 x2 x3 x4 x5 p0 p1
        simp only [List.take_succ_cons, List.take_zero]
        repeat (go_big_quiet_step (first | (go_at_call 31; exact calls_belowBy (LVO.out _ (below_step hW3 (Nat.le_refl _) (BelowBy.below _))))))
        exact wpQuiet_nil rfl
      · simp only [List.drop_succ_cons, List.drop_zero]
        refine tailM_step (ι := Nat) (fun g => .slice (some ⟨g, 0, none⟩) 1 1) (fun g W => (Below w2.heap.size w2 W ∧ W.heap[Bx]? = some (.cells #[.string o.id, .int .i64 o.kind, .int .i64 o.x, .int .i64 o.y, .slice ar o.refs.length capr, .slice at1 o.tags.length capt] 59) ∧ W.heap[Bp]? = some (.cells #[.int .i64 gx, .int .i64 gy] 24)) ∧ (W.ownsRow w2.heap.size 47 6 u7 out.length (out.flatMap encL) ∧ W.heap[g]? = some (.cells (encL ⟨o.id, gx, gy, 6 * s.size, 12, 10 * lv + o.kind⟩).toArray 47))) rfl (fun g => ((StableW.below _ _ (Nat.le_refl _)).and ((StableW.row _ _).and (StableW.row _ _))).and ((StableW.owns _ _ _ _ _ _).and (StableW.row _ _))) (fun _ _ h => h.1) (fun W hS K hK => ?_) (fun g => ?_)
        · have O := own_later O8.out hS
          have HX := row_later hS HX8h.out
          have HP := row_later hS HP8h.out
          have BB := below_step BW8 (Nat.le_refl _) hS
          go_simp
          exact hK W.heap.size _ ⟨⟨BB.alloc BB.size _, row_past HX, row_past HP⟩, O.alloc _, row_new _ _⟩
        simp only [Act.put, List.setIfInBounds_toArray, List.set_cons_succ, List.set_cons_zero]
        refine tailM_step (ι := Value) (fun v => v) (fun v' W => (Below w2.heap.size w2 W ∧ W.heap[Bx]? = some (.cells #[.string o.id, .int .i64 o.kind, .int .i64 o.x, .int .i64 o.y, .slice ar o.refs.length capr, .slice at1 o.tags.length capt] 59) ∧ W.heap[Bp]? = some (.cells #[.int .i64 gx, .int .i64 gy] 24)) ∧ W.ownsRow w2.heap.size 47 6 v' ((l.take (q + 1)).filterMap (lab1 l k langs)).length (((l.take (q + 1)).filterMap (lab1 l k langs)).flatMap encL)) rfl (fun _ => ((StableW.below _ _ (Nat.le_refl _)).and ((StableW.row _ _).and (StableW.row _ _))).and (StableW.owns _ _ _ _ _ _)) (fun _ _ h => h.1) (fun W hS K hK => ?_) (fun v' => ?_)
        · obtain ⟨⟨hS1, hSX, hSP⟩, hSO, hSG⟩ := hS
          refine wp_append_own _ _ _ 22 rfl w2.heap.size 47 i0 (.agg #[.string ⟨#[]⟩, .int .i64 0, .int .i64 0, .int .i64 0, .int .i64 0, .int .i64 0]) 6 56 Tryz.underlying22 hi hi0 hi1 hi2 rfl (by decide) _ _ _ rfl hSO ⟨g, 0, none⟩ 1 1 (encL ⟨o.id, gx, gy, 6 * s.size, 12, 10 * lv + o.kind⟩) rfl rfl (cells_row hSG) (encL_one _) (by unfold maxLen; omega) (by omega) hS1.size ?_
          intro v' w9 hown2 hgrow _
          exact hK v' w9 ⟨⟨hS1.grown hgrow hS1.size (fun j ej => (hSO.lt j ej).1), row_grown hgrow hSX NXB.out, row_grown hgrow hSP NPB.out⟩, by rw [HT2.out, List.length_append, List.flatMap_append]; simpa using hown2⟩
        simp only [Act.put, List.setIfInBounds_toArray, List.set_cons_succ, List.set_cons_zero]
        refine tailM_pure v' rfl (((StableW.below _ _ (Nat.le_refl _)).and ((StableW.row _ _).and (StableW.row _ _))).and (StableW.owns _ _ _ _ _ _)) (fun _ h => h.1) (fun W hS K hK => ?_) (tailM_nil fun W hW => ?_)
        · go_simp
          exact hK
        obtain ⟨⟨hW1, -, -⟩, hWO⟩ := hW
        have HWO := Lib.hid hWO
        clear hWO
        simp only [Act.put, List.setIfInBounds_toArray, List.set_cons_succ, List.set_cons_zero]
        go_wp2
        go_roundw
        case rel => exact ⟨q + 1, by omega, by go_num, HWO.out, hW1⟩
        case measure => simp [intOf]; omega
    · obtain rfl : q = N := by omega
      have htk : l.take q = l := List.take_of_length_le (by rw [HN.out]; exact Nat.le_refl _)
      rw [htk] at hown
      have HOW := Lib.hid (RowE.of_own encL_len rfl hown)
      clear hown
      have mz := lt_of_block HMR
      have m0 := cell_of_row wr _ 0 _ _ _ HMR
      simp only [List.getElem?_toArray, List.getElem?_cons_zero] at m0
      have HMR' := Lib.hid HMR
      clear HMR
      go_wp2_with fail
      refine (SD.out _ _ _ HOW.out hfl).mono ?_
      rintro e w9 ⟨v', rfl, hrow, hb9⟩
      have HRW := Lib.hid (RowE.of_own encL_len (by rw [isort_length]) hrow)
      have B9 := below_step BR (Nat.le_refl _) hb9
      clear hrow
      go_wp2
      go_ret
      exact ⟨v', rfl, by rw [HR.out]; exact HRW.out, B9⟩

theorem rlabels_any (v vl : Value) (l : List ObjD) (z : Int) (langs : List ByteArray) (w : World) (hv : ObjsIs w v l) (hvl : StrRow w vl langs) (hl : l.length ≤ 40) (hla : langs.length ≤ 1000000) :
    Calls Tryz.prog 19 #[.agg #[v], .int .i64 z, vl] w (LabsPost (labelsL l z langs) w) := by
  cases hok : mapOK l with
  | false => exact rlabels_bad v vl l z langs w hv (Or.inl hok)
  | true =>
    by_cases hz : z < 0 ∨ 17 < z
    · exact rlabels_bad v vl l z langs w hv (Or.inr hz)
    · obtain ⟨k, rfl⟩ := Int.eq_ofNat_of_zero_le (show 0 ≤ z by omega)
      exact rlabels_good v vl l k langs w hv hvl hl hla (by omega) hok
end Go.Proofs.YtapllmniplgajaaGreatDoor
