/- The parser reads no more than it needs. No program in sight. -/
import Derived.Test.YtdfenhjibnfdeaaGreatDoorQyAe
namespace Go.Proofs.YtdfenhjibnfdeaaGreatDoor
open Go


/-- What a reading comes to, an error with the tokens at which it stands. -/
inductive QR (α : Type) where
  | ok (a : α) (rest : List TokD)
  | bad (err : Int) (rest : List TokD)
def QR.bind {α β : Type} (x : QR α) (f : α → List TokD → QR β) : QR β := match x with
  | .ok a r => f a r
  | .bad e r => .bad e r
def QR.pr {α : Type} (fin : Nat) : QR α → PR α
  | .ok a r => .ok a r
  | .bad _ [] => .bad 6 fin
  | .bad e (t :: _) => .bad e t.off
def QR.rest {α : Type} : QR α → List TokD
  | .ok _ r => r
  | .bad _ r => r
theorem QR.pr_bind {α β : Type} (fin : Nat) (x : QR α) (f : α → List TokD → QR β) : (x.bind f).pr fin = (x.pr fin).bind fun a r => (f a r).pr fin := by
  cases x with
  | ok a r => rfl
  | bad e r => cases r <;> rfl
theorem PR.bind_congr {α β : Type} {x : PR α} {f g : α → List TokD → PR β} (h : ∀ a r, f a r = g a r) : x.bind f = x.bind g := by
  cases x with
  | ok a r => exact h a r
  | bad e o => rfl
def wantQ (s : ByteArray) (ts : List TokD) : QR Unit := if isP s ts then .ok () ts.tail else .bad 5 ts
def nextQ (kind : Int) (check : ByteArray → Bool) (ts : List TokD) : QR ByteArray := match ts with
  | [] => .bad 6 []
  | t :: r => if t.kind = kind then (if check t.text then .ok t.text r else .bad 10 (t :: r)) else .bad 5 (t :: r)
def nameQ (ts : List TokD) : QR ByteArray := nextQ 1 nameB ts
def numQ (low high : Int) (ts : List TokD) : QR Int := (nextQ 2 (fun s => decide (low ≤ atoiN s ∧ atoiN s ≤ high)) ts).bind fun s r => .ok (atoiN s) r
def moreQ (one : List TokD → QR CondD) (word : ByteArray) : Nat → List CondD → List TokD → QR (List CondD)
  | 0, acc, ts => .ok acc ts
  | k + 1, acc, ts => if isP word ts then (one ts.tail).bind fun c r => moreQ one word k (acc ++ [c]) r else .ok acc ts
def seriesQ (one : List TokD → QR CondD) (word : ByteArray) (op : Int) (ts : List TokD) : QR CondD :=
  (one ts).bind fun c r => (moreQ one word r.length [c] r).bind fun l r => .ok (mkP op l) r
def notQ : Nat → List TokD → QR CondD
  | 0, ts => .bad 5 ts
  | f + 1, ts =>
    if isP wNot ts then (notQ f ts.tail).bind fun c r => .ok (.mk 4 emptyB emptyB 0 [c]) r
    else if isP wOpen ts then (seriesQ (seriesQ (notQ f) wAnd 5) wOr 6 ts.tail).bind fun c r => (wantQ wClose r).bind fun _ r => .ok c r
    else if isP wAlways ts then .ok (.mk 1 emptyB emptyB 0 []) ts.tail
    else if (ts.head?.any fun t => resB t.text) then .bad 5 ts
    else (nameQ ts).bind fun k r =>
      if isP wIs r then (nextQ 3 (fun s => decide (s ≠ emptyB ∧ s.size ≤ 200)) r.tail).bind fun v r => .ok (.mk 3 k v 0 []) r
      else if isP wMore r then (numQ 0 9999999 r.tail).bind fun n r => .ok (.mk 7 k emptyB n []) r
      else .ok (.mk 2 k emptyB 0 []) r
def condQ (f : Nat) : List TokD → QR CondD := seriesQ (seriesQ (notQ f) wAnd 5) wOr 6
def askQ (ts : List TokD) : QR QryD := match ts with
  | [] => .bad 6 []
  | t :: r => if t.kind = 1 then
      let q : QryD := ⟨0, 0, .mk 0 emptyB emptyB 0 [], emptyB, 0, 0, 0, emptyB, emptyB, 0⟩
      if t.text = wAll then .ok { q with ask := 1 } r
      else if t.text = wInside then (nameQ r).bind fun i r => .ok { q with ask := 2, id := i } r
      else if t.text = wAlong then (nameQ r).bind fun i r => (wantQ wBy r).bind fun _ r => (numQ 0 1048576 r).bind fun n r => .ok { q with ask := 3, id := i, n := n } r
      else if t.text = wNearest then (numQ 1 10000 r).bind fun n r => (wantQ wTo r).bind fun _ r => (numQ 0 1048575 r).bind fun x r => (numQ 0 1048575 r).bind fun y r => .ok { q with ask := 4, n := n, x := x, y := y } r
      else if t.text = wReach then (nameQ r).bind fun i r => (wantQ wIn r).bind fun _ r => (numQ 0 10080 r).bind fun n r => (wantQ wBy r).bind fun _ r => (nameQ r).bind fun p r => (wantQ wAt r).bind fun _ r => (numQ 0 9999999 r).bind fun m r => .ok { q with ask := 5, id := i, n := n, prof := p, minute := m } r
      else if t.text = wCount then (nameQ r).bind fun k r => .ok { q with ask := 6, key := k } r
      else .bad 5 (t :: r)
    else .bad 5 (t :: r)
def queryQ (ts : List TokD) : QR QryD :=
  (askQ ts).bind fun q r => match wordP kindsW r with
    | none => .bad 5 r
    | some k =>
      let r := r.tail
      let q := { q with kind := (k : Int), wher := allW }
      if isP wWhere r then (condQ r.length r.tail).bind fun c r => if r = [] then .ok { q with wher := c } r else .bad 5 r
      else if r = [] then .ok q r else .bad 5 r
theorem fail_pr {α : Type} (fin : Nat) (e : Int) (ts : List TokD) : (failP fin e ts : PR α) = (QR.bad e ts : QR α).pr fin := by cases ts <;> rfl
theorem want_pr (fin : Nat) (s : ByteArray) (ts : List TokD) : wantP fin s ts = (wantQ s ts).pr fin := by
  unfold wantP wantQ; split
  · rfl
  · exact fail_pr ..
theorem next_pr (fin : Nat) (kind : Int) (check : ByteArray → Bool) (ts : List TokD) : nextP fin kind check ts = (nextQ kind check ts).pr fin := by
  cases ts with
  | nil => rfl
  | cons t r =>
    unfold nextP nextQ
    simp only
    split
    · split <;> rfl
    · rfl
theorem name_pr (fin : Nat) (ts : List TokD) : nameP fin ts = (nameQ ts).pr fin := next_pr ..
theorem num_pr (fin : Nat) (low high : Int) (ts : List TokD) : numP fin low high ts = (numQ low high ts).pr fin := by
  unfold numP numQ; rw [QR.pr_bind, next_pr]; rfl
theorem more_pr (fin : Nat) {oneP : List TokD → PR CondD} {oneQ : List TokD → QR CondD} (h : ∀ ts, oneP ts = (oneQ ts).pr fin) (word : ByteArray) : ∀ (k : Nat) (acc : List CondD) (ts : List TokD), moreP oneP word k acc ts = (moreQ oneQ word k acc ts).pr fin
  | 0, _, _ => rfl
  | k + 1, acc, ts => by
    unfold moreP moreQ
    split
    · rw [QR.pr_bind, h]; exact PR.bind_congr fun c r => more_pr fin h word k (acc ++ [c]) r
    · rfl
theorem series_pr (fin : Nat) {oneP : List TokD → PR CondD} {oneQ : List TokD → QR CondD} (h : ∀ ts, oneP ts = (oneQ ts).pr fin) (word : ByteArray) (op : Int) (ts : List TokD) : seriesP oneP word op ts = (seriesQ oneQ word op ts).pr fin := by
  unfold seriesP seriesQ
  rw [QR.pr_bind, h]
  refine PR.bind_congr fun c r => ?_
  rw [QR.pr_bind, more_pr fin h]
  rfl
theorem not_pr (fin : Nat) : ∀ (f : Nat) (ts : List TokD), notP fin f ts = (notQ f ts).pr fin
  | 0, ts => fail_pr ..
  | f + 1, ts => by
    unfold notP notQ
    split
    · rw [QR.pr_bind, not_pr fin f]; rfl
    split
    · rw [QR.pr_bind, series_pr fin fun ts => series_pr fin (not_pr fin f) wAnd 5 ts]
      refine PR.bind_congr fun c r => ?_
      rw [QR.pr_bind, want_pr]; rfl
    split
    · rfl
    split
    · exact fail_pr ..
    · rw [QR.pr_bind, name_pr]
      refine PR.bind_congr fun k r => ?_
      split
      · rw [QR.pr_bind, next_pr]; rfl
      split
      · rw [QR.pr_bind, num_pr]; rfl
      · rfl
theorem cond_pr (fin f : Nat) (ts : List TokD) : condP fin f ts = (condQ f ts).pr fin := series_pr fin (fun ts => series_pr fin (not_pr fin f) wAnd 5 ts) wOr 6 ts
theorem ask_pr (fin : Nat) (ts : List TokD) : askP fin ts = (askQ ts).pr fin := by
  cases ts with
  | nil => rfl
  | cons t r =>
    unfold askP askQ
    simp only
    split
    · split
      · rfl
      split
      · rw [QR.pr_bind, name_pr]; rfl
      split
      · rw [QR.pr_bind, name_pr]; refine PR.bind_congr fun i r => ?_
        rw [QR.pr_bind, want_pr]; refine PR.bind_congr fun _ r => ?_
        rw [QR.pr_bind, num_pr]; rfl
      split
      · rw [QR.pr_bind, num_pr]; refine PR.bind_congr fun n r => ?_
        rw [QR.pr_bind, want_pr]; refine PR.bind_congr fun _ r => ?_
        rw [QR.pr_bind, num_pr]; refine PR.bind_congr fun x r => ?_
        rw [QR.pr_bind, num_pr]; rfl
      split
      · rw [QR.pr_bind, name_pr]; refine PR.bind_congr fun i r => ?_
        rw [QR.pr_bind, want_pr]; refine PR.bind_congr fun _ r => ?_
        rw [QR.pr_bind, num_pr]; refine PR.bind_congr fun n r => ?_
        rw [QR.pr_bind, want_pr]; refine PR.bind_congr fun _ r => ?_
        rw [QR.pr_bind, name_pr]; refine PR.bind_congr fun p r => ?_
        rw [QR.pr_bind, want_pr]; refine PR.bind_congr fun _ r => ?_
        rw [QR.pr_bind, num_pr]; rfl
      split
      · rw [QR.pr_bind, name_pr]; rfl
      · rfl
    · rfl
theorem query_pr (fin : Nat) (ts : List TokD) : queryP fin ts = (queryQ ts).pr fin := by
  unfold queryP queryQ
  rw [QR.pr_bind, ask_pr]
  refine PR.bind_congr fun q r => ?_
  cases wordP kindsW r with
  | none => exact fail_pr ..
  | some k =>
    simp only
    split
    · rw [QR.pr_bind, cond_pr]
      refine PR.bind_congr fun c r => ?_
      split
      · rfl
      · exact fail_pr ..
    split
    · rfl
    · exact fail_pr ..

/-- Two readings that stand at the same place of two lists with a common beginning. -/
inductive Twin {α : Type} (B C : List TokD) : QR α → QR α → Prop
  | ok (a : α) (A : List TokD) : Twin B C (.ok a (A ++ B)) (.ok a (A ++ C))
  | bad (e : Int) (A : List TokD) : Twin B C (.bad e (A ++ B)) (.bad e (A ++ C))
structure Loc {α : Type} (p : List TokD → QR α) : Prop where
  suf : ∀ ts, (p ts).rest <:+ ts
  two : ∀ A t B C, Twin (t :: B) (t :: C) (p (A ++ t :: B)) (p (A ++ t :: C)) ∨ (p (A ++ t :: B)).rest.length ≤ B.length
  pre : ∀ A t B, Twin (t :: B) [] (p (A ++ t :: B)) (p A) ∨ (p A).rest = []
theorem Loc.len {α : Type} {p : List TokD → QR α} (h : Loc p) (ts : List TokD) : (p ts).rest.length ≤ ts.length := (h.suf ts).length_le
theorem Loc.nil {α : Type} {p : List TokD → QR α} (h : Loc p) : (p []).rest = [] := List.length_eq_zero_iff.1 (by have := h.len []; simpa using this)
theorem loc_ok {α : Type} (a : α) : Loc fun ts => QR.ok a ts := ⟨fun _ => List.suffix_refl _, fun A t B C => Or.inl (Twin.ok a A), fun A t B => Or.inl (by have := Twin.ok (B := t :: B) (C := []) a A; rwa [List.append_nil] at this)⟩
theorem loc_bad {α : Type} (e : Int) : Loc fun ts => (QR.bad e ts : QR α) := ⟨fun _ => List.suffix_refl _, fun A t B C => Or.inl (Twin.bad e A), fun A t B => Or.inl (by have := Twin.bad (α := α) (B := t :: B) (C := []) e A; rwa [List.append_nil] at this)⟩
theorem loc_bind {α β : Type} {p : List TokD → QR α} {f : α → List TokD → QR β} (hp : Loc p) (hf : ∀ a, Loc (f a)) : Loc fun ts => (p ts).bind f := by
  refine ⟨fun ts => ?_, fun A t B C => ?_, fun A t B => ?_⟩
  · have h1 := hp.suf ts
    cases h : p ts with
    | ok a r => rw [h] at h1; exact ((hf a).suf r).trans h1
    | bad e r => rw [h] at h1; exact h1
  · rcases hp.two A t B C with h | h
    · generalize p (A ++ t :: B) = x at h; generalize p (A ++ t :: C) = y at h
      cases h with
      | ok a A' => exact (hf a).two A' t B C
      | bad e A' => exact Or.inl (Twin.bad e A')
    · refine Or.inr ?_
      cases hx : p (A ++ t :: B) with
      | ok a r => rw [hx] at h; exact Nat.le_trans ((hf a).len r) h
      | bad e r => rw [hx] at h; exact h
  · rcases hp.pre A t B with h | h
    · generalize p (A ++ t :: B) = x at h; generalize p A = y at h
      cases h with
      | ok a A' =>
        have := (hf a).pre A' t B
        simpa [QR.bind] using this
      | bad e A' => exact Or.inl (Twin.bad e A')
    · refine Or.inr ?_
      cases hx : p A with
      | ok a r => rw [hx] at h; have h : r = [] := h; subst h; exact (hf a).nil
      | bad e r => rw [hx] at h; exact h
theorem loc_if {α : Type} (w : ByteArray) {g h : List TokD → QR α} (hg : Loc g) (hh : Loc h) : Loc fun ts => if isP w ts then g ts.tail else h ts := by
  refine ⟨fun ts => ?_, fun A t B C => ?_, fun A t B => ?_⟩
  · split
    · exact (hg.suf _).trans (List.tail_suffix ts)
    · exact hh.suf ts
  · cases A with
    | nil =>
      have e : isP w ([] ++ t :: C) = isP w ([] ++ t :: B) := rfl
      rw [e]
      split
      · exact Or.inr (hg.len B)
      · exact hh.two [] t B C
    | cons x A =>
      have e : isP w (x :: A ++ t :: C) = isP w (x :: A ++ t :: B) := rfl
      rw [e]
      split
      · exact hg.two A t B C
      · exact hh.two (x :: A) t B C
  · cases A with
    | nil => exact Or.inr (hh.nil)
    | cons x A =>
      have e : isP w (x :: A) = isP w (x :: A ++ t :: B) := rfl
      rw [e]
      split
      · exact hg.pre A t B
      · exact hh.pre (x :: A) t B
theorem loc_head {α : Type} (c : TokD → Bool) {g h : List TokD → QR α} (hg : Loc g) (hh : Loc h) : Loc fun ts => if ts.head?.any c then g ts else h ts := by
  refine ⟨fun ts => ?_, fun A t B C => ?_, fun A t B => ?_⟩
  · split
    · exact hg.suf ts
    · exact hh.suf ts
  · have e : (A ++ t :: C).head?.any c = (A ++ t :: B).head?.any c := by cases A <;> rfl
    rw [e]
    split
    · exact hg.two A t B C
    · exact hh.two A t B C
  · cases A with
    | nil => exact Or.inr hh.nil
    | cons x A =>
      have e : (x :: A).head?.any c = (x :: A ++ t :: B).head?.any c := rfl
      rw [e]
      split
      · exact hg.pre (x :: A) t B
      · exact hh.pre (x :: A) t B
theorem loc_want (s : ByteArray) : Loc (wantQ s) := loc_if s (loc_ok ()) (loc_bad 5)
theorem loc_next (kind : Int) (check : ByteArray → Bool) : Loc (nextQ kind check) := by
  have key : ∀ t r, nextQ kind check (t :: r) = if t.kind = kind then (if check t.text then .ok t.text r else .bad 10 (t :: r)) else .bad 5 (t :: r) := fun _ _ => rfl
  refine ⟨fun ts => ?_, fun A t B C => ?_, fun A t B => ?_⟩
  · cases ts with
    | nil => exact List.suffix_refl _
    | cons t r =>
      rw [key]
      split
      · split
        · exact List.suffix_cons t r
        · exact List.suffix_refl _
      · exact List.suffix_refl _
  · cases A with
    | nil =>
      rw [List.nil_append, List.nil_append, key, key]
      split
      · split
        · exact Or.inr (Nat.le_refl _)
        · exact Or.inl (Twin.bad 10 [])
      · exact Or.inl (Twin.bad 5 [])
    | cons x A =>
      rw [List.cons_append, List.cons_append, key, key]
      split
      · split
        · exact Or.inl (Twin.ok _ A)
        · exact Or.inl (Twin.bad 10 (x :: A))
      · exact Or.inl (Twin.bad 5 (x :: A))
  · cases A with
    | nil => exact Or.inr rfl
    | cons x A =>
      rw [List.cons_append, key, key]
      split
      · split
        · exact Or.inl (by have := Twin.ok (B := t :: B) (C := []) x.text A; rwa [List.append_nil] at this)
        · exact Or.inl (by have := Twin.bad (α := ByteArray) (B := t :: B) (C := []) 10 (x :: A); rwa [List.append_nil] at this)
      · exact Or.inl (by have := Twin.bad (α := ByteArray) (B := t :: B) (C := []) 5 (x :: A); rwa [List.append_nil] at this)
theorem loc_name : Loc nameQ := loc_next 1 nameB
theorem loc_num (low high : Int) : Loc (numQ low high) := loc_bind (loc_next 2 _) fun s => loc_ok (atoiN s)
theorem isP_posL {w : ByteArray} {ts : List TokD} (h : isP w ts = true) : 0 < ts.length := by cases ts with
  | nil => cases h
  | cons t r => simp
theorem loc_more {one : List TokD → QR CondD} (h : Loc one) (word : ByteArray) : ∀ (k : Nat) (acc : List CondD), Loc (moreQ one word k acc)
  | 0, acc => loc_ok acc
  | k + 1, acc => loc_if word (loc_bind h fun c => loc_more h word k (acc ++ [c])) (loc_ok acc)
theorem more_fuel {one : List TokD → QR CondD} (h : ∀ ts, (one ts).rest.length ≤ ts.length) (word : ByteArray) : ∀ (k j : Nat) (acc : List CondD) (ts : List TokD), ts.length ≤ k → ts.length ≤ j → moreQ one word k acc ts = moreQ one word j acc ts
  | 0, 0, _, _, _, _ => rfl
  | 0, j + 1, acc, ts, hk, _ => by
    have : ts = [] := List.length_eq_zero_iff.1 (by omega)
    subst this; rfl
  | k + 1, 0, acc, ts, _, hj => by
    have : ts = [] := List.length_eq_zero_iff.1 (by omega)
    subst this; rfl
  | k + 1, j + 1, acc, ts, hk, hj => by
    unfold moreQ
    split
    · rename_i hp
      have h0 := isP_posL hp
      have ht : ts.tail.length = ts.length - 1 := List.length_tail
      have h1 := h ts.tail
      cases hx : one ts.tail with
      | ok c r =>
        rw [hx] at h1
        have h1 : r.length ≤ ts.tail.length := h1
        exact more_fuel h word k j (acc ++ [c]) r (by omega) (by omega)
      | bad e r => rfl
    · rfl
/-- series with a fuel that is fixed. -/
def seriesK (K : Nat) (one : List TokD → QR CondD) (word : ByteArray) (op : Int) (ts : List TokD) : QR CondD :=
  (one ts).bind fun c r => (moreQ one word K [c] r).bind fun l r => .ok (mkP op l) r
theorem seriesK_eq {one : List TokD → QR CondD} (h : ∀ ts, (one ts).rest.length ≤ ts.length) (word : ByteArray) (op : Int) (K : Nat) (ts : List TokD) (hK : ts.length ≤ K) : seriesQ one word op ts = seriesK K one word op ts := by
  unfold seriesQ seriesK
  have h1 := h ts
  cases hx : one ts with
  | ok c r =>
    rw [hx] at h1
    have h1 : r.length ≤ ts.length := h1
    show (moreQ one word r.length [c] r).bind _ = (moreQ one word K [c] r).bind _
    rw [more_fuel h word r.length K [c] r (Nat.le_refl _) (by omega)]
  | bad e r => rfl
theorem loc_seriesK (K : Nat) {one : List TokD → QR CondD} (h : Loc one) (word : ByteArray) (op : Int) : Loc (seriesK K one word op) := loc_bind h fun c => loc_bind (loc_more h word K [c]) fun l => loc_ok (mkP op l)
/-- A reading that is local on lists of every length, each with its own fuel. -/
theorem loc_of {α : Type} {p : List TokD → QR α} (q : Nat → List TokD → QR α) (hq : ∀ K, Loc (q K)) (he : ∀ K ts, ts.length ≤ K → p ts = q K ts) : Loc p := by
  refine ⟨fun ts => ?_, fun A t B C => ?_, fun A t B => ?_⟩
  · rw [he ts.length ts (Nat.le_refl _)]; exact (hq _).suf ts
  · rw [he ((A ++ t :: B).length + (A ++ t :: C).length) (A ++ t :: B) (by omega), he ((A ++ t :: B).length + (A ++ t :: C).length) (A ++ t :: C) (by omega)]
    exact (hq _).two A t B C
  · rw [he ((A ++ t :: B).length + A.length) (A ++ t :: B) (by omega), he ((A ++ t :: B).length + A.length) A (by omega)]
    exact (hq _).pre A t B
theorem loc_series {one : List TokD → QR CondD} (h : Loc one) (word : ByteArray) (op : Int) : Loc (seriesQ one word op) :=
  loc_of (fun K => seriesK K one word op) (fun K => loc_seriesK K h word op) fun K ts hK => seriesK_eq h.len word op K ts hK
theorem loc_not : ∀ f : Nat, Loc (notQ f)
  | 0 => loc_bad 5
  | f + 1 => by
    have hf := loc_not f
    exact loc_if wNot (loc_bind hf fun c => loc_ok _) (loc_if wOpen (loc_bind (loc_series (loc_series hf wAnd 5) wOr 6) fun c => loc_bind (loc_want wClose) fun _ => loc_ok c)
      (loc_if wAlways (loc_ok _) (loc_head (fun t => resB t.text) (loc_bad 5) (loc_bind loc_name fun k =>
        loc_if wIs (loc_bind (loc_next 3 _) fun v => loc_ok _) (loc_if wMore (loc_bind (loc_num 0 9999999) fun n => loc_ok _) (loc_ok _))))))
theorem loc_cond (f : Nat) : Loc (condQ f) := loc_series (loc_series (loc_not f) wAnd 5) wOr 6
/-- series of two readings that are the same on shorter lists. -/
theorem more_same {p q : List TokD → QR CondD} {n : Nat} (h : ∀ ts, ts.length < n → p ts = q ts) (hq : ∀ ts, (q ts).rest.length ≤ ts.length) (word : ByteArray) : ∀ (k : Nat) (acc : List CondD) (ts : List TokD), ts.length < n → moreQ p word k acc ts = moreQ q word k acc ts
  | 0, _, _, _ => rfl
  | k + 1, acc, ts, hn => by
    unfold moreQ
    split
    · have ht : ts.tail.length = ts.length - 1 := List.length_tail
      rw [h ts.tail (by omega)]
      have h1 := hq ts.tail
      cases hx : q ts.tail with
      | ok c r =>
        rw [hx] at h1
        have h1 : r.length ≤ ts.tail.length := h1
        exact more_same h hq word k (acc ++ [c]) r (by omega)
      | bad e r => rfl
    · rfl
theorem series_same {p q : List TokD → QR CondD} {n : Nat} (h : ∀ ts, ts.length < n → p ts = q ts) (hq : ∀ ts, (q ts).rest.length ≤ ts.length) (word : ByteArray) (op : Int) (ts : List TokD) (hn : ts.length < n) : seriesQ p word op ts = seriesQ q word op ts := by
  unfold seriesQ
  rw [h ts hn]
  have h1 := hq ts
  cases hx : q ts with
  | ok c r =>
    rw [hx] at h1
    have h1 : r.length ≤ ts.length := h1
    show (moreQ p word r.length [c] r).bind _ = (moreQ q word r.length [c] r).bind _
    rw [more_same h hq word r.length [c] r (by omega)]
  | bad e r => rfl
theorem not_fuel : ∀ (f g : Nat) (ts : List TokD), ts.length < f → ts.length < g → notQ f ts = notQ g ts
  | 0, _, _, h, _ => by omega
  | _ + 1, 0, _, _, h => by omega
  | f + 1, g + 1, ts, hf, hg => by
    have ht : ts.tail.length = ts.length - 1 := List.length_tail
    unfold notQ
    split
    · rename_i hp
      have h0 := isP_posL hp
      rw [not_fuel f g ts.tail (by omega) (by omega)]
    split
    · rename_i hp
      have h0 := isP_posL hp
      have e : seriesQ (seriesQ (notQ f) wAnd 5) wOr 6 ts.tail = seriesQ (seriesQ (notQ g) wAnd 5) wOr 6 ts.tail :=
        series_same (n := min f g) (fun us hu => series_same (n := min f g) (fun vs hv => not_fuel f g vs (by omega) (by omega)) (loc_not g).len wAnd 5 us hu) (loc_series (loc_not g) wAnd 5).len wOr 6 ts.tail (by omega)
      rw [e]
    · rfl
theorem cond_fuel (f g : Nat) (ts : List TokD) (hf : ts.length < f) (hg : ts.length < g) : condQ f ts = condQ g ts :=
  series_same (n := min f g) (fun us hu => series_same (n := min f g) (fun vs hv => not_fuel f g vs (by omega) (by omega)) (loc_not g).len wAnd 5 us hu) (loc_series (loc_not g) wAnd 5).len wOr 6 ts (by omega)

/-- A reading that goes by its first token. -/
theorem loc_first {α : Type} {p : List TokD → QR α} (e : Int) (G : TokD → Option (List TokD → QR α)) (hG : ∀ t g, G t = some g → Loc g) (h0 : p [] = .bad e []) (h1 : ∀ t r, p (t :: r) = match G t with | some g => g r | none => .bad 5 (t :: r)) : Loc p := by
  refine ⟨fun ts => ?_, fun A t B C => ?_, fun A t B => ?_⟩
  · cases ts with
    | nil => rw [h0]; exact List.suffix_refl _
    | cons t r =>
      rw [h1]
      cases hg : G t with
      | none => exact List.suffix_refl _
      | some g => exact ((hG t g hg).suf r).trans (List.suffix_cons t r)
  · cases A with
    | nil =>
      rw [List.nil_append, List.nil_append, h1, h1]
      cases hg : G t with
      | none => exact Or.inl (Twin.bad 5 [])
      | some g => exact Or.inr ((hG t g hg).len B)
    | cons x A =>
      rw [List.cons_append, List.cons_append, h1, h1]
      cases hg : G x with
      | none => exact Or.inl (Twin.bad 5 (x :: A))
      | some g => exact (hG x g hg).two A t B C
  · cases A with
    | nil => rw [h0]; exact Or.inr rfl
    | cons x A =>
      rw [List.cons_append, h1, h1]
      cases hg : G x with
      | none => exact Or.inl (by have := Twin.bad (α := α) (B := t :: B) (C := []) 5 (x :: A); rwa [List.append_nil] at this)
      | some g => exact (hG x g hg).pre A t B
def askG (t : TokD) : Option (List TokD → QR QryD) :=
  let q : QryD := ⟨0, 0, .mk 0 emptyB emptyB 0 [], emptyB, 0, 0, 0, emptyB, emptyB, 0⟩
  if t.kind = 1 then
    if t.text = wAll then some fun r => .ok { q with ask := 1 } r
    else if t.text = wInside then some fun r => (nameQ r).bind fun i r => .ok { q with ask := 2, id := i } r
    else if t.text = wAlong then some fun r => (nameQ r).bind fun i r => (wantQ wBy r).bind fun _ r => (numQ 0 1048576 r).bind fun n r => .ok { q with ask := 3, id := i, n := n } r
    else if t.text = wNearest then some fun r => (numQ 1 10000 r).bind fun n r => (wantQ wTo r).bind fun _ r => (numQ 0 1048575 r).bind fun x r => (numQ 0 1048575 r).bind fun y r => .ok { q with ask := 4, n := n, x := x, y := y } r
    else if t.text = wReach then some fun r => (nameQ r).bind fun i r => (wantQ wIn r).bind fun _ r => (numQ 0 10080 r).bind fun n r => (wantQ wBy r).bind fun _ r => (nameQ r).bind fun p r => (wantQ wAt r).bind fun _ r => (numQ 0 9999999 r).bind fun m r => .ok { q with ask := 5, id := i, n := n, prof := p, minute := m } r
    else if t.text = wCount then some fun r => (nameQ r).bind fun k r => .ok { q with ask := 6, key := k } r
    else none
  else none
theorem askG_loc (t : TokD) (g : List TokD → QR QryD) (h : askG t = some g) : Loc g := by
  unfold askG at h
  simp only at h
  split at h
  · split at h
    · injection h with h; subst h; exact loc_ok _
    split at h
    · injection h with h; subst h; exact loc_bind loc_name fun _ => loc_ok _
    split at h
    · injection h with h; subst h; exact loc_bind loc_name fun _ => loc_bind (loc_want _) fun _ => loc_bind (loc_num _ _) fun _ => loc_ok _
    split at h
    · injection h with h; subst h; exact loc_bind (loc_num _ _) fun _ => loc_bind (loc_want _) fun _ => loc_bind (loc_num _ _) fun _ => loc_bind (loc_num _ _) fun _ => loc_ok _
    split at h
    · injection h with h; subst h
      exact loc_bind loc_name fun _ => loc_bind (loc_want _) fun _ => loc_bind (loc_num _ _) fun _ => loc_bind (loc_want _) fun _ => loc_bind loc_name fun _ => loc_bind (loc_want _) fun _ => loc_bind (loc_num _ _) fun _ => loc_ok _
    split at h
    · injection h with h; subst h; exact loc_bind loc_name fun _ => loc_ok _
    · cases h
  · cases h
theorem loc_ask : Loc askQ := loc_first 6 askG askG_loc rfl fun t r => by
  unfold askG askQ
  simp only
  split
  · split
    · rfl
    split
    · rfl
    split
    · rfl
    split
    · rfl
    split
    · rfl
    split
    · rfl
    · rfl
  · rfl
theorem loc_end {α : Type} (a : α) : Loc fun r : List TokD => if r = [] then QR.ok a r else QR.bad 5 r := by
  refine ⟨fun ts => ?_, fun A t B C => ?_, fun A t B => ?_⟩
  · split
    · exact List.suffix_refl _
    · exact List.suffix_refl _
  · rw [if_neg (by simp), if_neg (by simp)]; exact Or.inl (Twin.bad 5 A)
  · rw [if_neg (by simp)]
    by_cases h : A = []
    · rw [if_pos h]; exact Or.inr h
    · rw [if_neg h]; exact Or.inl (by have := Twin.bad (α := α) (B := t :: B) (C := []) 5 A; rwa [List.append_nil] at this)
/-- The end of a query, behind the word of its kind. -/
def tailQ (q : QryD) (r : List TokD) : QR QryD :=
  if isP wWhere r then (condQ r.length r.tail).bind fun c r => if r = [] then .ok { q with wher := c } r else .bad 5 r
  else if r = [] then .ok q r else .bad 5 r
theorem loc_tail (q : QryD) : Loc (tailQ q) := by
  have h1 : Loc fun ts : List TokD => condQ (ts.length + 1) ts := loc_of (fun K => condQ (K + 1)) (fun K => loc_cond (K + 1)) fun K ts h => cond_fuel _ _ ts (by omega) (by omega)
  have h2 : Loc fun r : List TokD => if isP wWhere r then (condQ (r.tail.length + 1) r.tail).bind fun c r => if r = [] then .ok { q with wher := c } r else .bad 5 r else if r = [] then .ok q r else .bad 5 r :=
    loc_if wWhere (loc_bind h1 fun c => loc_end { q with wher := c }) (loc_end q)
  have e : tailQ q = fun r : List TokD => if isP wWhere r then (condQ (r.tail.length + 1) r.tail).bind fun c r => if r = [] then .ok { q with wher := c } r else .bad 5 r else if r = [] then .ok q r else .bad 5 r := by
    funext r
    unfold tailQ
    split
    · rename_i hp
      have := isP_posL hp
      have ht : r.tail.length = r.length - 1 := List.length_tail
      rw [show r.tail.length + 1 = r.length by omega]
    · rfl
  rw [e]; exact h2
theorem word_first (t : TokD) : ∀ (l : List ByteArray) (r : List TokD), wordP l (t :: r) = wordP l [t]
  | [], _ => rfl
  | w :: l, r => by
    unfold wordP
    rw [word_first t l r]
    rfl
theorem loc_kind (q : QryD) : Loc fun r : List TokD => match wordP kindsW r with
    | none => QR.bad 5 r
    | some k => tailQ { q with kind := (k : Int), wher := allW } r.tail :=
  loc_first 5 (fun t => (wordP kindsW [t]).map fun k => tailQ { q with kind := (k : Int), wher := allW }) (fun t g h => by
      cases hw : wordP kindsW [t] with
      | none => rw [hw] at h; cases h
      | some k => rw [hw] at h; injection h with h; subst h; exact loc_tail _) rfl fun t r => by
    rw [word_first]
    cases wordP kindsW [t] <;> rfl
theorem loc_query : Loc queryQ := loc_bind loc_ask fun q => loc_kind q
theorem Twin.bad_eq {α : Type} {B C : List TokD} {e : Int} {r : List TokD} {y : QR α} (h : Twin B C (.bad e r) y) (hr : r = B) : y = .bad e C := by
  cases h with
  | bad e A =>
    have : A = [] := by
      have := congrArg List.length hr
      rw [List.length_append] at this
      exact List.length_eq_zero_iff.1 (by omega)
    subst this; rfl
/-- Where an error stands. -/
theorem query_at {fin : Nat} {ts : List TokD} {e : Int} {off : Nat} (h : queryP fin ts = .bad e off) (he : e ≠ 6) : ∃ A t B, ts = A ++ t :: B ∧ off = t.off ∧ queryQ ts = .bad e (t :: B) := by
  rw [query_pr] at h
  have hs := loc_query.suf ts
  cases hq : queryQ ts with
  | ok a r => rw [hq] at h; cases h
  | bad e' r =>
    rw [hq] at h hs
    cases r with
    | nil => injection h with h _; exact absurd h.symm he
    | cons t B =>
      injection h with h1 h2
      subst h1
      obtain ⟨A, hA⟩ := hs
      exact ⟨A, t, B, hA.symm, h2.symm, rfl⟩
/-- Whatever follows the token keeps its error. -/
theorem query_keeps {A B : List TokD} {t : TokD} {e : Int} (h : queryQ (A ++ t :: B) = .bad e (t :: B)) (C : List TokD) (fin : Nat) : queryP fin (A ++ t :: C) = .bad e t.off := by
  rw [query_pr]
  rcases loc_query.two A t B C with h1 | h1
  · rw [h] at h1; rw [h1.bad_eq rfl]; rfl
  · rw [h] at h1
    have h1 : (t :: B).length ≤ B.length := h1
    simp at h1
    omega
/-- The tokens before it are a query, or end too early. -/
theorem query_before {A B : List TokD} {t : TokD} {e : Int} (h : queryQ (A ++ t :: B) = .bad e (t :: B)) (fin : Nat) : (∃ q, queryP fin A = .ok q []) ∨ queryP fin A = .bad 6 fin := by
  rw [query_pr]
  rcases loc_query.pre A t B with h1 | h1
  · rw [h] at h1; rw [h1.bad_eq rfl]; exact Or.inr rfl
  · cases hq : queryQ A with
    | ok q r => rw [hq] at h1; have h1 : r = [] := h1; subst h1; exact Or.inl ⟨q, rfl⟩
    | bad e' r => rw [hq] at h1; have h1 : r = [] := h1; subst h1; exact Or.inr rfl
end Go.Proofs.YtdfenhjibnfdeaaGreatDoor
