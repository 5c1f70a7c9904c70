/- A text made of tokens' words has these tokens; a condition in parentheses is read as the condition. -/
import Derived.Test.YtdfenhjibnfdeaaGreatDoorQtP
open Go
namespace Go.Proofs.YtdfenhjibnfdeaaGreatDoor
/-- Tokens alike but for their places. -/
def SimT (a b : List TokD) : Prop := a.map (fun t => (t.kind, t.text)) = b.map (fun t => (t.kind, t.text))
/-- Outcomes alike but for an error's place. -/
def SimR {α : Type} : PR α → PR α → Prop
  | .ok a r, .ok b s => a = b ∧ SimT r s
  | .bad e _, .bad f _ => e = f
  | _, _ => False
theorem SimT.cases {a b : List TokD} (h : SimT a b) : (a = [] ∧ b = []) ∨ ∃ t r u s, a = t :: r ∧ b = u :: s ∧ t.kind = u.kind ∧ t.text = u.text ∧ SimT r s := by
  cases a with
  | nil => cases b with
    | nil => exact .inl ⟨rfl, rfl⟩
    | cons u s => simp [SimT] at h
  | cons t r => cases b with
    | nil => simp [SimT] at h
    | cons u s =>
      simp only [SimT, List.map_cons, List.cons.injEq, Prod.mk.injEq] at h
      exact .inr ⟨t, r, u, s, rfl, rfl, h.1.1, h.1.2, h.2⟩
theorem SimT.tail {a b : List TokD} (h : SimT a b) : SimT a.tail b.tail := by
  rcases h.cases with ⟨rfl, rfl⟩ | ⟨t, r, u, s, rfl, rfl, -, -, h⟩
  · exact h
  · exact h
theorem SimT.len {a b : List TokD} (h : SimT a b) : a.length = b.length := by
  have := congrArg List.length h; simpa using this
theorem SimT.nil {a b : List TokD} (h : SimT a b) : (a = []) = (b = []) := by
  rcases h.cases with ⟨rfl, rfl⟩ | ⟨t, r, u, s, rfl, rfl, -, -, h⟩ <;> simp
theorem SimR.bind {α β : Type} {x y : PR α} {f g : α → List TokD → PR β} (h : SimR x y) (hf : ∀ a r s, SimT r s → SimR (f a r) (g a s)) : SimR (x.bind f) (y.bind g) := by
  cases x <;> cases y <;> simp only [SimR] at h
  · obtain ⟨rfl, h⟩ := h; exact hf _ _ _ h
  · exact h
theorem sim_fail {α : Type} {F G : Nat} {e : Int} {a b : List TokD} (h : SimT a b) : SimR (failP (α := α) F e a) (failP G e b) := by
  rcases h.cases with ⟨rfl, rfl⟩ | ⟨t, r, u, s, rfl, rfl, -, -, h⟩ <;> simp [failP, SimR]
theorem sim_is {w : ByteArray} {a b : List TokD} (h : SimT a b) : isP w a = isP w b := by
  rcases h.cases with ⟨rfl, rfl⟩ | ⟨t, r, u, s, rfl, rfl, hk, ht, h⟩
  · rfl
  · simp only [isP, hk, ht]
theorem sim_want {F G : Nat} {w : ByteArray} {a b : List TokD} (h : SimT a b) : SimR (wantP F w a) (wantP G w b) := by
  unfold wantP; rw [sim_is h]; split
  · exact ⟨rfl, h.tail⟩
  · exact sim_fail h
theorem sim_next {F G : Nat} {k : Int} {p : ByteArray → Bool} {a b : List TokD} (h : SimT a b) : SimR (nextP F k p a) (nextP G k p b) := by
  rcases h.cases with ⟨rfl, rfl⟩ | ⟨t, r, u, s, rfl, rfl, hk, ht, h⟩
  · simp [nextP, SimR]
  · simp only [nextP, hk, ht]; split
    · split
      · exact ⟨rfl, h⟩
      · rfl
    · rfl
theorem sim_name {F G : Nat} {a b : List TokD} (h : SimT a b) : SimR (nameP F a) (nameP G b) := sim_next h
theorem sim_num {F G : Nat} {l m : Int} {a b : List TokD} (h : SimT a b) : SimR (numP F l m a) (numP G l m b) :=
  (sim_next h).bind fun _ _ _ h => ⟨rfl, h⟩
theorem sim_more {one two : List TokD → PR CondD} (ho : ∀ a b, SimT a b → SimR (one a) (two b)) (w : ByteArray) : ∀ (k : Nat) (acc : List CondD) (a b : List TokD), SimT a b → SimR (moreP one w k acc a) (moreP two w k acc b)
  | 0, _, _, _, h => ⟨rfl, h⟩
  | k + 1, acc, a, b, h => by
    simp only [moreP]; rw [sim_is h]; split
    · exact (ho _ _ h.tail).bind fun c r s h => sim_more ho w k _ r s h
    · exact ⟨rfl, h⟩
theorem sim_series {one two : List TokD → PR CondD} (ho : ∀ a b, SimT a b → SimR (one a) (two b)) (w : ByteArray) (o : Int) (a b : List TokD) (h : SimT a b) : SimR (seriesP one w o a) (seriesP two w o b) := by
  unfold seriesP
  refine (ho _ _ h).bind fun c r s h => ?_
  rw [h.len]
  exact (sim_more ho w _ _ r s h).bind fun l r s h => ⟨rfl, h⟩
theorem sim_not (F G : Nat) : ∀ (f : Nat) (a b : List TokD), SimT a b → SimR (notP F f a) (notP G f b)
  | 0, _, _, h => sim_fail h
  | f + 1, a, b, h => by
    have hr : (a.head?.any fun t => resB t.text) = (b.head?.any fun t => resB t.text) := by
      rcases h.cases with ⟨rfl, rfl⟩ | ⟨t, r, u, s, rfl, rfl, hk, ht, h⟩
      · rfl
      · simp [ht]
    simp only [notP]; rw [sim_is h, sim_is (w := wOpen) h, sim_is (w := wAlways) h, hr]
    split
    · exact (sim_not F G f _ _ h.tail).bind fun c r s h => ⟨rfl, h⟩
    split
    · exact (sim_series (fun a b h => sim_series (sim_not F G f) wAnd 5 a b h) wOr 6 _ _ h.tail).bind fun c r s h => (sim_want h).bind fun _ r s h => ⟨rfl, h⟩
    split
    · exact ⟨rfl, h.tail⟩
    split
    · exact sim_fail h
    · refine (sim_name h).bind fun k r s h => ?_
      rw [sim_is h, sim_is (w := wMore) h]
      split
      · exact (sim_next h.tail).bind fun _ _ _ h => ⟨rfl, h⟩
      split
      · exact (sim_num h.tail).bind fun _ _ _ h => ⟨rfl, h⟩
      · exact ⟨rfl, h⟩
theorem sim_cond (F G f : Nat) (a b : List TokD) (h : SimT a b) : SimR (condP F f a) (condP G f b) :=
  sim_series (fun a b h => sim_series (sim_not F G f) wAnd 5 a b h) wOr 6 a b h
theorem sim_ask (F G : Nat) (a b : List TokD) (h : SimT a b) : SimR (askP F a) (askP G b) := by
  rcases h.cases with ⟨rfl, rfl⟩ | ⟨t, r, u, s, rfl, rfl, hk, ht, h⟩
  · simp [askP, SimR]
  · simp only [askP, hk, ht]
    split
    · split
      · exact ⟨rfl, h⟩
      split
      · exact (sim_name h).bind fun _ _ _ h => ⟨rfl, h⟩
      split
      · exact (sim_name h).bind fun _ _ _ h => (sim_want h).bind fun _ _ _ h => (sim_num h).bind fun _ _ _ h => ⟨rfl, h⟩
      split
      · exact (sim_num h).bind fun _ _ _ h => (sim_want h).bind fun _ _ _ h => (sim_num h).bind fun _ _ _ h => (sim_num h).bind fun _ _ _ h => ⟨rfl, h⟩
      split
      · exact (sim_name h).bind fun _ _ _ h => (sim_want h).bind fun _ _ _ h => (sim_num h).bind fun _ _ _ h => (sim_want h).bind fun _ _ _ h => (sim_name h).bind fun _ _ _ h => (sim_want h).bind fun _ _ _ h => (sim_num h).bind fun _ _ _ h => ⟨rfl, h⟩
      split
      · exact (sim_name h).bind fun _ _ _ h => ⟨rfl, h⟩
      · rfl
    · rfl
theorem sim_word (l : List ByteArray) {a b : List TokD} (h : SimT a b) : wordP l a = wordP l b := by
  induction l with
  | nil => rfl
  | cons w l ih => simp only [wordP, sim_is h, ih]
/-- A query is read alike. -/
theorem sim_query (F G : Nat) (a b : List TokD) (h : SimT a b) : SimR (queryP F a) (queryP G b) := by
  unfold queryP
  refine (sim_ask F G a b h).bind fun q r s h => ?_
  rw [sim_word kindsW h]
  split
  · exact sim_fail h
  · simp only []
    rw [sim_is h.tail, h.tail.len]; simp only [h.tail.nil]
    split
    · refine (sim_cond F G _ _ _ h.tail.tail).bind fun c r s h => ?_
      simp only [h.nil]; split
      · exact ⟨rfl, h⟩
      · exact sim_fail h
    · split
      · exact ⟨rfl, h.tail⟩
      · exact sim_fail h.tail
end Go.Proofs.YtdfenhjibnfdeaaGreatDoor
open Go
namespace Go.Proofs.YtdfenhjibnfdeaaGreatDoor
/-- What stands between the quotes reads as the string. -/
theorem unq_esc_all (Y : List UInt8) : ∀ t : List UInt8, unqL (t.flatMap escC ++ 34 :: Y) = some (t, (t.flatMap escC).length + 1)
  | [] => unq_end Y rfl
  | c :: t => by
    have ih := unq_esc_all Y t
    rw [List.flatMap_cons, List.append_assoc, List.length_append]
    generalize t.flatMap escC ++ 34 :: Y = q at ih ⊢
    generalize (t.flatMap escC).length = m at ih ⊢
    unfold escC
    split
    · rename_i h
      have e : c = 10 := UInt8.toNat_inj.1 h
      subst e
      show unqL (92 :: 110 :: q) = _
      rw [unq_esc _ rfl, ih]; simp; omega
    · rename_i h
      split
      · rename_i h'
        show unqL (92 :: c :: q) = _
        rw [unq_esc _ rfl, ih]
        rcases h' with h' | h'
        · have e : c = 34 := UInt8.toNat_inj.1 h'
          subst e; simp; omega
        · have e : c = 92 := UInt8.toNat_inj.1 h'
          subst e; simp; omega
      · rename_i h'
        show unqL (c :: q) = _
        rw [unq_one q (fun e => h' (.inl e)) h (fun e => h' (.inr e)), ih]; simp; omega
/-- A quoted string is one token. -/
theorem scan_quoted (t Y : List UInt8) : scan1 (quoteL t ++ Y) = ((quoteL t).length, some (3, bytesOf t, 0)) := by
  have h := scan_quote (c := 34) (r := t.flatMap escC ++ 34 :: Y) (by decide) (unq_esc_all Y t)
  simpa [quoteL, List.append_assoc] using h
end Go.Proofs.YtdfenhjibnfdeaaGreatDoor
open Go
namespace Go.Proofs.YtdfenhjibnfdeaaGreatDoor
/-- Tokens with which no condition goes on. -/
def StopX (X : List TokD) : Prop := isP wAnd X = false ∧ isP wOr X = false ∧ isP wIs X = false ∧ isP wMore X = false
theorem PR.bind_ok {α β : Type} {x : PR α} {f : α → List TokD → PR β} {b : β} {s : List TokD} (h : x.bind f = .ok b s) : ∃ a r, x = .ok a r ∧ f a r = .ok b s := by
  cases x with
  | ok a r => exact ⟨a, r, rfl, h⟩
  | bad e o => cases h
theorem fail_ok {α : Type} {F : Nat} {e : Int} {ts : List TokD} {a : α} {r : List TokD} (h : failP F e ts = .ok a r) : False := by
  cases ts <;> cases h
theorem is_cons {w : ByteArray} {ts : List TokD} (h : isP w ts = true) : ∃ t r, ts = t :: r ∧ t.text = w := by
  cases ts with
  | nil => cases h
  | cons t r =>
    rw [isP, Bool.and_eq_true] at h
    exact ⟨t, r, rfl, by simpa using h.1⟩
theorem next_ok {F : Nat} {k : Int} {p : ByteArray → Bool} {ts : List TokD} {a : ByteArray} {r : List TokD} (h : nextP F k p ts = .ok a r) :
    ∃ t, ts = t :: r ∧ t.kind = k ∧ t.text = a ∧ ∀ G Y, nextP G k p (t :: Y) = .ok a Y := by
  cases ts with
  | nil => cases h
  | cons t q =>
    rw [nextP] at h
    split at h
    · rename_i hk
      split at h
      · rename_i hp
        injection h with h1 h2
        subst h1 h2
        exact ⟨t, rfl, hk, rfl, fun G Y => by rw [nextP, if_pos hk, if_pos hp]⟩
      · cases h
    · cases h
theorem num_ok {F : Nat} {l m : Int} {ts : List TokD} {a : Int} {r : List TokD} (h : numP F l m ts = .ok a r) :
    ∃ t, ts = t :: r ∧ t.kind = 2 ∧ ∀ G Y, numP G l m (t :: Y) = .ok a Y := by
  obtain ⟨s, q, h1, h2⟩ := PR.bind_ok h
  obtain ⟨t, ht, hk, hs, hG⟩ := next_ok h1
  injection h2 with h2 h3
  subst h2 h3
  exact ⟨t, ht, hk, fun G Y => by unfold numP; rw [hG]; rfl⟩
theorem want_ok {F : Nat} {w : ByteArray} {ts : List TokD} {a : Unit} {r : List TokD} (h : wantP F w ts = .ok a r) :
    ∃ t, ts = t :: r ∧ t.text = w ∧ ∀ G Y, wantP G w (t :: Y) = .ok a Y := by
  unfold wantP at h
  split at h
  · rename_i hi
    obtain ⟨t, q, rfl, ht⟩ := is_cons hi
    injection h with h1 h2
    refine ⟨t, by rw [← h2]; rfl, ht, fun G Y => ?_⟩
    unfold wantP
    rw [show isP w (t :: Y) = true from hi]
    rfl
  · exact (fail_ok h).elim
/-- Readings that take tokens whatever follows. -/
def Reads {α : Type} (p : Nat → List TokD → PR α) : Prop := ∀ F ts a r, p F ts = .ok a r → ∃ U, ts = U ++ r ∧ ∀ G Y, p G (U ++ Y) = .ok a Y
theorem reads_ok {α : Type} (a : α) : Reads fun _ ts => PR.ok a ts := fun F ts b r h => by
  injection h with h1 h2
  subst h1 h2
  exact ⟨[], rfl, fun G Y => rfl⟩
theorem reads_bind {α β : Type} {p : Nat → List TokD → PR α} {f : Nat → α → List TokD → PR β} (hp : Reads p) (hf : ∀ a, Reads fun F ts => f F a ts) : Reads fun F ts => (p F ts).bind (f F) := fun F ts b r h => by
  obtain ⟨a, s, h1, h2⟩ := PR.bind_ok h
  obtain ⟨U, u1, u2⟩ := hp _ _ _ _ h1
  obtain ⟨V, v1, v2⟩ := hf a _ _ _ _ h2
  refine ⟨U ++ V, by rw [u1, v1, List.append_assoc], fun G Y => ?_⟩
  show (p G (U ++ V ++ Y)).bind _ = _
  rw [List.append_assoc, u2]
  exact v2 G Y
theorem reads_name : Reads nameP := fun F ts a r h => by
  obtain ⟨t, rfl, -, -, hG⟩ := next_ok h
  exact ⟨[t], rfl, hG⟩
theorem reads_num (l m : Int) : Reads fun F ts => numP F l m ts := fun F ts a r h => by
  obtain ⟨t, rfl, -, hG⟩ := num_ok h
  exact ⟨[t], rfl, hG⟩
theorem reads_want (w : ByteArray) : Reads fun F ts => wantP F w ts := fun F ts a r h => by
  obtain ⟨t, rfl, -, hG⟩ := want_ok h
  exact ⟨[t], rfl, hG⟩
theorem ask_ok {F : Nat} {ts : List TokD} {q : QryD} {r : List TokD} (h : askP F ts = .ok q r) : ∃ U, U ≠ [] ∧ ts = U ++ r ∧ ∀ G Y, askP G (U ++ Y) = .ok q Y := by
  cases ts with
  | nil => cases h
  | cons t s =>
    have key : ∀ p : Nat → List TokD → PR QryD, Reads p → (∀ G Y, askP G (t :: Y) = p G Y) → ∃ U, U ≠ [] ∧ t :: s = U ++ r ∧ ∀ G Y, askP G (U ++ Y) = .ok q Y := fun p hp he => by
      rw [he] at h
      obtain ⟨U, u1, u2⟩ := hp _ _ _ _ h
      exact ⟨t :: U, List.cons_ne_nil _ _, by rw [u1]; rfl, fun G Y => by rw [List.cons_append, he]; exact u2 G Y⟩
    by_cases hk : t.kind = 1
    · by_cases h1 : t.text = wAll
      · exact key (fun _ ts => .ok ⟨1, 0, .mk 0 emptyB emptyB 0 [], emptyB, 0, 0, 0, emptyB, emptyB, 0⟩ ts) (reads_ok _) fun G Y => by simp only [askP, if_pos hk, if_pos h1]
      by_cases h2 : t.text = wInside
      · exact key _ (reads_bind reads_name fun i => reads_ok _) fun G Y => by simp only [askP, if_pos hk, if_neg h1, if_pos h2]; rfl
      by_cases h3 : t.text = wAlong
      · exact key _ (reads_bind reads_name fun i => reads_bind (reads_want wBy) fun _ => reads_bind (reads_num 0 1048576) fun n => reads_ok _) fun G Y => by simp only [askP, if_pos hk, if_neg h1, if_neg h2, if_pos h3]; rfl
      by_cases h4 : t.text = wNearest
      · exact key _ (reads_bind (reads_num 1 10000) fun n => reads_bind (reads_want wTo) fun _ => reads_bind (reads_num 0 1048575) fun x => reads_bind (reads_num 0 1048575) fun y => reads_ok _) fun G Y => by simp only [askP, if_pos hk, if_neg h1, if_neg h2, if_neg h3, if_pos h4]; rfl
      by_cases h5 : t.text = wReach
      · exact key _ (reads_bind reads_name fun i => reads_bind (reads_want wIn) fun _ => reads_bind (reads_num 0 10080) fun n => reads_bind (reads_want wBy) fun _ => reads_bind reads_name fun p => reads_bind (reads_want wAt) fun _ => reads_bind (reads_num 0 9999999) fun m => reads_ok _) fun G Y => by simp only [askP, if_pos hk, if_neg h1, if_neg h2, if_neg h3, if_neg h4, if_pos h5]; rfl
      by_cases h6 : t.text = wCount
      · exact key _ (reads_bind reads_name fun i => reads_ok _) fun G Y => by simp only [askP, if_pos hk, if_neg h1, if_neg h2, if_neg h3, if_neg h4, if_neg h5, if_pos h6]; rfl
      · simp only [askP, if_pos hk, if_neg h1, if_neg h2, if_neg h3, if_neg h4, if_neg h5, if_neg h6] at h; cases h
    · simp only [askP, if_neg hk] at h; cases h
theorem word_firstP (K : TokD) : ∀ (l : List ByteArray) (r : List TokD), wordP l (K :: r) = wordP l [K]
  | [], _ => rfl
  | w :: l, r => by rw [wordP, wordP, word_firstP K l r]; rfl
/-- An outcome is no error with number 0. -/
def NZ {α : Type} (x : PR α) : Prop := ∀ e o, x = .bad e o → e ≠ 0
theorem nz_ok {α : Type} (a : α) (r : List TokD) : NZ (PR.ok a r) := fun e o h => by cases h
theorem nz_bad {α : Type} {e : Int} (o : Nat) (he : e ≠ 0) : NZ (PR.bad (α := α) e o) := fun e' o' h => by
  injection h with h1 h2
  rw [← h1]; exact he
theorem nz_fail {α : Type} (F : Nat) {e : Int} (he : e ≠ 0) (ts : List TokD) : NZ (failP (α := α) F e ts) := by
  cases ts with
  | nil => exact nz_bad _ (by decide)
  | cons t r => exact nz_bad _ he
theorem nz_bind {α β : Type} {x : PR α} {f : α → List TokD → PR β} (hx : NZ x) (hf : ∀ a r, NZ (f a r)) : NZ (x.bind f) := by
  cases x with
  | ok a r => exact hf a r
  | bad e o => exact nz_bad _ (hx e o rfl)
theorem nz_next (F : Nat) (k : Int) (p : ByteArray → Bool) (ts : List TokD) : NZ (nextP F k p ts) := by
  cases ts with
  | nil => exact nz_bad _ (by decide)
  | cons t r =>
    rw [nextP]
    split
    · split
      · exact nz_ok _ _
      · exact nz_bad _ (by decide)
    · exact nz_bad _ (by decide)
theorem nz_name (F : Nat) (ts : List TokD) : NZ (nameP F ts) := nz_next F 1 nameB ts
theorem nz_num (F : Nat) (l m : Int) (ts : List TokD) : NZ (numP F l m ts) := nz_bind (nz_next F 2 _ ts) fun _ _ => nz_ok _ _
theorem nz_want (F : Nat) (w : ByteArray) (ts : List TokD) : NZ (wantP F w ts) := by
  unfold wantP; split
  · exact nz_ok _ _
  · exact nz_fail _ (by decide) _
theorem nz_more {one : List TokD → PR CondD} (ho : ∀ ts, NZ (one ts)) (w : ByteArray) : ∀ (k : Nat) (acc : List CondD) (ts : List TokD), NZ (moreP one w k acc ts)
  | 0, _, _ => nz_ok _ _
  | k + 1, acc, ts => by
    rw [moreP]; split
    · exact nz_bind (ho _) fun c r => nz_more ho w k _ r
    · exact nz_ok _ _
theorem nz_series {one : List TokD → PR CondD} (ho : ∀ ts, NZ (one ts)) (w : ByteArray) (o : Int) (ts : List TokD) : NZ (seriesP one w o ts) :=
  nz_bind (ho _) fun _c _r => nz_bind (nz_more ho w _ _ _) fun _ _ => nz_ok _ _
theorem nz_not (F : Nat) : ∀ (f : Nat) (ts : List TokD), NZ (notP F f ts)
  | 0, _ => nz_fail _ (by decide) _
  | f + 1, ts => by
    rw [notP]
    split
    · exact nz_bind (nz_not F f _) fun _ _ => nz_ok _ _
    split
    · exact nz_bind (nz_series (fun ts => nz_series (nz_not F f) wAnd 5 ts) wOr 6 _) fun _ _ => nz_bind (nz_want _ _ _) fun _ _ => nz_ok _ _
    split
    · exact nz_ok _ _
    split
    · exact nz_fail _ (by decide) _
    · refine nz_bind (nz_name _ _) fun k r => ?_
      split
      · exact nz_bind (nz_next _ _ _ _) fun _ _ => nz_ok _ _
      split
      · exact nz_bind (nz_num _ _ _ _) fun _ _ => nz_ok _ _
      · exact nz_ok _ _
theorem nz_cond (F f : Nat) (ts : List TokD) : NZ (condP F f ts) := nz_series (fun ts => nz_series (nz_not F f) wAnd 5 ts) wOr 6 ts
theorem nz_ask (F : Nat) (ts : List TokD) : NZ (askP F ts) := by
  cases ts with
  | nil => exact nz_bad _ (by decide)
  | cons t r =>
    simp only [askP]
    split
    · split
      · exact nz_ok _ _
      split
      · exact nz_bind (nz_name _ _) fun _ _ => nz_ok _ _
      split
      · exact nz_bind (nz_name _ _) fun _ _ => nz_bind (nz_want _ _ _) fun _ _ => nz_bind (nz_num _ _ _ _) fun _ _ => nz_ok _ _
      split
      · exact nz_bind (nz_num _ _ _ _) fun _ _ => nz_bind (nz_want _ _ _) fun _ _ => nz_bind (nz_num _ _ _ _) fun _ _ => nz_bind (nz_num _ _ _ _) fun _ _ => nz_ok _ _
      split
      · exact nz_bind (nz_name _ _) fun _ _ => nz_bind (nz_want _ _ _) fun _ _ => nz_bind (nz_num _ _ _ _) fun _ _ => nz_bind (nz_want _ _ _) fun _ _ => nz_bind (nz_name _ _) fun _ _ => nz_bind (nz_want _ _ _) fun _ _ => nz_bind (nz_num _ _ _ _) fun _ _ => nz_ok _ _
      split
      · exact nz_bind (nz_name _ _) fun _ _ => nz_ok _ _
      · exact nz_bad _ (by decide)
    · exact nz_bad _ (by decide)
theorem nz_query (F : Nat) (ts : List TokD) : NZ (queryP F ts) := by
  unfold queryP
  refine nz_bind (nz_ask _ _) fun q r => ?_
  split
  · exact nz_fail _ (by decide) _
  · simp only
    split
    · refine nz_bind (nz_cond _ _ _) fun c r => ?_
      split
      · exact nz_ok _ _
      · exact nz_fail _ (by decide) _
    · split
      · exact nz_ok _ _
      · exact nz_fail _ (by decide) _
end Go.Proofs.YtdfenhjibnfdeaaGreatDoor
namespace Go.Proofs.YtdfenhjibnfdeaaGreatDoor
open Go.RowKit Go.Shelf

/-- A token's word: its text, a string's in quotes. -/
def twL (t : TokD) : List UInt8 := if t.kind = 3 then quoteL (lstB t.text) else lstB t.text
/-- A text that has these kinds and texts of tokens. -/
inductive Spells : List UInt8 → List (Int × ByteArray) → Prop where
  | nil : Spells [] []
  | blank {c : UInt8} {l : List UInt8} {L : List (Int × ByteArray)} (h : blankC c = true) (hl : Spells l L) : Spells (c :: l) L
  | tok {w l : List UInt8} {k : Int} {t : ByteArray} {L : List (Int × ByteArray)} (hw : w ≠ []) (h : scan1 (w ++ l) = (w.length, some (k, t, 0))) (hl : Spells l L) : Spells (w ++ l) ((k, t) :: L)
def ktT (t : TokD) : Int × ByteArray := (t.kind, t.text)
theorem Spells.toks {l : List UInt8} {L : List (Int × ByteArray)} (h : Spells l L) : ∀ f i, l.length ≤ f → (∀ x ∈ toks f i l, x.err = 0) ∧ (toks f i l).map (fun x => ktT x.tok) = L := by
  induction h with
  | nil => intro f i _; cases f <;> exact ⟨fun x hx => (by cases hx), rfl⟩
  | blank h hl ih =>
    rename_i c l L
    intro f i hf
    cases f with
    | zero => simp at hf
    | succ f =>
      have hs : scan1 (c :: l) = (1, none) := by rw [scan1, if_pos h]
      rw [Go.Proofs.YtdfenhjibnfdeaaGreatDoor.toks, hs]
      exact ih f (i + 1) (by simp at hf; omega)
  | tok hw h hl ih =>
    rename_i w l k t L
    intro f i hf
    cases w with
    | nil => exact absurd rfl hw
    | cons c w =>
      cases f with
      | zero => simp at hf
      | succ f =>
        rw [List.cons_append] at h ⊢
        rw [Go.Proofs.YtdfenhjibnfdeaaGreatDoor.toks, h]
        simp only [eq_self, if_true]
        rw [← List.cons_append, List.drop_left]
        obtain ⟨h1, h2⟩ := ih f (i + (c :: w).length) (by simp at hf; omega)
        refine ⟨fun x hx => ?_, ?_⟩
        · rcases List.mem_cons.1 hx with rfl | hx
          · rfl
          · exact h1 x hx
        · rw [List.map_cons, h2]; rfl
/-- The lexer at such a text. -/
theorem Spells.lex {s : ByteArray} {L : List (Int × ByteArray)} (h : Spells (lstB s) L) (hs : s.size ≤ 20000) (hL : L.length ≤ 5000) : ∃ T, lexP s = (T, 0, 0) ∧ T.map ktT = L := by
  obtain ⟨h1, h2⟩ := h.toks s.size 0 (Nat.le_of_eq (len_list s))
  refine ⟨(toksB s).map (·.tok), ?_, ?_⟩
  · unfold lexP
    rw [if_neg (by omega), lexF_allok (toksB s) [] h1 (by
      have := congrArg List.length h2
      rw [List.length_map] at this
      show 0 + (Go.Proofs.YtdfenhjibnfdeaaGreatDoor.toks s.size 0 (lstB s)).length ≤ 5000
      omega)]
    rfl
  · rw [List.map_map]; exact h2
/-- A blank, or a closing parenthesis. -/
def sepC (c : UInt8) : Bool := blankC c || decide (c.toNat = 41)
/-- A token's word, ahead of a blank, a closing parenthesis or the end, is the token. -/
def WordOK (t : TokD) : Prop := twL t ≠ [] ∧ ∀ Y, (∀ c, Y.head? = some c → sepC c = true) → scan1 (twL t ++ Y) = ((twL t).length, some (t.kind, t.text, 0))
theorem span_whole (p : UInt8 → Bool) : ∀ X Y : List UInt8, (∀ x ∈ X, p x = true) → (∀ c, Y.head? = some c → p c = false) → spanN p (X ++ Y) = X.length
  | [], [], _, _ => rfl
  | [], c :: Y, _, h => by rw [List.nil_append, spanN, h c rfl]; rfl
  | x :: X, Y, hX, h => by
    rw [List.cons_append, spanN, if_pos (hX x (List.mem_cons_self ..)), span_whole p X Y (fun y hy => hX y (List.mem_cons_of_mem _ hy)) h]; rfl
theorem span_mem (p : UInt8 → Bool) : ∀ l : List UInt8, ∀ x ∈ l.take (spanN p l), p x = true
  | [], x, h => by simp at h
  | c :: r, x, h => by
    rw [spanN] at h
    split at h
    · rename_i hp
      rw [List.take_succ_cons] at h
      rcases List.mem_cons.1 h with rfl | h
      · exact hp
      · exact span_mem p r x h
    · simp at h
theorem escs_len : ∀ l : List UInt8, (l.flatMap escC).length ≤ 2 * l.length
  | [] => Nat.le_refl _
  | c :: l => by
    have ih := escs_len l
    rw [List.flatMap_cons, List.length_append, List.length_cons]
    have : (escC c).length ≤ 2 := by
      unfold escC
      split
      · simp
      · split <;> simp
    omega
theorem sep_all (p : UInt8 → Bool) (h : p 32 = false ∧ p 9 = false ∧ p 10 = false ∧ p 41 = false) (c : UInt8) (hc : sepC c = true) : p c = false := by
  unfold sepC blankC at hc
  rw [Bool.or_eq_true, decide_eq_true_eq, decide_eq_true_eq] at hc
  rcases hc with (e | e | e) | e
  · rw [show c = 32 from UInt8.toNat_inj.1 e]; exact h.1
  · rw [show c = 9 from UInt8.toNat_inj.1 e]; exact h.2.1
  · rw [show c = 10 from UInt8.toNat_inj.1 e]; exact h.2.2.1
  · rw [show c = 41 from UInt8.toNat_inj.1 e]; exact h.2.2.2
theorem scan_word {c : UInt8} {r : List UInt8} {n : Nat} {k : Int} {t : ByteArray} (i : Nat) (h : scan1 (c :: r) = (n, some (k, t, 0))) : WordOK ⟨k, t, i⟩ ∧ (twL ⟨k, t, i⟩).length ≤ 2 * n := by
  rw [scan1] at h
  split at h
  · cases h
  rename_i hb
  split at h
  · cases h
  rename_i h35
  split at h
  · rename_i hl
    simp only [Prod.mk.injEq, Option.some.injEq] at h
    obtain ⟨hn, hk, ht, he⟩ := h
    have hp : wordC c = true := by unfold wordC; rw [hl]; rfl
    have hmem := span_mem wordC (c :: r)
    have hlen := span_le wordC (c :: r)
    rw [hn] at ht he hmem hlen
    subst hk
    have hn1 : 1 ≤ n := by rw [← hn, spanN, if_pos hp]; omega
    obtain ⟨m, rfl⟩ : ∃ m, n = m + 1 := ⟨n - 1, by omega⟩
    rw [List.take_succ_cons] at ht hmem
    have hw : twL ⟨1, t, i⟩ = c :: r.take m := by unfold twL; rw [if_neg (by simp only; decide), ← ht]; rfl
    have hwl : (c :: r.take m).length = m + 1 := by rw [List.length_cons, List.length_take]; simp at hlen; omega
    unfold WordOK
    rw [hw]
    refine ⟨⟨List.cons_ne_nil _ _, fun Y hY => ?_⟩, by omega⟩
    have hsp : spanN wordC (c :: r.take m ++ Y) = (c :: r.take m).length := span_whole wordC _ Y hmem fun d hd => sep_all wordC (by decide) d (hY d hd)
    rw [List.cons_append] at hsp ⊢
    rw [scan1, if_neg hb, if_neg h35, if_pos hl]
    simp only
    rw [hsp, ← List.cons_append, List.take_left, hwl]
    have h24 : ¬ 24 < m + 1 := fun e => by rw [if_pos e] at he; cases he
    rw [if_neg h24, ← ht]
  rename_i hl
  split at h
  · rename_i hd
    simp only [Prod.mk.injEq, Option.some.injEq] at h
    obtain ⟨hn, hk, ht, he⟩ := h
    have hmem := span_mem digitC (c :: r)
    have hlen := span_le digitC (c :: r)
    rw [hn] at ht he hmem hlen
    subst hk
    have hn1 : 1 ≤ n := by rw [← hn, spanN, if_pos hd]; omega
    obtain ⟨m, rfl⟩ : ∃ m, n = m + 1 := ⟨n - 1, by omega⟩
    rw [List.take_succ_cons] at ht hmem
    have hw : twL ⟨2, t, i⟩ = c :: r.take m := by unfold twL; rw [if_neg (by simp only; decide), ← ht]; rfl
    have hwl : (c :: r.take m).length = m + 1 := by rw [List.length_cons, List.length_take]; simp at hlen; omega
    unfold WordOK
    rw [hw]
    refine ⟨⟨List.cons_ne_nil _ _, fun Y hY => ?_⟩, by omega⟩
    have hsp : spanN digitC (c :: r.take m ++ Y) = (c :: r.take m).length := span_whole digitC _ Y hmem fun d hd => sep_all digitC (by decide) d (hY d hd)
    rw [List.cons_append] at hsp ⊢
    rw [scan1, if_neg hb, if_neg h35, if_neg hl, if_pos hd]
    simp only
    rw [hsp, ← List.cons_append, List.take_left, List.drop_left, hwl]
    have h7 : ¬ 7 < m + 1 := fun e => by rw [if_pos (Or.inl e)] at he; cases he
    have hY' : (Y.head?.elim false fun d => letterC d || decide (d.toNat = 95)) = false := by
      cases hh : Y.head? with
      | none => rfl
      | some d => exact sep_all (fun d => letterC d || decide (d.toNat = 95)) (by decide) d (hY d hh)
    rw [if_neg (by rw [hY']; simp [h7]), ← ht]
  rename_i hd
  split at h
  · rename_i h34
    cases hu : unqL r with
    | none => rw [hu] at h; simp at h
    | some x =>
      rw [hu] at h
      simp only [Prod.mk.injEq, Option.some.injEq] at h
      obtain ⟨hn, hk, ht, -⟩ := h
      subst hk ht
      have hw : twL ⟨3, bytesOf x.1, i⟩ = quoteL x.1 := by unfold twL; rw [if_pos rfl]; rfl
      unfold WordOK
      rw [hw]
      refine ⟨⟨by unfold quoteL; simp, fun Y _ => scan_quoted x.1 Y⟩, ?_⟩
      have h1 := unq_less _ r x.1 x.2 (Nat.le_refl _) hu
      have h2 := escs_len x.1
      unfold quoteL
      rw [List.length_append, List.length_cons, List.length_singleton]
      omega
  rename_i h34
  split at h
  · rename_i hsy
    simp only [Prod.mk.injEq, Option.some.injEq] at h
    obtain ⟨hn, hk, ht, -⟩ := h
    subst hk ht hn
    have hw : twL ⟨4, bytesOf [c], i⟩ = [c] := by unfold twL; rw [if_neg (by simp only; decide)]; rfl
    unfold WordOK
    rw [hw]
    refine ⟨⟨List.cons_ne_nil _ _, fun Y _ => ?_⟩, by simp⟩
    rw [List.singleton_append, scan1, if_neg hb, if_neg h35, if_neg hl, if_neg hd, if_neg h34, if_pos hsy]
    rfl
  · simp at h
theorem toks_words : ∀ (f i : Nat) (l : List UInt8), (∀ x ∈ toks f i l, x.err = 0) → (∀ x ∈ toks f i l, WordOK x.tok) ∧ ((toks f i l).flatMap fun x => twL x.tok).length ≤ 2 * l.length ∧ (toks f i l).length ≤ l.length
  | 0, i, l, _ => by rw [toks]; exact ⟨fun x hx => (by cases hx), by simp, by simp⟩
  | f + 1, i, [], _ => by rw [toks]; exact ⟨fun x hx => (by cases hx), by simp, by simp⟩; omega
  | f + 1, i, c :: r, he => by
    rw [toks] at he ⊢
    rcases hs : scan1 (c :: r) with ⟨n, o⟩
    rw [hs] at he
    cases o with
    | none =>
      obtain ⟨h1, h2, h3⟩ := toks_words f (i + n) ((c :: r).drop n) he
      rw [List.length_drop] at h2 h3
      exact ⟨h1, Nat.le_trans h2 (by omega), Nat.le_trans h3 (by omega)⟩
    | some z =>
      obtain ⟨k, t, e⟩ := z
      have e0 : e = 0 := he ⟨⟨k, t, i⟩, e⟩ (List.mem_cons_self ..)
      subst e0
      simp only [eq_self, if_true] at he ⊢
      obtain ⟨hn1, hn2⟩ := scan_len hs (fun k' t' e' h => by injection h with h; injection h with _ h; injection h with _ h; exact h.symm)
      obtain ⟨h1, h2, h3⟩ := toks_words f (i + n) ((c :: r).drop n) fun x hx => he x (List.mem_cons_of_mem _ hx)
      obtain ⟨w1, w2⟩ := scan_word i hs
      rw [List.length_drop] at h2 h3
      refine ⟨fun x hx => ?_, ?_, ?_⟩
      · rcases List.mem_cons.1 hx with rfl | hx
        · exact w1
        · exact h1 x hx
      · rw [List.flatMap_cons, List.length_append]; simp only; omega
      · rw [List.length_cons]; omega
/-- The tokens of an accepted text. -/
theorem lex_words {s : ByteArray} {L : List TokD} (h : lexP s = (L, 0, 0)) : (∀ t ∈ L, WordOK t) ∧ (L.flatMap twL).length ≤ 2 * s.size ∧ L.length ≤ s.size := by
  obtain ⟨-, h1, h2, -, -⟩ := lex_list h
  obtain ⟨h3, h4, h5⟩ := toks_words s.size 0 s.data.toList h2
  rw [len_list] at h4 h5
  refine ⟨fun t ht => ?_, ?_, ?_⟩
  · rw [h1] at ht
    obtain ⟨x, hx, rfl⟩ := List.mem_map.1 ht
    exact h3 x hx
  · rw [h1, List.flatMap_map]; exact h4
  · rw [h1, List.length_map]; exact h5
end Go.Proofs.YtdfenhjibnfdeaaGreatDoor
