/- The lexer at a text that is cut; the plain law of QueryPrefixes. -/
import Derived.Test.YtdfenhjibnfdeaaGreatDoorQpA
import Derived.Test.YtdfenhjibnfdeaaGreatDoorQpB
namespace Go.Proofs.YtdfenhjibnfdeaaGreatDoor
open Go.RowKit Go.Shelf


theorem span_cut (p : UInt8 → Bool) : ∀ (X Z Y : List UInt8), spanN p (X ++ Z) ≤ X.length → (∀ c, Y.head? = some c → p c = false) → spanN p (X ++ Y) = spanN p (X ++ Z)
  | [], Z, Y, h, hy => by
    have h0 : spanN p Z = 0 := by simpa using h
    rw [List.nil_append, List.nil_append, h0]
    cases Y with
    | nil => rfl
    | cons c Y => rw [spanN, hy c rfl]; rfl
  | x :: X, Z, Y, h, hy => by
    rw [List.cons_append, spanN] at h
    rw [List.cons_append, List.cons_append, spanN, spanN]
    split
    · rename_i hp
      rw [if_pos hp, List.length_cons] at h
      rw [span_cut p X Z Y (by omega) hy]
    · rfl
theorem unq_cut : ∀ (m : Nat) (A Z Y t : List UInt8) (n : Nat), A.length ≤ m → unqL (A ++ Z) = some (t, n) → n ≤ A.length → unqL (A ++ Y) = some (t, n)
  | _, [], Z, Y, t, n, _, h, hn => by
    have := unq_len _ _ t n (Nat.le_refl _) h
    simp at hn; omega
  | 0, c :: r, _, _, _, _, hm, _, _ => by simp at hm
  | m + 1, c :: r, Z, Y, t, n, hm, h, hn => by
    rw [List.cons_append] at h ⊢
    by_cases h34 : c.toNat = 34
    · rw [unq_end _ h34] at h ⊢; exact h
    by_cases h10 : c.toNat = 10
    · rw [unq_line _ h10] at h; cases h
    by_cases h92 : c.toNat = 92
    · cases r with
      | nil =>
        exfalso
        cases Z with
        | nil => rw [List.append_nil, unq_bs h92] at h; cases h
        | cons d q =>
          rw [List.nil_append, unq_esc q h92] at h
          have key : ∀ z : UInt8, (unqL q).map (fun x => (z :: x.1, x.2 + 2)) = some (t, n) → False := fun z hz => by
            cases hq : unqL q with
            | none => rw [hq] at hz; cases hz
            | some x =>
              rw [hq] at hz
              simp only [Option.map_some] at hz
              injection hz with hz; injection hz with h1 h2
              simp at hn; omega
          split at h
          · exact key _ h
          split at h
          · exact key _ h
          split at h
          · exact key _ h
          · cases h
      | cons d q =>
        rw [List.cons_append] at h ⊢
        rw [unq_esc _ h92] at h ⊢
        have key : ∀ z : UInt8, (unqL (q ++ Z)).map (fun x => (z :: x.1, x.2 + 2)) = some (t, n) → (unqL (q ++ Y)).map (fun x => (z :: x.1, x.2 + 2)) = some (t, n) := fun z hz => by
          cases hq : unqL (q ++ Z) with
          | none => rw [hq] at hz; cases hz
          | some x =>
            rw [hq] at hz
            simp only [Option.map_some] at hz
            injection hz with hz; injection hz with h1 h2
            simp only [List.length_cons] at hn hm
            rw [unq_cut m q Z Y x.1 x.2 (by omega) hq (by omega), Option.map_some, h1, h2]
        split at h
        · rename_i e; rw [if_pos e]; exact key _ h
        rename_i e1
        split at h
        · rename_i e; rw [if_neg e1, if_pos e]; exact key _ h
        rename_i e2
        split at h
        · rename_i e; rw [if_neg e1, if_neg e2, if_pos e]; exact key _ h
        · cases h
    · rw [unq_one _ h34 h10 h92] at h ⊢
      cases hq : unqL (r ++ Z) with
      | none => rw [hq] at h; cases h
      | some x =>
        rw [hq] at h
        simp only [Option.map_some] at h
        injection h with h; injection h with h1 h2
        simp only [List.length_cons] at hn hm
        rw [unq_cut m r Z Y x.1 x.2 (by omega) hq (by omega), Option.map_some, h1, h2]
/-- A text that ends, or goes on in the next line. -/
def Fresh (Y : List UInt8) : Prop := ∀ c, Y.head? = some c → c.toNat = 10
theorem fresh_blank {Y : List UInt8} (h : Fresh Y) {p : UInt8 → Bool} (hp : ∀ c : UInt8, c.toNat = 10 → p c = false) : ∀ c, Y.head? = some c → p c = false := fun c hc => hp c (h c hc)
theorem ten_word {c : UInt8} (h : c.toNat = 10) : wordC c = false := by
  have : c = 10 := UInt8.toNat_inj.1 h
  subst this; decide
theorem ten_digit {c : UInt8} (h : c.toNat = 10) : digitC c = false := by
  have : c = 10 := UInt8.toNat_inj.1 h
  subst this; decide
theorem head_cut {X Z Y : List UInt8} {n : Nat} (h : n < X.length) : ((X ++ Y).drop n).head? = ((X ++ Z).drop n).head? := by
  rw [List.drop_append_of_le_length (by omega), List.drop_append_of_le_length (by omega)]
  have : X.drop n ≠ [] := by intro e; have := congrArg List.length e; rw [List.length_drop] at this; simp at this; omega
  cases hd : X.drop n with
  | nil => exact absurd hd this
  | cons a b => rfl
theorem take_cut {X Z Y : List UInt8} {n : Nat} (h : n ≤ X.length) : (X ++ Y).take n = (X ++ Z).take n := by
  rw [List.take_append_of_le_length h, List.take_append_of_le_length h]
/-- A token's scan sees no more than the token. -/
theorem scan_cut {c : UInt8} {X Z Y : List UInt8} {n : Nat} {o : Option (Int × ByteArray × Int)} (h : scan1 (c :: X ++ Z) = (n, o)) (hn : n ≤ (c :: X).length) (ho : ∀ k t e, o = some (k, t, e) → e = 0) (hy : Fresh Y) : scan1 (c :: X ++ Y) = (n, o) := by
  rw [List.cons_append] at h ⊢
  rw [scan1] at h ⊢
  split at h
  · rename_i hb; rw [if_pos hb]; exact h
  rename_i hb
  rw [if_neg hb]
  split at h
  · rename_i h35
    rw [if_pos h35]
    injection h with h1 h2
    have := span_cut (fun d => decide (d.toNat ≠ 10)) (c :: X) Z Y (by rw [List.cons_append, h1]; exact hn) (fresh_blank hy fun c hc => by simp [hc])
    rw [List.cons_append, List.cons_append] at this
    rw [this, h1, h2]
  rename_i h35
  rw [if_neg h35]
  split at h
  · rename_i hl
    rw [if_pos hl]
    simp only at h ⊢
    injection h with h1 h2
    have hs := span_cut wordC (c :: X) Z Y (by rw [List.cons_append, h1]; exact hn) (fresh_blank hy fun c hc => ten_word hc)
    have ht := take_cut (X := c :: X) (Z := Z) (Y := Y) hn
    rw [List.cons_append, List.cons_append] at hs ht
    rw [hs, h1, ht, ← h2, h1]
  rename_i hl
  rw [if_neg hl]
  split at h
  · rename_i hd
    rw [if_pos hd]
    simp only at h ⊢
    injection h with h1 h2
    have hs := span_cut digitC (c :: X) Z Y (by rw [List.cons_append, h1]; exact hn) (fresh_blank hy fun c hc => ten_digit hc)
    have ht := take_cut (X := c :: X) (Z := Z) (Y := Y) hn
    rw [List.cons_append, List.cons_append] at hs ht
    rw [h1] at h2
    have h0 := ho _ _ _ h2.symm
    have hn7 : ¬ (7 < n ∨ (((c :: (X ++ Z)).drop n).head?.elim false fun d => letterC d || decide (d.toNat = 95)) = true) := fun e => by rw [if_pos e] at h0; cases h0
    have hn7' : ¬ (7 < n ∨ (((c :: (X ++ Y)).drop n).head?.elim false fun d => letterC d || decide (d.toNat = 95)) = true) := fun e => by
      rcases e with e | e
      · exact hn7 (Or.inl e)
      · by_cases hlt : n < (c :: X).length
        · have hh := head_cut (X := c :: X) (Z := Z) (Y := Y) hlt
          rw [List.cons_append, List.cons_append] at hh
          rw [hh] at e
          exact hn7 (Or.inr e)
        · have hnn : n = (c :: X).length := by omega
          rw [← List.cons_append, List.drop_append, hnn, List.drop_length, Nat.sub_self, List.drop_zero, List.nil_append] at e
          cases hY : Y.head? with
          | none => rw [hY] at e; cases e
          | some d =>
            rw [hY] at e
            have hd10 := hy d hY
            have : d = 10 := UInt8.toNat_inj.1 hd10
            subst this
            exact absurd e (by decide)
    rw [hs, h1, ht, if_neg hn7']
    rw [if_neg hn7] at h2
    rw [h2]
  rename_i hd
  rw [if_neg hd]
  split at h
  · rename_i h34
    rw [if_pos h34]
    cases hu : unqL (X ++ Z) with
    | none =>
      rw [hu] at h
      injection h with h1 h2
      exact absurd (ho _ _ _ h2.symm) (by decide)
    | some x =>
      rw [hu] at h
      simp only at h
      injection h with h1 h2
      rw [List.length_cons] at hn
      rw [unq_cut _ X Z Y x.1 x.2 (Nat.le_refl _) hu (by omega)]
      simp only
      rw [h1, h2]
  rename_i h34
  rw [if_neg h34]
  split at h
  · rename_i hsy; rw [if_pos hsy]; exact h
  · injection h with h1 h2
    exact absurd (ho _ _ _ h2.symm) (by decide)

theorem scan_len {c : UInt8} {r : List UInt8} {n : Nat} {o : Option (Int × ByteArray × Int)} (h : scan1 (c :: r) = (n, o)) (ho : ∀ k t e, o = some (k, t, e) → e = 0) : 1 ≤ n ∧ n ≤ (c :: r).length := by
  have sp : ∀ p : UInt8 → Bool, p c = true → 1 ≤ spanN p (c :: r) ∧ spanN p (c :: r) ≤ (c :: r).length := fun p hp => ⟨by rw [spanN, if_pos hp]; omega, span_le p _⟩
  rw [scan1] at h
  split at h
  · injection h with h1 _; subst h1; simp
  split at h
  · rename_i h35
    injection h with h1 _; subst h1
    exact sp _ (by simp [h35])
  split at h
  · rename_i hl
    simp only at h
    injection h with h1 _; subst h1
    exact sp _ (by unfold wordC; rw [hl]; rfl)
  split at h
  · rename_i hd
    simp only at h
    injection h with h1 _; subst h1
    exact sp _ hd
  split at h
  · cases hu : unqL r with
    | none => rw [hu] at h; injection h with h1 h2; exact absurd (ho _ _ _ h2.symm) (by decide)
    | some x =>
      rw [hu] at h
      simp only at h
      injection h with h1 _; subst h1
      have := unq_len _ r x.1 x.2 (Nat.le_refl _) hu
      rw [List.length_cons]; omega
  split at h
  · injection h with h1 _; subst h1; simp
  · injection h with h1 h2; exact absurd (ho _ _ _ h2.symm) (by decide)
theorem toks_cut : ∀ (m i : Nat) (X Z Y : List UInt8) (f g : Nat), X.length ≤ m → (X ++ Z).length ≤ f → (X ++ Y).length ≤ g → (∀ x ∈ toks f i (X ++ Z), x.err = 0) → (Z = [] ∨ ∃ x ∈ toks f i (X ++ Z), x.tok.off = i + X.length) → Fresh Y →
    ∃ P Q, toks f i (X ++ Z) = P ++ Q ∧ (∀ x ∈ P, x.tok.off < i + X.length) ∧ (∀ x ∈ Q, i + X.length ≤ x.tok.off) ∧ toks g i (X ++ Y) = P ++ toks g (i + X.length) Y
  | _, i, [], Z, Y, f, g, _, _, _, _, _, _ => ⟨[], toks f i Z, rfl, fun x hx => (by cases hx), fun x hx => (toks_good f i Z x hx).1, rfl⟩
  | 0, _, c :: X, _, _, _, _, hm, _, _, _, _, _ => by simp at hm
  | m + 1, i, c :: X, Z, Y, 0, _, _, hf, _, _, _, _ => by simp at hf
  | m + 1, i, c :: X, Z, Y, f + 1, 0, _, _, hg, _, _, _ => by simp at hg
  | m + 1, i, c :: X, Z, Y, f + 1, g + 1, hm, hf, hg, he, hz, hy => by
    rw [List.cons_append] at he hz ⊢
    rw [toks] at he hz ⊢
    rcases hs : scan1 (c :: (X ++ Z)) with ⟨n, o⟩
    rw [hs] at he hz
    have ho : ∀ k t e, o = some (k, t, e) → e = 0 := fun k t e ho => by
      subst ho
      exact he ⟨⟨k, t, i⟩, e⟩ (List.mem_cons_self ..)
    obtain ⟨hn1, hn2⟩ := scan_len hs ho
    have next : (∀ x ∈ toks f (i + n) ((c :: (X ++ Z)).drop n), x.err = 0) → (Z = [] ∨ ∃ x ∈ toks f (i + n) ((c :: (X ++ Z)).drop n), x.tok.off = i + (c :: X).length) →
        n ≤ (c :: X).length ∧ ∃ P Q, toks f (i + n) ((c :: (X ++ Z)).drop n) = P ++ Q ∧ (∀ x ∈ P, x.tok.off < i + (c :: X).length) ∧ (∀ x ∈ Q, i + (c :: X).length ≤ x.tok.off) ∧ toks g (i + n) ((c :: (X ++ Y)).drop n) = P ++ toks (g + 1) (i + (c :: X).length) Y := fun he' hz' => by
      have hn : n ≤ (c :: X).length := by
        rcases hz' with hz' | ⟨x, hx, hxo⟩
        · subst hz'; rw [List.append_nil] at hn2; exact hn2
        · have := (toks_good f (i + n) _ x hx).1; omega
      have hdZ : (c :: (X ++ Z)).drop n = (c :: X).drop n ++ Z := by rw [← List.cons_append, List.drop_append_of_le_length hn]
      have hdY : (c :: (X ++ Y)).drop n = (c :: X).drop n ++ Y := by rw [← List.cons_append, List.drop_append_of_le_length hn]
      have hlen : ((c :: X).drop n).length = (c :: X).length - n := List.length_drop
      rw [hdZ] at he' hz' ⊢
      rw [hdY]
      simp only [List.length_append, List.length_cons] at hf hg hm hn
      obtain ⟨P, Q, h1, h2, h3, h4⟩ := toks_cut m (i + n) ((c :: X).drop n) Z Y f g (by rw [hlen, List.length_cons]; omega) (by rw [List.length_append, hlen, List.length_cons]; omega) (by rw [List.length_append, hlen, List.length_cons]; omega) he'
        (hz'.imp id fun ⟨x, hx, hxo⟩ => ⟨x, hx, by rw [hxo, hlen, List.length_cons]; omega⟩) hy
      have e : i + n + ((c :: X).drop n).length = i + (c :: X).length := by rw [hlen, List.length_cons]; omega
      rw [e] at h2 h3 h4
      refine ⟨by rw [List.length_cons]; omega, P, Q, h1, h2, h3, ?_⟩
      rw [h4, toks_fuel g (g + 1) _ Y (by omega) (by omega)]
    cases o with
    | none =>
      simp only at he hz ⊢
      obtain ⟨hn, P, Q, h1, h2, h3, h4⟩ := next he hz
      have hsY := scan_cut (X := X) (Z := Z) (Y := Y) hs hn ho hy
      rw [List.cons_append] at hsY
      refine ⟨P, Q, h1, h2, h3, ?_⟩
      rw [List.cons_append, toks, hsY]
      exact h4
    | some z =>
      obtain ⟨k, t, e⟩ := z
      have e0 : e = 0 := ho k t e rfl
      subst e0
      simp only [] at he hz ⊢
      obtain ⟨hn, P, Q, h1, h2, h3, h4⟩ := next (fun x hx => he x (List.mem_cons_of_mem _ hx)) (hz.imp id fun ⟨x, hx, hxo⟩ => by
        rcases List.mem_cons.1 hx with rfl | hx
        · rw [List.length_cons] at hxo; simp only at hxo; omega
        · exact ⟨x, hx, hxo⟩)
      have hsY := scan_cut (X := X) (Z := Z) (Y := Y) hs hn ho hy
      rw [List.cons_append] at hsY
      refine ⟨⟨⟨k, t, i⟩, 0⟩ :: P, Q, by rw [h1]; rfl, fun x hx => ?_, h3, ?_⟩
      · rcases List.mem_cons.1 hx with rfl | hx
        · rw [List.length_cons]; simp only; omega
        · exact h2 x hx
      · rw [List.cons_append, toks, hsY]
        simp only []
        rw [h4]; rfl

theorem lexF_mapL : ∀ (fs : List FndD) (acc T : List TokD) (o : Int), lexF acc fs = (T, 0, o) → T = acc ++ fs.map (·.tok) ∧ (∀ x ∈ fs, x.err = 0) ∧ (acc.length ≤ 5000 → acc.length + fs.length ≤ 5000)
  | [], acc, T, o, h => by
    rw [lexF] at h
    injection h with h _
    exact ⟨by simp [h], fun x hx => (by cases hx), fun h => by simpa using h⟩
  | f :: r, acc, T, o, h => by
    rw [lexF] at h
    split at h
    · rename_i he; injection h with _ h; injection h with h _; exact absurd h he
    · rename_i he
      split at h
      · injection h with _ h; injection h with h _; cases h
      · rename_i hl
        obtain ⟨h1, h2, h3⟩ := lexF_mapL r _ T o h
        refine ⟨by rw [h1, List.map_cons, List.append_assoc]; rfl, fun x hx => ?_, fun ha => ?_⟩
        · rcases List.mem_cons.1 hx with rfl | hx
          · simpa using he
          · exact h2 x hx
        · have := h3 (by rw [List.length_append, List.length_singleton]; omega)
          rw [List.length_append, List.length_singleton] at this
          rw [List.length_cons]; omega
theorem lexF_allok : ∀ (fs : List FndD) (acc : List TokD), (∀ x ∈ fs, x.err = 0) → acc.length + fs.length ≤ 5000 → lexF acc fs = (acc ++ fs.map (·.tok), 0, 0)
  | [], acc, _, _ => by rw [lexF]; simp
  | f :: r, acc, h, hl => by
    rw [List.length_cons] at hl
    rw [lexF, if_neg (by rw [h f (List.mem_cons_self ..)]; simp), if_neg (by omega), lexF_allok r _ (fun x hx => h x (List.mem_cons_of_mem _ hx)) (by rw [List.length_append, List.length_singleton]; omega), List.map_cons, List.append_assoc]
    rfl
theorem toks_sorted : ∀ (f i : Nat) (l : List UInt8), (∀ x ∈ toks f i l, x.err = 0) → (toks f i l).Pairwise fun x y => x.tok.off < y.tok.off
  | 0, _, _, _ => by rw [toks]; exact List.Pairwise.nil
  | f + 1, i, [], _ => by rw [toks]; exact List.Pairwise.nil; omega
  | f + 1, i, c :: r, he => by
    rw [toks] at he ⊢
    rcases hs : scan1 (c :: r) with ⟨n, o⟩
    rw [hs] at he
    cases o with
    | none => exact toks_sorted f _ _ he
    | some z =>
      obtain ⟨k, t, e⟩ := z
      have e0 : e = 0 := he ⟨⟨k, t, i⟩, e⟩ (List.mem_cons_self ..)
      subst e0
      simp only [] at he ⊢
      have hn := (scan_len hs (fun k' t' e' h => by injection h with h; injection h with _ h; injection h with _ h; exact h.symm)).1
      refine List.Pairwise.cons (fun y hy => ?_) (toks_sorted f _ _ fun x hx => he x (List.mem_cons_of_mem _ hx))
      have := (toks_good f _ _ y hy).1
      simp only; omega
theorem split_at {P Q R S : List TokD} {a : Nat} (h : P ++ Q = R ++ S) (hP : ∀ x ∈ P, x.off < a) (hQ : ∀ x ∈ Q, a ≤ x.off) (hR : ∀ x ∈ R, x.off < a) (hS : ∀ x ∈ S, a ≤ x.off) : P = R := by
  have key : ∀ (U V : List TokD), (∀ x ∈ U, x.off < a) → (∀ x ∈ V, a ≤ x.off) → (U ++ V).filter (fun x => decide (x.off < a)) = U := fun U V hU hV => by
    rw [List.filter_append, List.filter_eq_self.2 (fun x hx => decide_eq_true (hU x hx)), List.filter_eq_nil_iff.2 (fun x hx => by simp only [decide_eq_true_eq]; have := hV x hx; omega), List.append_nil]
  rw [← key P Q hP hQ, h, key R S hR hS]
theorem lex_list {s : ByteArray} {L : List TokD} (h : lexP s = (L, 0, 0)) : s.size ≤ 20000 ∧ L = (toksB s).map (·.tok) ∧ (∀ x ∈ toksB s, x.err = 0) ∧ (toksB s).length ≤ 5000 ∧ L.Pairwise fun x y => x.off < y.off := by
  unfold lexP at h
  split at h
  · injection h with _ h; injection h with h _; cases h
  · rename_i hs
    obtain ⟨h1, h2, h3⟩ := lexF_mapL _ _ _ _ h
    rw [List.nil_append] at h1
    refine ⟨by omega, h1, h2, by simpa using h3 (by simp), ?_⟩
    rw [h1, List.pairwise_map]
    exact toks_sorted _ _ _ h2
theorem len_list (s : ByteArray) : s.data.toList.length = s.size := by rw [Array.length_toList]; rfl
/-- The tokens of a text that is cut at a place, and goes on in the next line or ends. -/
theorem lex_cut {s s' : ByteArray} {L A B : List TokD} {a : Nat} {Y : List UInt8} (h : lexP s = (L, 0, 0)) (hL : L = A ++ B) (ha : a ≤ s.size) (hA : ∀ x ∈ A, x.off < a) (hB : ∀ x ∈ B, a ≤ x.off) (hz : a = s.size ∨ ∃ x ∈ B, x.off = a)
    (hy : Fresh Y) (hs : s'.data.toList = s.data.toList.take a ++ Y) : ∃ P : List FndD, P.map (·.tok) = A ∧ (∀ x ∈ P, x.err = 0) ∧ P.length ≤ 5000 ∧ toksB s' = P ++ toks s'.size a Y := by
  obtain ⟨h0, h1, h2, h3, -⟩ := lex_list h
  have hl := len_list s
  have hl' := len_list s'
  have e : s.data.toList = s.data.toList.take a ++ s.data.toList.drop a := (List.take_append_drop a _).symm
  have hta : (s.data.toList.take a).length = a := by rw [List.length_take]; omega
  have hB' : toksB s = toks s.size 0 (s.data.toList.take a ++ s.data.toList.drop a) := by unfold toksB; rw [← e]
  rw [hB'] at h1 h2 h3
  obtain ⟨P, Q, p1, p2, p3, p4⟩ := toks_cut a 0 (s.data.toList.take a) (s.data.toList.drop a) Y s.size s'.size (by omega) (by rw [← e]; omega) (by rw [← hs]; omega) h2 (by
    rcases hz with hz | ⟨x, hx, hxa⟩
    · left; exact List.drop_eq_nil_of_le (by omega)
    · right
      have hxL : x ∈ L := by rw [hL]; exact List.mem_append_right _ hx
      rw [h1] at hxL
      obtain ⟨y, hy1, hy2⟩ := List.mem_map.1 hxL
      exact ⟨y, hy1, by rw [hy2, hxa, hta]; omega⟩) hy
  rw [hta, Nat.zero_add] at p2 p3 p4
  rw [p1] at h1 h2 h3
  refine ⟨P, ?_, fun x hx => h2 x (List.mem_append_left _ hx), by rw [List.length_append] at h3; omega, by unfold toksB; rw [hs]; exact p4⟩
  refine split_at (a := a) (Q := Q.map (·.tok)) (S := B) (by rw [← List.map_append, ← h1, hL]) (fun x hx => ?_) (fun x hx => ?_) hA hB
  · obtain ⟨y, hy1, rfl⟩ := List.mem_map.1 hx; exact p2 y hy1
  · obtain ⟨y, hy1, rfl⟩ := List.mem_map.1 hx; exact p3 y hy1
theorem fresh_nil : Fresh [] := fun c h => by cases h
/-- The text before a token has the tokens before it. -/
theorem lex_before {s s' : ByteArray} {L A B : List TokD} {t : TokD} (h : lexP s = (L, 0, 0)) (hL : L = A ++ t :: B) (hs : s'.data.toList = s.data.toList.take t.off) : lexP s' = (A, 0, 0) := by
  have ht : t.off < s.size := (lex_good h).2.2 t (by rw [hL]; simp)
  have hso := (lex_list h).2.2.2.2
  rw [hL, List.pairwise_append] at hso
  obtain ⟨-, hso2, hso3⟩ := hso
  rw [List.pairwise_cons] at hso2
  obtain ⟨P, p1, p2, p3, p4⟩ := lex_cut (Y := []) h hL (by omega) (fun x hx => hso3 x hx t (List.mem_cons_self ..)) (fun x hx => by
    rcases List.mem_cons.1 hx with rfl | hx
    · exact Nat.le_refl _
    · exact Nat.le_of_lt (hso2.1 x hx)) (Or.inr ⟨t, List.mem_cons_self .., rfl⟩) fresh_nil (by rw [List.append_nil]; exact hs)
  have hz : s'.size ≤ 20000 := by
    have := (lex_list h).1
    have h1 := len_list s'
    rw [hs, List.length_take, len_list] at h1
    omega
  have he : toks s'.size t.off [] = [] := by cases s'.size <;> rw [toks]; omega
  rw [he, List.append_nil] at p4
  unfold lexP
  rw [if_neg (by omega), p4, lexF_allok P [] p2 (by simpa using p3), p1]; rfl
/-- Where the token behind one begins, or the text ends. -/
def endP (s : ByteArray) : List TokD → Nat
  | [] => s.size
  | t :: _ => t.off
/-- The text up to a token's end, with more in the next line, has the tokens up to this one. -/
theorem lex_upto {s s' : ByteArray} {L A B T : List TokD} {t : TokD} {Y : List UInt8} {o : Int} (h : lexP s = (L, 0, 0)) (hL : L = A ++ t :: B) (hs : s'.data.toList = s.data.toList.take (endP s B) ++ 10 :: Y) (hT : lexP s' = (T, 0, o)) : ∃ C, T = A ++ t :: C := by
  have hg := (lex_good h).2.2
  have ht : t.off < s.size := hg t (by rw [hL]; simp)
  have hso := (lex_list h).2.2.2.2
  rw [hL, List.pairwise_append] at hso
  obtain ⟨-, hso2, hso3⟩ := hso
  rw [List.pairwise_cons] at hso2
  have hte : t.off < endP s B := by cases B with
    | nil => exact ht
    | cons u B => exact hso2.1 u (List.mem_cons_self ..)
  have hes : endP s B ≤ s.size := by cases B with
    | nil => exact Nat.le_refl _
    | cons u B => exact Nat.le_of_lt (hg u (by rw [hL]; simp))
  obtain ⟨P, p1, p2, p3, p4⟩ := lex_cut (A := A ++ [t]) (B := B) (Y := 10 :: Y) h (by rw [hL]; simp) hes (fun x hx => by
    rcases List.mem_append.1 hx with hx | hx
    · exact Nat.lt_trans (hso3 x hx t (List.mem_cons_self ..)) hte
    · rw [List.mem_singleton.1 hx]; exact hte) (fun x hx => by
    cases B with
    | nil => cases hx
    | cons u B =>
      rcases List.mem_cons.1 hx with rfl | hx
      · exact Nat.le_refl _
      · have := hso2.2
        rw [List.pairwise_cons] at this
        exact Nat.le_of_lt (this.1 x hx)) (by cases B with
    | nil => exact Or.inl rfl
    | cons u B => exact Or.inr ⟨u, List.mem_cons_self .., rfl⟩) (fun c hc => by injection hc with hc; subst hc; rfl) hs
  unfold lexP at hT
  split at hT
  · injection hT with _ hT; injection hT with hT _; cases hT
  · rw [p4] at hT
    obtain ⟨h1, -, -⟩ := lexF_mapL _ _ _ _ hT
    rw [List.nil_append, List.map_append, p1] at h1
    exact ⟨(toks s'.size (endP s B) (10 :: Y)).map (·.tok), by rw [h1]; simp⟩

theorem lexF_range : ∀ (fs : List FndD) (acc : List TokD) (n : Nat), (∀ x ∈ fs, x.tok.off < n) → (lexF acc fs).2.1 ≠ 0 → 0 ≤ (lexF acc fs).2.2 ∧ (lexF acc fs).2.2 ≤ n
  | [], acc, n, _, h => absurd rfl h
  | f :: r, acc, n, hx, h => by
    have h0 := hx f (List.mem_cons_self ..)
    rw [lexF] at h ⊢
    by_cases h1 : f.err ≠ 0
    · rw [if_pos h1]; simp only; omega
    · rw [if_neg h1] at h ⊢
      by_cases h2 : acc.length = 5000
      · rw [if_pos h2]; simp only; omega
      · rw [if_neg h2] at h ⊢
        exact lexF_range r _ n (fun x hx' => hx x (List.mem_cons_of_mem _ hx')) h
/-- Where the errors of texts stand. -/
theorem parse_range (s : ByteArray) : (parseQ s).2.1 = 0 ∨ (-1 ≤ (parseQ s).2.2 ∧ (parseQ s).2.2 ≤ s.size) := by
  have hl := len_list s
  unfold parseQ
  by_cases he : (lexP s).2.1 = 0
  · rw [if_neg (by simpa using he)]
    obtain ⟨T, hT⟩ : ∃ T, (lexP s).1 = T := ⟨_, rfl⟩
    have hL : lexP s = (T, 0, 0) := Prod.ext hT (Prod.ext he (lexF_zero s he rfl))
    rw [hT]
    cases hq : queryP s.size T with
    | ok q r =>
      simp only
      split
      · exact Or.inr ⟨by simp, by simp⟩
      · exact Or.inl rfl
    | bad e off =>
      right
      simp only
      by_cases h6 : e = 6
      · rw [query_pr] at hq
        have hs := loc_query.suf T
        cases hqq : queryQ T with
        | ok a r => rw [hqq] at hq; cases hq
        | bad e' r =>
          rw [hqq] at hq hs
          cases r with
          | nil => injection hq with _ h2; subst h2; omega
          | cons t B =>
            injection hq with _ h2
            subst h2
            obtain ⟨A, hA⟩ := hs
            have := (lex_good hL).2.2 t (by rw [← hA]; show t ∈ A ++ t :: B; simp)
            omega
      · obtain ⟨A, t, B, h1, h2, -⟩ := query_at hq h6
        have := (lex_good hL).2.2 t (by rw [h1]; simp)
        omega
  · rw [if_pos he]
    right
    simp only
    unfold lexP at he ⊢
    split
    · simp only; omega
    · rename_i hs
      rw [if_neg hs] at he
      have := lexF_range (toksB s) [] s.size (fun x hx => by have := (toks_good _ _ _ x hx).2.1; omega) he
      omega
/-- An error stands at a token; the text before it is a query, or ends too early or is too great; whatever follows in the next line keeps the error. -/
theorem prefixes_law {s : ByteArray} {L : List TokD} (hL : lexP s = (L, 0, 0)) (hf : (parseQ s).2.1 = 5 ∨ (parseQ s).2.1 = 10) :
    ∃ A t B, L = A ++ t :: B ∧ (parseQ s).2.2 = (t.off : Int) ∧ t.off < s.size ∧ (∀ s1 : ByteArray, s1.data.toList = s.data.toList.take t.off → (parseQ s1).2.1 = 0 ∨ (parseQ s1).2.1 = 6 ∨ (parseQ s1).2.1 = 2) ∧
      ∀ (s2 : ByteArray) (Y : List UInt8), s2.data.toList = s.data.toList.take (endP s B) ++ 10 :: Y → (lexP s2).2.1 = 0 → (parseQ s2).2.1 = (parseQ s).2.1 ∧ (parseQ s2).2.2 = (t.off : Int) := by
  have hp : parseQ s = match queryP s.size L with
    | .bad er off => (zeroQ, er, (off : Int))
    | .ok q _ => if 60 < sizeC q.wher then (zeroQ, 2, 0) else (q, 0, 0) := by
    unfold parseQ; rw [hL]; rfl
  cases hq : queryP s.size L with
  | ok q r =>
    rw [hq] at hp
    rw [hp] at hf
    simp only at hf
    split at hf <;> simp at hf
  | bad e off =>
    rw [hq] at hp
    rw [hp] at hf ⊢
    simp only at hf ⊢
    obtain ⟨A, t, B, h1, h2, h3⟩ := query_at hq (by omega)
    refine ⟨A, t, B, h1, by rw [h2], (lex_good hL).2.2 t (by rw [h1]; simp), fun s1 h4 => ?_, fun s2 Y h4 h5 => ?_⟩
    · have hl1 := lex_before hL h1 h4
      unfold parseQ
      rw [hl1]
      simp only
      rw [if_neg (by simp)]
      rw [h1] at h3
      rcases query_before h3 s1.size with ⟨q, h6⟩ | h6
      · rw [h6]
        simp only
        split
        · exact Or.inr (Or.inr rfl)
        · exact Or.inl rfl
      · rw [h6]; exact Or.inr (Or.inl rfl)
    · obtain ⟨T, hT⟩ : ∃ T, (lexP s2).1 = T := ⟨_, rfl⟩
      have hl2 : lexP s2 = (T, 0, 0) := Prod.ext hT (Prod.ext h5 (lexF_zero s2 h5 rfl))
      obtain ⟨C, hC⟩ := lex_upto hL h1 h4 hl2
      unfold parseQ
      rw [hl2]
      simp only
      rw [if_neg (by simp), hC]
      rw [h1] at h3
      rw [query_keeps h3 C s2.size]
      exact ⟨rfl, rfl⟩
end Go.Proofs.YtdfenhjibnfdeaaGreatDoor
