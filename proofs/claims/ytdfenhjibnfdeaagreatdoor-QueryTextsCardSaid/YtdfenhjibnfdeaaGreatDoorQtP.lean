/- The lexer at a text that is cut; the plain law of QueryPrefixes. -/
import Derived.Test.YtdfenhjibnfdeaaGreatDoorQpA
import Derived.Test.YtdfenhjibnfdeaaGreatDoorQpB
namespace Go.Proofs.YtdfenhjibnfdeaaGreatDoor
open Go.RowKit Go.Shelf


theorem scan_len {c : UInt8} {r : List UInt8} {n : Nat} {o : Option (Int × ByteArray × Int)} (h : scan1 (c :: r) = (n, o)) (ho : ∀ k t e, o = some (k, t, e) → e = 0) : 1 ≤ n ∧ n ≤ (c :: r).length := by
  have sp : ∀ p : UInt8 → Bool, p c = true → 1 ≤ spanN p (c :: r) ∧ spanN p (c :: r) ≤ (c :: r).length := fun p hp => ⟨by rw [spanN, if_pos hp]; omega, span_le p _⟩
  rw [scan1] at h
  split at h
  · injection h with h1 _; subst h1; simp
  split at h
  · rename_i h35
    injection h with h1 _; subst h1
    exact sp _ (by simp [h35])
  split at h
  · rename_i hl
    simp only at h
    injection h with h1 _; subst h1
    exact sp _ (by unfold wordC; rw [hl]; rfl)
  split at h
  · rename_i hd
    simp only at h
    injection h with h1 _; subst h1
    exact sp _ hd
  split at h
  · cases hu : unqL r with
    | none => rw [hu] at h; injection h with h1 h2; exact absurd (ho _ _ _ h2.symm) (by decide)
    | some x =>
      rw [hu] at h
      simp only at h
      injection h with h1 _; subst h1
      have := unq_len _ r x.1 x.2 (Nat.le_refl _) hu
      rw [List.length_cons]; omega
  split at h
  · injection h with h1 _; subst h1; simp
  · injection h with h1 h2; exact absurd (ho _ _ _ h2.symm) (by decide)
theorem lexF_mapL : ∀ (fs : List FndD) (acc T : List TokD) (o : Int), lexF acc fs = (T, 0, o) → T = acc ++ fs.map (·.tok) ∧ (∀ x ∈ fs, x.err = 0) ∧ (acc.length ≤ 5000 → acc.length + fs.length ≤ 5000)
  | [], acc, T, o, h => by
    rw [lexF] at h
    injection h with h _
    exact ⟨by simp [h], fun x hx => (by cases hx), fun h => by simpa using h⟩
  | f :: r, acc, T, o, h => by
    rw [lexF] at h
    split at h
    · rename_i he; injection h with _ h; injection h with h _; exact absurd h he
    · rename_i he
      split at h
      · injection h with _ h; injection h with h _; cases h
      · rename_i hl
        obtain ⟨h1, h2, h3⟩ := lexF_mapL r _ T o h
        refine ⟨by rw [h1, List.map_cons, List.append_assoc]; rfl, fun x hx => ?_, fun ha => ?_⟩
        · rcases List.mem_cons.1 hx with rfl | hx
          · simpa using he
          · exact h2 x hx
        · have := h3 (by rw [List.length_append, List.length_singleton]; omega)
          rw [List.length_append, List.length_singleton] at this
          rw [List.length_cons]; omega
theorem lexF_allok : ∀ (fs : List FndD) (acc : List TokD), (∀ x ∈ fs, x.err = 0) → acc.length + fs.length ≤ 5000 → lexF acc fs = (acc ++ fs.map (·.tok), 0, 0)
  | [], acc, _, _ => by rw [lexF]; simp
  | f :: r, acc, h, hl => by
    rw [List.length_cons] at hl
    rw [lexF, if_neg (by rw [h f (List.mem_cons_self ..)]; simp), if_neg (by omega), lexF_allok r _ (fun x hx => h x (List.mem_cons_of_mem _ hx)) (by rw [List.length_append, List.length_singleton]; omega), List.map_cons, List.append_assoc]
    rfl
theorem toks_sorted : ∀ (f i : Nat) (l : List UInt8), (∀ x ∈ toks f i l, x.err = 0) → (toks f i l).Pairwise fun x y => x.tok.off < y.tok.off
  | 0, _, _, _ => by rw [toks]; exact List.Pairwise.nil
  | f + 1, i, [], _ => by rw [toks]; exact List.Pairwise.nil; omega
  | f + 1, i, c :: r, he => by
    rw [toks] at he ⊢
    rcases hs : scan1 (c :: r) with ⟨n, o⟩
    rw [hs] at he
    cases o with
    | none => exact toks_sorted f _ _ he
    | some z =>
      obtain ⟨k, t, e⟩ := z
      have e0 : e = 0 := he ⟨⟨k, t, i⟩, e⟩ (List.mem_cons_self ..)
      subst e0
      simp only [] at he ⊢
      have hn := (scan_len hs (fun k' t' e' h => by injection h with h; injection h with _ h; injection h with _ h; exact h.symm)).1
      refine List.Pairwise.cons (fun y hy => ?_) (toks_sorted f _ _ fun x hx => he x (List.mem_cons_of_mem _ hx))
      have := (toks_good f _ _ y hy).1
      simp only; omega
theorem lex_list {s : ByteArray} {L : List TokD} (h : lexP s = (L, 0, 0)) : s.size ≤ 20000 ∧ L = (toksB s).map (·.tok) ∧ (∀ x ∈ toksB s, x.err = 0) ∧ (toksB s).length ≤ 5000 ∧ L.Pairwise fun x y => x.off < y.off := by
  unfold lexP at h
  split at h
  · injection h with _ h; injection h with h _; cases h
  · rename_i hs
    obtain ⟨h1, h2, h3⟩ := lexF_mapL _ _ _ _ h
    rw [List.nil_append] at h1
    refine ⟨by omega, h1, h2, by simpa using h3 (by simp), ?_⟩
    rw [h1, List.pairwise_map]
    exact toks_sorted _ _ _ h2
theorem len_list (s : ByteArray) : s.data.toList.length = s.size := by rw [Array.length_toList]; rfl
theorem lexF_range : ∀ (fs : List FndD) (acc : List TokD) (n : Nat), (∀ x ∈ fs, x.tok.off < n) → (lexF acc fs).2.1 ≠ 0 → 0 ≤ (lexF acc fs).2.2 ∧ (lexF acc fs).2.2 ≤ n
  | [], acc, n, _, h => absurd rfl h
  | f :: r, acc, n, hx, h => by
    have h0 := hx f (List.mem_cons_self ..)
    rw [lexF] at h ⊢
    by_cases h1 : f.err ≠ 0
    · rw [if_pos h1]; simp only; omega
    · rw [if_neg h1] at h ⊢
      by_cases h2 : acc.length = 5000
      · rw [if_pos h2]; simp only; omega
      · rw [if_neg h2] at h ⊢
        exact lexF_range r _ n (fun x hx' => hx x (List.mem_cons_of_mem _ hx')) h
/-- Where the errors of texts stand. -/
theorem parse_range (s : ByteArray) : (parseQ s).2.1 = 0 ∨ (-1 ≤ (parseQ s).2.2 ∧ (parseQ s).2.2 ≤ s.size) := by
  have hl := len_list s
  unfold parseQ
  by_cases he : (lexP s).2.1 = 0
  · rw [if_neg (by simpa using he)]
    obtain ⟨T, hT⟩ : ∃ T, (lexP s).1 = T := ⟨_, rfl⟩
    have hL : lexP s = (T, 0, 0) := Prod.ext hT (Prod.ext he (lexF_zero s he rfl))
    rw [hT]
    cases hq : queryP s.size T with
    | ok q r =>
      simp only
      split
      · exact Or.inr ⟨by simp, by simp⟩
      · exact Or.inl rfl
    | bad e off =>
      right
      simp only
      by_cases h6 : e = 6
      · rw [query_pr] at hq
        have hs := loc_query.suf T
        cases hqq : queryQ T with
        | ok a r => rw [hqq] at hq; cases hq
        | bad e' r =>
          rw [hqq] at hq hs
          cases r with
          | nil => injection hq with _ h2; subst h2; omega
          | cons t B =>
            injection hq with _ h2
            subst h2
            obtain ⟨A, hA⟩ := hs
            have := (lex_good hL).2.2 t (by rw [← hA]; show t ∈ A ++ t :: B; simp)
            omega
      · obtain ⟨A, t, B, h1, h2, -⟩ := query_at hq h6
        have := (lex_good hL).2.2 t (by rw [h1]; simp)
        omega
  · rw [if_pos he]
    right
    simp only
    unfold lexP at he ⊢
    split
    · simp only; omega
    · rename_i hs
      rw [if_neg hs] at he
      have := lexF_range (toksB s) [] s.size (fun x hx => by have := (toks_good _ _ _ x hx).2.1; omega) he
      omega
end Go.Proofs.YtdfenhjibnfdeaaGreatDoor
