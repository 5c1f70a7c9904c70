/- What the law of the order notes, in its order. No program in sight. -/
import Derived.Test.YtbkomdinchiffaaGreatBorLaw
import Derived.Test.YtbkomdinchiffaaGreatBorXPE
namespace Go.Proofs.YtbkomdinchiffaaGreat

def endC (p : KeyD) (x : Nat) : ByteArray := if x / 2 = 0 then p.1 else p.2
def endD (q : KeyD) (x : Nat) : ByteArray := if x % 2 = 0 then q.1 else q.2
def nodeU (l : List ObjD) (p q : KeyD) (x : Nat) : List KeyD := if endC p x ≠ endD q x ∧ ptO l (endC p x) = ptO l (endD q x) then [key2 (endC p x) (endD q x)] else []
def nodeUs (l : List ObjD) (p q : KeyD) (n : Nat) : List KeyD := (List.range n).flatMap (nodeU l p q)
def ownU (l : List ObjD) (i k : Nat) (p q : KeyD) : List KeyD := if k < i then ownNs l p q else []
def pairU (l : List ObjD) (i k : Nat) : List KeyD := nodeUs l (atK l i) (atK l k) 4 ++ ownU l i k (atK l i) (atK l k)
def rowU (l : List ObjD) (i : Nat) (n : Nat) : List KeyD := (List.range n).flatMap (pairU l i)
def ordU (l : List ObjD) (n : Nat) : List KeyD := (List.range n).flatMap fun i => rowU l i (keysP l).length
def selfT (l : List ObjD) (i : Nat) : List KeyD := if ptO l (atK l i).1 = ptO l (atK l i).2 then [atK l i] else []
def selfU (l : List ObjD) (n : Nat) : List KeyD := (List.range n).flatMap (selfT l)
def noteA (ks : List KeyD) : List KeyD := ks.foldl (fun N k => noteK k N) []
theorem noteA_snoc (ks : List KeyD) (k : KeyD) : noteA (ks ++ [k]) = noteK k (noteA ks) := by unfold noteA; rw [List.foldl_append]; rfl
theorem noteA_fold : ∀ (ks N : List KeyD), N.Nodup → (ks.foldl (fun N k => noteK k N) N).Nodup ∧ ∀ x, x ∈ ks.foldl (fun N k => noteK k N) N ↔ x ∈ N ∨ x ∈ ks
  | [], N, h => ⟨h, fun x => by simp⟩
  | k :: ks, N, h => by
    rw [List.foldl_cons]
    have hn : (noteK k N).Nodup := by
      unfold noteK
      split
      · exact h
      · rename_i hk
        rw [List.nodup_append]
        exact ⟨h, by simp, fun a ha b hb => by rw [List.mem_singleton.1 hb]; exact fun e => hk (e ▸ ha)⟩
    obtain ⟨h1, h2⟩ := noteA_fold ks (noteK k N) hn
    refine ⟨h1, fun x => ?_⟩
    rw [h2, note_mem, List.mem_cons]
    constructor
    · rintro ((h | h) | h)
      · exact Or.inr (Or.inl h)
      · exact Or.inl h
      · exact Or.inr (Or.inr h)
    · rintro (h | h | h)
      · exact Or.inl (Or.inr h)
      · exact Or.inl (Or.inl h)
      · exact Or.inr h
theorem noteA_nodup (ks : List KeyD) : (noteA ks).Nodup := (noteA_fold ks [] List.nodup_nil).1
theorem noteA_mem {ks : List KeyD} {x : KeyD} : x ∈ noteA ks ↔ x ∈ ks := by
  unfold noteA
  rw [(noteA_fold ks [] List.nodup_nil).2]; simp
theorem nodeU_mem {l : List ObjD} {p q key : KeyD} {x : Nat} : key ∈ nodeU l p q x ↔ endC p x ≠ endD q x ∧ ptO l (endC p x) = ptO l (endD q x) ∧ key = key2 (endC p x) (endD q x) := by
  unfold nodeU
  split
  · rename_i h
    simp [h.1, h.2]
  · rename_i h
    constructor
    · intro h'; cases h'
    · rintro ⟨h1, h2, _⟩; exact absurd ⟨h1, h2⟩ h
theorem nodeUs_mem {l : List ObjD} {p q key : KeyD} : key ∈ nodeUs l p q 4 ↔ NodeN l p q key := by
  unfold nodeUs NodeN
  simp only [List.mem_flatMap, List.mem_range, nodeU_mem]
  constructor
  · rintro ⟨x, _, h1, h2, h3⟩
    refine ⟨_, _, ?_, ?_, h1, h2, h3⟩
    · unfold endC; split
      · exact Or.inl rfl
      · exact Or.inr rfl
    · unfold endD; split
      · exact Or.inl rfl
      · exact Or.inr rfl
  · rintro ⟨a, b, ha, hb, h1, h2, h3⟩
    have hx : ∃ x, x < 4 ∧ endC p x = a ∧ endD q x = b := by
      rcases ha with rfl | rfl <;> rcases hb with rfl | rfl
      · exact ⟨0, by omega, rfl, rfl⟩
      · exact ⟨1, by omega, rfl, rfl⟩
      · exact ⟨2, by omega, rfl, rfl⟩
      · exact ⟨3, by omega, rfl, rfl⟩
    obtain ⟨x, hx, rfl, rfl⟩ := hx
    exact ⟨x, hx, h1, h2, h3⟩
theorem ordU_mem {l : List ObjD} (hok : mapOK l = true) {key : KeyD} : key ∈ ordU l (keysP l).length ++ selfU l (keysP l).length ↔ key ∈ badP l := by
  rw [order_all hok, List.mem_append]
  refine or_congr ?_ ?_
  · unfold ordU rowU pairU ownU
    simp only [List.mem_flatMap, List.mem_range, List.mem_append, nodeUs_mem]
    constructor
    · rintro ⟨i, hi, k, hk, h⟩
      have h1 := List.getElem?_eq_getElem hi
      have h2 := List.getElem?_eq_getElem hk
      rw [atK_get h1, atK_get h2] at h
      refine ⟨i, k, _, _, h1, h2, ?_⟩
      rcases h with h | h
      · exact Or.inl h
      · split at h
        · rename_i hik; exact Or.inr ⟨hik, ownNs_mem.1 h⟩
        · cases h
    · rintro ⟨i, k, p, q, hi, hk, h⟩
      refine ⟨i, (List.getElem?_eq_some_iff.1 hi).1, k, (List.getElem?_eq_some_iff.1 hk).1, ?_⟩
      rw [atK_get hi, atK_get hk]
      rcases h with h | ⟨hik, h⟩
      · exact Or.inl h
      · exact Or.inr (by rw [if_pos hik]; exact ownNs_mem.2 h)
  · unfold selfU selfT
    simp only [List.mem_flatMap, List.mem_range]
    constructor
    · rintro ⟨i, hi, h⟩
      have h1 := List.getElem?_eq_getElem hi
      rw [atK_get h1] at h
      split at h
      · rename_i he
        have := List.mem_singleton.1 h
        subst this
        exact ⟨_, List.mem_of_getElem? h1, he, rfl⟩
      · cases h
    · rintro ⟨p, hp, he, rfl⟩
      obtain ⟨i, hi⟩ := List.getElem?_of_mem hp
      exact ⟨i, (List.getElem?_eq_some_iff.1 hi).1, by rw [atK_get hi, if_pos he]; exact List.mem_singleton.2 rfl⟩
/-- What the law of the order has noted at its end is what Check returns. -/
theorem noteA_check {l : List ObjD} (hok : mapOK l = true) : (∀ x, x ∈ noteA (ordU l (keysP l).length ++ selfU l (keysP l).length) ↔ x ∈ checkP l) ∧ (noteA (ordU l (keysP l).length ++ selfU l (keysP l).length)).length = (checkP l).length := by
  have hm : ∀ x, x ∈ noteA (ordU l (keysP l).length ++ selfU l (keysP l).length) ↔ x ∈ checkP l := fun x => by rw [noteA_mem, ordU_mem hok, checkP_mem]
  refine ⟨hm, ?_⟩
  have h1 := noteA_nodup (ordU l (keysP l).length ++ selfU l (keysP l).length)
  have h2 := (checkP_sort l).nodup
  exact Nat.le_antisymm (nodup_le h1 fun x hx => (hm x).1 hx) (nodup_le h2 fun x hx => (hm x).2 hx)
end Go.Proofs.YtbkomdinchiffaaGreat
