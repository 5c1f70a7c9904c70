/- Borders in plain lists: who owns them, as the program and as the reference collect them; what is wrong with them. No program in sight. -/
import Derived.Test.YtbkomdinchiffaaGreatNod
import Derived.Test.YtbkomdinchiffaaGreatAssoc
import Derived.Test.YtbkomdinchiffaaGreatGeoP
namespace Go.Proofs.YtbkomdinchiffaaGreat
open Go.RowKit

instance : ReflBEq ByteArray := ⟨(MapKept.bytes_beq _ _).2 rfl⟩
instance : LawfulBEq ByteArray := ⟨fun h => (MapKept.bytes_beq _ _).1 h⟩
abbrev KeyD := ByteArray × ByteArray
def minB (a b : ByteArray) : ByteArray := if ltB b a then b else a
def maxB (a b : ByteArray) : ByteArray := if ltB a b then b else a
def key2 (a b : ByteArray) : KeyD := (minB a b, maxB a b)
def ltK (p q : KeyD) : Bool := ltB p.1 q.1 || (decide (p.1 = q.1) && ltB p.2 q.2)
theorem ltB_asymm {a b : ByteArray} (h : ltB a b = true) : ltB b a = false := by
  cases h2 : ltB b a with
  | false => rfl
  | true => have := ltB_trans h h2; rw [ltB_irrefl] at this; cases this
theorem key2_comm (a b : ByteArray) : key2 a b = key2 b a := by
  unfold key2 minB maxB
  cases h : ltB a b with
  | true => rw [ltB_asymm h]; simp
  | false =>
    cases h2 : ltB b a with
    | true => simp
    | false => rw [ltB_total h h2]
theorem key2_self (a : ByteArray) : key2 a a = (a, a) := by unfold key2 minB maxB; rw [ltB_irrefl]; rfl
theorem key2_or (a b : ByteArray) : key2 a b = (a, b) ∨ key2 a b = (b, a) := by
  unfold key2 minB maxB
  cases h : ltB a b with
  | true => rw [ltB_asymm h]; exact Or.inl rfl
  | false =>
    cases h2 : ltB b a with
    | true => exact Or.inr rfl
    | false => rw [ltB_total h h2]; exact Or.inl rfl
theorem key2_le (a b : ByteArray) : ltB (key2 a b).2 (key2 a b).1 = false := by
  unfold key2 minB maxB
  simp only
  cases h : ltB a b with
  | true => rw [ltB_asymm h]; simpa using ltB_asymm h
  | false =>
    cases h2 : ltB b a with
    | true => simpa using h
    | false => simpa using ltB_irrefl a
theorem key2_of_le {a b : ByteArray} (h : ltB b a = false) : key2 a b = (a, b) := by
  unfold key2 minB maxB
  rw [h]
  cases h2 : ltB a b with
  | true => rfl
  | false => rw [ltB_total h2 h]; rfl
theorem ltK_irrefl (p : KeyD) : ltK p p = false := by unfold ltK; simp [ltB_irrefl]
theorem ltK_trans {p q r : KeyD} (h : ltK p q = true) (h2 : ltK q r = true) : ltK p r = true := by
  unfold ltK at *
  simp only [Bool.or_eq_true, Bool.and_eq_true, decide_eq_true_eq] at *
  rcases h with h | ⟨h, h'⟩ <;> rcases h2 with h2 | ⟨h2, h2'⟩
  · exact Or.inl (ltB_trans h h2)
  · exact Or.inl (by rw [← h2]; exact h)
  · exact Or.inl (by rw [h]; exact h2)
  · exact Or.inr ⟨h.trans h2, ltB_trans h' h2'⟩
theorem ltK_total {p q : KeyD} (h : ltK p q = false) (h2 : ltK q p = false) : p = q := by
  unfold ltK at *
  simp only [Bool.or_eq_false_iff, Bool.and_eq_false_iff, decide_eq_false_iff_not] at *
  have e1 := ltB_total h.1 h2.1
  refine Prod.ext e1 (ltB_total ?_ ?_)
  · rcases h.2 with h | h
    · exact absurd e1 h
    · exact h
  · rcases h2.2 with h | h
    · exact absurd e1.symm h
    · exact h
theorem ltK_asymm {p q : KeyD} (h : ltK p q = true) : ltK q p = false := by
  cases h2 : ltK q p with
  | false => rfl
  | true => have := ltK_trans h h2; rw [ltK_irrefl] at this; cases this

/-- The index of the next reference. -/
def sideN (o : ObjD) : Nat := if o.kind = 2 then o.refs.length - 1 else o.refs.length
def refAt (o : ObjD) (i : Nat) : ByteArray := (o.refs[i]?).getD ⟨#[]⟩
def sideAt (o : ObjD) (i : Nat) : KeyD := key2 (refAt o i) (refAt o ((i + 1) % o.refs.length))
/-- The pairs of nodes of a way or an area, in order. -/
def sidesP (o : ObjD) : List KeyD := (List.range (sideN o)).map (sideAt o)
/-- Does an object own borders? -/
def isB (l : List ObjD) (o : ObjD) : Bool := decide (o.kind = 2 ∨ o.kind = 3) && soundB l o
/-- The owners of a pair of nodes among some objects of a map. -/
def ownF (l objs : List ObjD) (k : KeyD) : List ByteArray := (objs.filter fun o => isB l o && decide (k ∈ sidesP o)).map (·.id)
/-- .. and among some of the sides of one more. -/
def partF (l objs : List ObjD) (o : ObjD) (j : Nat) (k : KeyD) : List ByteArray := ownF l objs k ++ if k ∈ (sidesP o).take j then [o.id] else []
theorem partF_zero (l objs : List ObjD) (o : ObjD) (k : KeyD) : partF l objs o 0 k = ownF l objs k := by unfold partF; simp
theorem ownF_snoc (l objs : List ObjD) (o : ObjD) (k : KeyD) : ownF l (objs ++ [o]) k = if isB l o = true then partF l objs o (sideN o) k else ownF l objs k := by
  unfold ownF partF
  rw [List.filter_append, List.map_append]
  have hl : (sidesP o).take (sideN o) = sidesP o := List.take_of_length_le (by simp [sidesP])
  rw [hl]
  cases h : isB l o with
  | false => simp [h]
  | true =>
    by_cases hk : k ∈ sidesP o
    · simp [h, hk, ownF]
    · simp [h, hk, ownF]
/-- What an assoc list knows. -/
def Owns (acc : List (KeyD × List ByteArray)) (f : KeyD → List ByteArray) : Prop := ∀ k, aget k acc = if f k = [] then none else some (f k)
theorem Owns.nil {f : KeyD → List ByteArray} (h : ∀ k, f k = []) : Owns [] f := fun k => by rw [h, if_pos rfl]; rfl
theorem Owns.getD {acc : List (KeyD × List ByteArray)} {f : KeyD → List ByteArray} (h : Owns acc f) (k : KeyD) : (aget k acc).getD [] = f k := by
  rw [h k]
  split
  · rename_i e; rw [e]; rfl
  · rfl
theorem Owns.congr {acc : List (KeyD × List ByteArray)} {f g : KeyD → List ByteArray} (h : Owns acc f) (e : ∀ k, f k = g k) : Owns acc g := fun k => by rw [h k, e k]
theorem ids_not {l : List ObjD} (h : mapOK l = true) {i : Nat} {o : ObjD} (ho : l[i]? = some o) (l' : List ObjD) (k : KeyD) : o.id ∉ ownF l' (l.take i) k := by
  intro hm
  unfold ownF at hm
  obtain ⟨x, hx, e⟩ := List.mem_map.1 hm
  obtain ⟨j, hj⟩ := List.getElem?_of_mem (List.mem_filter.1 hx).1
  rw [List.getElem?_take] at hj
  split at hj
  · rename_i hji
    have := (mapOK_sorted h).2 j i x o hji hj ho
    rw [e, ltB_irrefl] at this; cases this
  · cases hj
theorem sides_get {o : ObjD} {j : Nat} (hj : j < sideN o) : (sidesP o)[j]? = some (sideAt o j) := by
  unfold sidesP
  rw [List.getElem?_map, List.getElem?_range hj]; rfl
theorem partF_succ {l objs : List ObjD} {o : ObjD} {j : Nat} (hj : j < sideN o) (hno : ∀ k, o.id ∉ ownF l objs k) (k : KeyD) :
    partF l objs o (j + 1) k = if k = sideAt o j ∧ o.id ∉ partF l objs o j (sideAt o j) then partF l objs o j k ++ [o.id] else partF l objs o j k := by
  unfold partF
  obtain ⟨hl, hs⟩ := List.getElem?_eq_some_iff.1 (sides_get hj)
  rw [List.take_succ_eq_append_getElem hl, hs]
  have hno' := hno (sideAt o j)
  by_cases hk : k = sideAt o j
  · subst hk
    by_cases hm : sideAt o j ∈ (sidesP o).take j
    · simp [hm]
    · simp [hm, hno']
  · by_cases hm : k ∈ (sidesP o).take j
    · simp [hk, hm]
    · simp [hk, hm]
/-- An owner added to a pair, as the program does it. -/
def addOwn (acc : List (KeyD × List ByteArray)) (k : KeyD) (id : ByteArray) : List (KeyD × List ByteArray) :=
  if id ∈ (aget k acc).getD [] then acc else aput k ((aget k acc).getD [] ++ [id]) acc
theorem Owns.add {acc : List (KeyD × List ByteArray)} {f g : KeyD → List ByteArray} (h : Owns acc f) (k : KeyD) (id : ByteArray) (hg : ∀ k', g k' = if k' = k ∧ id ∉ f k then f k' ++ [id] else f k') : Owns (addOwn acc k id) g := by
  unfold addOwn
  rw [h.getD k]
  intro k'
  by_cases hm : id ∈ f k
  · have e : g k' = f k' := by rw [hg, if_neg (fun c => c.2 hm)]
    rw [if_pos hm, h k', e]
  · rw [if_neg hm]
    by_cases hk : k' = k
    · subst hk
      have e : g k' = f k' ++ [id] := by rw [hg, if_pos ⟨rfl, hm⟩]
      rw [aget_put_same, e, if_neg (by simp)]
    · have e : g k' = f k' := by rw [hg, if_neg (fun c => hk c.1)]
      rw [aget_put_other _ (fun e => hk e.symm), h k', e]
/-- .. and as the reference does it. -/
def rput (k : KeyD) (id : ByteArray) : List (KeyD × List ByteArray) → List (KeyD × List ByteArray)
  | [] => [(k, [id])]
  | p :: l => if ltK p.1 k then p :: rput k id l else if p.1 = k then (k, if p.2.getLast? = some id then p.2 else p.2 ++ [id]) :: l else (k, [id]) :: p :: l
/-- Keys in strictly increasing order. -/
def SortedK {ν : Type} (l : List (KeyD × ν)) : Prop := l.Pairwise fun p q => ltK p.1 q.1 = true
theorem SortedK.nodup {ν : Type} {l : List (KeyD × ν)} (h : SortedK l) : (l.map (·.1)).Nodup := by
  unfold SortedK at h
  exact List.pairwise_map.2 (h.imp fun {a b} hab e => by rw [e, ltK_irrefl] at hab; cases hab)
theorem mem_rput {k : KeyD} {id : ByteArray} : ∀ {l : List (KeyD × List ByteArray)} {p : KeyD × List ByteArray}, p ∈ rput k id l → p.1 = k ∨ p ∈ l
  | [], p, h => by rw [rput, List.mem_singleton] at h; rw [h]; exact Or.inl rfl
  | q :: l, p, h => by
    rw [rput] at h
    split at h
    · rcases List.mem_cons.1 h with rfl | h
      · exact Or.inr (List.mem_cons_self ..)
      · rcases mem_rput h with h | h
        · exact Or.inl h
        · exact Or.inr (List.mem_cons_of_mem _ h)
    · split at h
      · rcases List.mem_cons.1 h with rfl | h
        · exact Or.inl rfl
        · exact Or.inr (List.mem_cons_of_mem _ h)
      · rcases List.mem_cons.1 h with rfl | h
        · exact Or.inl rfl
        · exact Or.inr h
theorem rput_sorted (k : KeyD) (id : ByteArray) : ∀ {l : List (KeyD × List ByteArray)}, SortedK l → SortedK (rput k id l)
  | [], _ => List.pairwise_singleton ..
  | q :: l, h => by
    have h' := List.pairwise_cons.1 h
    rw [rput]
    split
    · rename_i hlt
      refine List.pairwise_cons.2 ⟨fun p hp => ?_, rput_sorted k id h'.2⟩
      rcases mem_rput hp with e | hp
      · rw [e]; exact hlt
      · exact h'.1 p hp
    · rename_i hlt
      split
      · rename_i e
        exact List.pairwise_cons.2 ⟨fun p hp => by rw [← e]; exact h'.1 p hp, h'.2⟩
      · rename_i e
        have hkq : ltK k q.1 = true := by
          cases hc : ltK k q.1 with
          | true => rfl
          | false => exact absurd (ltK_total (by simpa using hlt) hc) e
        refine List.pairwise_cons.2 ⟨fun p hp => ?_, h⟩
        rcases List.mem_cons.1 hp with rfl | hp
        · exact hkq
        · exact ltK_trans hkq (h'.1 p hp)
theorem aget_lt {ν : Type} {l : List (KeyD × ν)} {k : KeyD} (h : ∀ p ∈ l, ltK k p.1 = true) : aget k l = none :=
  aget_none.2 fun p hp e => by have := h p hp; rw [e, ltK_irrefl] at this; cases this
theorem aget_rput {k : KeyD} {id : ByteArray} : ∀ {l : List (KeyD × List ByteArray)}, SortedK l → ∀ k', aget k' (rput k id l) = if k' = k then (match aget k l with | none => some [id] | some u => some (if u.getLast? = some id then u else u ++ [id])) else aget k' l
  | [], _, k' => by
    rw [rput]
    by_cases h : k' = k
    · subst h; simp [aget]
    · simp [aget, h, Ne.symm h]
  | q :: l, h, k' => by
    have h' := List.pairwise_cons.1 h
    rw [rput]
    split
    · rename_i hlt
      have hne : q.1 ≠ k := fun e => by rw [e, ltK_irrefl] at hlt; cases hlt
      rw [aget, aget_rput h'.2 k']
      by_cases hk : k' = k
      · subst hk
        rw [if_neg hne, if_pos rfl, if_pos rfl, aget, if_neg hne]
      · rw [if_neg hk, if_neg hk, aget]
    · rename_i hlt
      split
      · rename_i e
        by_cases hk : k' = k
        · subst hk
          rw [aget, if_pos rfl, if_pos rfl, aget, if_pos e]
        · rw [aget, if_neg (Ne.symm hk), if_neg hk, aget, if_neg (by rw [e]; exact Ne.symm hk)]
      · rename_i e
        have hkq : ltK k q.1 = true := by
          cases hc : ltK k q.1 with
          | true => rfl
          | false => exact absurd (ltK_total (by simpa using hlt) hc) e
        have hno : aget k (q :: l) = none := aget_lt fun p hp => by
          rcases List.mem_cons.1 hp with rfl | hp
          · exact hkq
          · exact ltK_trans hkq (h'.1 p hp)
        rw [hno]
        by_cases hk : k' = k
        · subst hk
          simp [aget]
        · rw [aget, if_neg (Ne.symm hk), if_neg hk]
theorem Owns.rput {acc : List (KeyD × List ByteArray)} {f g : KeyD → List ByteArray} (h : Owns acc f) (hs : SortedK acc) (k : KeyD) (id : ByteArray) (hlast : id ∈ f k ↔ (f k).getLast? = some id) (hg : ∀ k', g k' = if k' = k ∧ id ∉ f k then f k' ++ [id] else f k') :
    Owns (rput k id acc) g := by
  intro k'
  rw [aget_rput hs]
  by_cases hk : k' = k
  · subst hk
    rw [if_pos rfl, h k']
    by_cases he : f k' = []
    · have e : g k' = [] ++ [id] := by rw [hg, if_pos ⟨rfl, by rw [he]; simp⟩, he]
      rw [if_pos he, e, if_neg (by simp)]; rfl
    · rw [if_neg he]
      by_cases hm : id ∈ f k'
      · have e : g k' = f k' := by rw [hg, if_neg (fun c => c.2 hm)]
        simp only [hlast.1 hm, if_true]
        rw [e, if_neg he]
      · have hl : ¬ (f k').getLast? = some id := fun c => hm (hlast.2 c)
        have e : g k' = f k' ++ [id] := by rw [hg, if_pos ⟨rfl, hm⟩]
        simp only [hl, if_false]
        rw [e, if_neg (by simp)]
  · have e : g k' = f k' := by rw [hg, if_neg (fun c => hk c.1)]
    rw [if_neg hk, h k', e]
theorem part_last {l objs : List ObjD} {o : ObjD} (hno : ∀ k, o.id ∉ ownF l objs k) (j : Nat) (k : KeyD) : o.id ∈ partF l objs o j k ↔ (partF l objs o j k).getLast? = some o.id := by
  unfold partF
  split
  · simp
  · rw [List.append_nil]
    exact ⟨fun h => absurd h (hno k), fun h => absurd (List.mem_of_getLast? h) (hno k)⟩

/-- A key put into an ordered list, unless it is there. -/
def insK (k : KeyD) : List KeyD → List KeyD
  | [] => [k]
  | x :: l => if ltK x k then x :: insK k l else if x = k then x :: l else k :: x :: l
def setK (ks : List KeyD) : List KeyD := ks.foldl (fun acc k => insK k acc) []
def SortK (l : List KeyD) : Prop := l.Pairwise fun p q => ltK p q = true
theorem mem_insK (k : KeyD) : ∀ (l : List KeyD) (x : KeyD), x ∈ insK k l ↔ x = k ∨ x ∈ l
  | [], x => by simp [insK]
  | q :: l, x => by
    rw [insK]
    split
    · rw [List.mem_cons, mem_insK k l x, List.mem_cons]
      constructor
      · rintro (h | h | h)
        · exact Or.inr (Or.inl h)
        · exact Or.inl h
        · exact Or.inr (Or.inr h)
      · rintro (h | h | h)
        · exact Or.inr (Or.inl h)
        · exact Or.inl h
        · exact Or.inr (Or.inr h)
    · split
      · rename_i e; subst e
        rw [List.mem_cons]
        constructor
        · exact fun h => Or.inr h
        · rintro (h | h)
          · exact Or.inl h
          · exact h
      · rw [List.mem_cons]
theorem insK_sorted (k : KeyD) : ∀ {l : List KeyD}, SortK l → SortK (insK k l)
  | [], _ => List.pairwise_singleton ..
  | q :: l, h => by
    have h' := List.pairwise_cons.1 h
    rw [insK]
    split
    · rename_i hlt
      refine List.pairwise_cons.2 ⟨fun p hp => ?_, insK_sorted k h'.2⟩
      rcases (mem_insK k l p).1 hp with e | hp
      · rw [e]; exact hlt
      · exact h'.1 p hp
    · rename_i hlt
      split
      · exact h
      · rename_i e
        have hkq : ltK k q = true := by
          cases hc : ltK k q with
          | true => rfl
          | false => exact absurd (ltK_total (by simpa using hlt) hc) e
        refine List.pairwise_cons.2 ⟨fun p hp => ?_, h⟩
        rcases List.mem_cons.1 hp with rfl | hp
        · exact hkq
        · exact ltK_trans hkq (h'.1 p hp)
theorem fold_insK : ∀ (ks acc : List KeyD), SortK acc → SortK (ks.foldl (fun acc k => insK k acc) acc) ∧ ∀ x, x ∈ ks.foldl (fun acc k => insK k acc) acc ↔ x ∈ acc ∨ x ∈ ks
  | [], acc, h => ⟨h, fun x => by simp⟩
  | k :: ks, acc, h => by
    rw [List.foldl_cons]
    obtain ⟨h1, h2⟩ := fold_insK ks (insK k acc) (insK_sorted k h)
    refine ⟨h1, fun x => ?_⟩
    rw [h2, mem_insK, List.mem_cons]
    constructor
    · rintro ((h | h) | h)
      · exact Or.inr (Or.inl h)
      · exact Or.inl h
      · exact Or.inr (Or.inr h)
    · rintro (h | h | h)
      · exact Or.inl (Or.inr h)
      · exact Or.inl (Or.inl h)
      · exact Or.inr h
theorem setK_sorted (ks : List KeyD) : SortK (setK ks) := (fold_insK ks [] List.Pairwise.nil).1
theorem mem_setK {ks : List KeyD} {x : KeyD} : x ∈ setK ks ↔ x ∈ ks := by
  unfold setK
  rw [(fold_insK ks [] List.Pairwise.nil).2]; simp
/-- Lists in strictly increasing order with the same members are one. -/
theorem sorted_ext {α : Type} {lt : α → α → Bool} (hi : ∀ x, lt x x = false) (hasym : ∀ x y, lt x y = true → lt y x = false) : ∀ {a b : List α}, a.Pairwise (fun p q => lt p q = true) → b.Pairwise (fun p q => lt p q = true) → (∀ x, x ∈ a ↔ x ∈ b) → a = b
  | [], [], _, _, _ => rfl
  | [], y :: b, _, _, h => absurd ((h y).2 (List.mem_cons_self ..)) (by simp)
  | x :: a, [], _, _, h => absurd ((h x).1 (List.mem_cons_self ..)) (by simp)
  | x :: a, y :: b, ha, hb, h => by
    have ha' := List.pairwise_cons.1 ha
    have hb' := List.pairwise_cons.1 hb
    have e : x = y := by
      rcases List.mem_cons.1 ((h x).1 (List.mem_cons_self ..)) with e | h1
      · exact e
      · rcases List.mem_cons.1 ((h y).2 (List.mem_cons_self ..)) with e | h2
        · exact e.symm
        · have c1 := ha'.1 y h2
          have c2 := hb'.1 x h1
          rw [hasym x y c1] at c2; cases c2
    subst e
    rw [sorted_ext hi hasym ha'.2 hb'.2 fun z => ?_]
    have hz := h z
    rw [List.mem_cons, List.mem_cons] at hz
    constructor
    · intro h1
      rcases hz.1 (Or.inr h1) with e | h2
      · subst e; have := ha'.1 z h1; rw [hi] at this; cases this
      · exact h2
    · intro h1
      rcases hz.2 (Or.inr h1) with e | h2
      · subst e; have := hb'.1 z h1; rw [hi] at this; cases this
      · exact h2
theorem sortK_ext {a b : List KeyD} (ha : SortK a) (hb : SortK b) (h : ∀ x, x ∈ a ↔ x ∈ b) : a = b := sorted_ext ltK_irrefl (fun _ _ => ltK_asymm) ha hb h
/-- Two ordered lists that know the same are one. -/
theorem owns_ext {a b : List (KeyD × List ByteArray)} {f : KeyD → List ByteArray} (ha : SortedK a) (hb : SortedK b) (h : Owns a f) (h2 : Owns b f) : a = b := by
  refine sorted_ext (lt := fun p q : KeyD × List ByteArray => ltK p.1 q.1) (fun p => ltK_irrefl _) (fun _ _ => ltK_asymm) ha hb fun p => ?_
  have key : ∀ {a b : List (KeyD × List ByteArray)}, SortedK a → SortedK b → Owns a f → Owns b f → p ∈ a → p ∈ b := fun {a b} ha hb h h2 hp => by
    have := aget_of_mem ha.nodup (show (p.1, p.2) ∈ a from hp)
    rw [h p.1, ← h2 p.1] at this
    exact aget_mem this
  exact ⟨key ha hb h h2, key hb ha h2 h⟩
/-- The pairs of nodes that have owners, in order. -/
def keysP (l : List ObjD) : List KeyD := setK ((l.filter (isB l)).flatMap sidesP)
/-- All borders of a valid map, in order, with their owners. -/
def bordersP (l : List ObjD) : List (KeyD × List ByteArray) := (keysP l).map fun k => (k, ownF l l k)
theorem keysP_mem {l : List ObjD} {k : KeyD} : k ∈ keysP l ↔ ∃ o ∈ l, isB l o = true ∧ k ∈ sidesP o := by
  unfold keysP
  rw [mem_setK, List.mem_flatMap]
  constructor
  · rintro ⟨o, ho, hk⟩
    rw [List.mem_filter] at ho
    exact ⟨o, ho.1, ho.2, hk⟩
  · rintro ⟨o, ho, hb, hk⟩
    exact ⟨o, List.mem_filter.2 ⟨ho, hb⟩, hk⟩
theorem ownF_mem {l objs : List ObjD} {k : KeyD} {id : ByteArray} : id ∈ ownF l objs k ↔ ∃ o ∈ objs, isB l o = true ∧ k ∈ sidesP o ∧ o.id = id := by
  unfold ownF
  rw [List.mem_map]
  constructor
  · rintro ⟨o, ho, e⟩
    rw [List.mem_filter, Bool.and_eq_true, decide_eq_true_eq] at ho
    exact ⟨o, ho.1, ho.2.1, ho.2.2, e⟩
  · rintro ⟨o, ho, hb, hk, e⟩
    exact ⟨o, List.mem_filter.2 ⟨ho, by rw [Bool.and_eq_true, decide_eq_true_eq]; exact ⟨hb, hk⟩⟩, e⟩
theorem ownF_nil {l : List ObjD} {k : KeyD} : ownF l l k = [] ↔ k ∉ keysP l := by
  rw [keysP_mem]
  constructor
  · rintro h ⟨o, ho, hb, hk⟩
    have : o.id ∈ ownF l l k := ownF_mem.2 ⟨o, ho, hb, hk, rfl⟩
    rw [h] at this; cases this
  · intro h
    refine List.eq_nil_iff_forall_not_mem.2 fun id hid => ?_
    obtain ⟨o, ho, hb, hk, _⟩ := ownF_mem.1 hid
    exact h ⟨o, ho, hb, hk⟩
theorem borders_sorted (l : List ObjD) : SortedK (bordersP l) := List.pairwise_map.2 (setK_sorted _)
theorem borders_owns (l : List ObjD) : Owns (bordersP l) (ownF l l) := fun k => by
  by_cases h : k ∈ keysP l
  · rw [if_neg (fun c => (ownF_nil.1 c) h)]
    exact aget_of_mem (borders_sorted l).nodup (List.mem_map.2 ⟨k, h, rfl⟩)
  · rw [if_pos (ownF_nil.2 h), aget_none]
    intro p hp e
    obtain ⟨k', hk', rfl⟩ := List.mem_map.1 hp
    exact h (by rw [← e]; exact hk')
theorem borders_of {l : List ObjD} {a : List (KeyD × List ByteArray)} (hs : SortedK a) (h : Owns a (ownF l l)) : a = bordersP l := owns_ext hs (borders_sorted l) h (borders_owns l)
theorem borders_mem {l : List ObjD} {p : KeyD × List ByteArray} : p ∈ bordersP l ↔ p.1 ∈ keysP l ∧ p.2 = ownF l l p.1 := by
  unfold bordersP
  rw [List.mem_map]
  constructor
  · rintro ⟨k, hk, rfl⟩; exact ⟨hk, rfl⟩
  · rintro ⟨h1, h2⟩; exact ⟨p.1, h1, Prod.ext rfl h2.symm⟩

/-- The point of a node of a map. -/
def ptO (l : List ObjD) (id : ByteArray) : Pt := (nodeAt l id).getD (0, 0)
def segB (l : List ObjD) (k : KeyD) : Sg := (ptO l k.1, ptO l k.2)
/-- Have two pairs a common node? -/
def comK (a b : KeyD) : Bool := decide (a.1 = b.1 ∨ a.1 = b.2) || decide (a.2 = b.1 ∨ a.2 = b.2)
/-- Do two borders meet as they must not? -/
def crossB (l : List ObjD) (a b : KeyD) : Bool := decide (meetsR (segB l a) (segB l b) ≠ 0) && !(decide (meetsR (segB l a) (segB l b) = 1) && comK a b)
/-- The nodes of borders. -/
def nodesP (l : List ObjD) : List ByteArray := (bordersP l).flatMap fun p => [p.1.1, p.1.2]
/-- What is wrong with the borders of a map: pairs of owners, or of nodes. -/
def badP (l : List ObjD) : List KeyD :=
  ((nodesP l).flatMap fun a => ((nodesP l).filter fun b => decide (a ≠ b) && decide (ptO l a = ptO l b)).map (key2 a)) ++
  ((bordersP l).flatMap fun p => ((bordersP l).filter fun q => decide (p.1 ≠ q.1) && crossB l p.1 q.1).flatMap fun q => p.2.flatMap fun x => q.2.map (key2 x))
def checkP (l : List ObjD) : List KeyD := setK (badP l)
theorem bad_mem {l : List ObjD} {k : KeyD} : k ∈ badP l ↔
    (∃ a ∈ nodesP l, ∃ b ∈ nodesP l, a ≠ b ∧ ptO l a = ptO l b ∧ k = key2 a b) ∨
    (∃ p ∈ bordersP l, ∃ q ∈ bordersP l, p.1 ≠ q.1 ∧ crossB l p.1 q.1 = true ∧ ∃ x ∈ p.2, ∃ y ∈ q.2, k = key2 x y) := by
  unfold badP
  rw [List.mem_append]
  refine or_congr ?_ ?_
  · rw [List.mem_flatMap]
    constructor
    · rintro ⟨a, ha, h⟩
      obtain ⟨b, hb, rfl⟩ := List.mem_map.1 h
      rw [List.mem_filter, Bool.and_eq_true, decide_eq_true_eq, decide_eq_true_eq] at hb
      exact ⟨a, ha, b, hb.1, hb.2.1, hb.2.2, rfl⟩
    · rintro ⟨a, ha, b, hb, h1, h2, rfl⟩
      exact ⟨a, ha, List.mem_map.2 ⟨b, List.mem_filter.2 ⟨hb, by rw [Bool.and_eq_true, decide_eq_true_eq, decide_eq_true_eq]; exact ⟨h1, h2⟩⟩, rfl⟩⟩
  · rw [List.mem_flatMap]
    constructor
    · rintro ⟨p, hp, h⟩
      obtain ⟨q, hq, h⟩ := List.mem_flatMap.1 h
      rw [List.mem_filter, Bool.and_eq_true, decide_eq_true_eq] at hq
      obtain ⟨x, hx, h⟩ := List.mem_flatMap.1 h
      obtain ⟨y, hy, rfl⟩ := List.mem_map.1 h
      exact ⟨p, hp, q, hq.1, hq.2.1, hq.2.2, x, hx, y, hy, rfl⟩
    · rintro ⟨p, hp, q, hq, h1, h2, x, hx, y, hy, rfl⟩
      exact ⟨p, hp, List.mem_flatMap.2 ⟨q, List.mem_filter.2 ⟨hq, by rw [Bool.and_eq_true, decide_eq_true_eq]; exact ⟨h1, h2⟩⟩, List.mem_flatMap.2 ⟨x, hx, List.mem_map.2 ⟨y, hy, rfl⟩⟩⟩⟩
theorem comK_symm (a b : KeyD) : comK a b = comK b a := by
  unfold comK
  rw [Bool.eq_iff_iff]
  simp only [Bool.or_eq_true, decide_eq_true_eq]
  constructor <;> rintro ((h | h) | (h | h)) <;> simp [h]
theorem crossB_symm (l : List ObjD) (a b : KeyD) : crossB l a b = crossB l b a := by unfold crossB; rw [meetsR_comm, comK_symm]
/-- The numbers of violations' Ids. -/
def idsK (k : KeyD) : List ByteArray := if k.1 = k.2 then [k.1] else [k.1, k.2]
/-- A segment that can be added. -/
def freeP (l : List ObjD) (s : Sg) : Bool := nearS s && (bordersP l).all fun p => decide (meetsR (segB l p.1) s = 0 ∨ meetsR (segB l p.1) s = 1 ∨ meetsR (segB l p.1) s = 4)
end Go.Proofs.YtbkomdinchiffaaGreat
