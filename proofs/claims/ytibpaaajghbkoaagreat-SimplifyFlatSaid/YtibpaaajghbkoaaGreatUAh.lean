/-      -/
import Derived.Test.YtibpaaajghbkoaaGreatUAe
import Derived.Test.YtibpaaajghbkoaaGreatUAf
import Derived.Test.YtibpaaajghbkoaaGreatUAg
namespace Go.Proofs.YtibpaaajghbkoaaGreat
open Go.RowKit
instance : ReflBEq ByteArray := ⟨(MapKept.bytes_beq _ _).2 rfl⟩
instance : LawfulBEq ByteArray := ⟨fun h => (MapKept.bytes_beq _ _).1 h⟩
abbrev KeyD := ByteArray × ByteArray
def minB (a b : ByteArray) : ByteArray := if ltB b a then b else a
def maxB (a b : ByteArray) : ByteArray := if ltB a b then b else a
def key2 (a b : ByteArray) : KeyD := (minB a b, maxB a b)
def ltK (p q : KeyD) : Bool := ltB p.1 q.1 || (decide (p.1 = q.1) && ltB p.2 q.2)
theorem ltB_asymm {a b : ByteArray} (h : ltB a b = true) : ltB b a = false := by
 cases h2 : ltB b a with
 |false => rfl
 |true => have := ltB_trans h h2; rw [ltB_irrefl] at this; cases this
theorem key2_comm (a b : ByteArray) : key2 a b = key2 b a := by
 unfold key2 minB maxB
 cases h : ltB a b with
 |true => rw [ltB_asymm h]; simp
 |false =>
  cases h2 : ltB b a with
  |true => simp
  |false => rw [ltB_total h h2]
theorem key2_or (a b : ByteArray) : key2 a b = (a, b) ∨ key2 a b = (b, a) := by
 unfold key2 minB maxB
 cases h : ltB a b with
 |true => rw [ltB_asymm h]; exact Or.inl rfl
 |false =>
  cases h2 : ltB b a with
  |true => exact Or.inr rfl
  |false => rw [ltB_total h h2]; exact Or.inl rfl
theorem key2_le (a b : ByteArray) : ltB (key2 a b).2 (key2 a b).1 = false := by
 unfold key2 minB maxB
 simp only
 cases h : ltB a b with
 |true => rw [ltB_asymm h]; simpa using ltB_asymm h
 |false =>
  cases h2 : ltB b a with
  |true => simpa using h
  |false => simpa using ltB_irrefl a
theorem key2_of_le {a b : ByteArray} (h : ltB b a = false) : key2 a b = (a, b) := by
 unfold key2 minB maxB
 rw [h]
 cases h2 : ltB a b with
 |true => rfl
 |false => rw [ltB_total h2 h]; rfl
theorem ltK_irrefl (p : KeyD) : ltK p p = false := by unfold ltK; simp [ltB_irrefl]
theorem ltK_trans {p q r : KeyD} (h : ltK p q = true) (h2 : ltK q r = true) : ltK p r = true := by
 unfold ltK at *
 simp only [Bool.or_eq_true, Bool.and_eq_true, decide_eq_true_eq] at *
 rcases h with h | ⟨h, h'⟩ <;> rcases h2 with h2 | ⟨h2, h2'⟩
 ·exact Or.inl (ltB_trans h h2)
 ·exact Or.inl (by rw [← h2]; exact h)
 ·exact Or.inl (by rw [h]; exact h2)
 ·exact Or.inr ⟨h.trans h2, ltB_trans h' h2'⟩
theorem ltK_total {p q : KeyD} (h : ltK p q = false) (h2 : ltK q p = false) : p = q := by
 unfold ltK at *
 simp only [Bool.or_eq_false_iff, Bool.and_eq_false_iff, decide_eq_false_iff_not] at *
 have e1 := ltB_total h.1 h2.1
 refine Prod.ext e1 (ltB_total ?_ ?_)
 ·rcases h.2 with h | h
  ·exact absurd e1 h
  ·exact h
 ·rcases h2.2 with h | h
  ·exact absurd e1.symm h
  ·exact h
theorem ltK_asymm {p q : KeyD} (h : ltK p q = true) : ltK q p = false := by
 cases h2 : ltK q p with
 |false => rfl
 |true => have := ltK_trans h h2; rw [ltK_irrefl] at this; cases this
def sideN (o : ObjD) : Nat := if o.kind = 2 then o.refs.length - 1 else o.refs.length
def refAt (o : ObjD) (i : Nat) : ByteArray := (o.refs[i]?).getD ⟨#[]⟩
def sideAt (o : ObjD) (i : Nat) : KeyD := key2 (refAt o i) (refAt o ((i + 1) % o.refs.length))
def sidesP (o : ObjD) : List KeyD := (List.range (sideN o)).map (sideAt o)
def isB (l : List ObjD) (o : ObjD) : Bool := decide (o.kind = 2 ∨ o.kind = 3) && soundB l o
def ownF (l objs : List ObjD) (k : KeyD) : List ByteArray := (objs.filter fun o => isB l o && decide (k ∈ sidesP o)).map (·.id)
def partF (l objs : List ObjD) (o : ObjD) (j : Nat) (k : KeyD) : List ByteArray := ownF l objs k ++ if k ∈ (sidesP o).take j then [o.id] else []
theorem partF_zero (l objs : List ObjD) (o : ObjD) (k : KeyD) : partF l objs o 0 k = ownF l objs k := by unfold partF; simp
theorem ownF_snoc (l objs : List ObjD) (o : ObjD) (k : KeyD) : ownF l (objs ++ [o]) k = if isB l o = true then partF l objs o (sideN o) k else ownF l objs k := by
 unfold ownF partF
 rw [List.filter_append, List.map_append]
 have hl : (sidesP o).take (sideN o) = sidesP o := List.take_of_length_le (by simp [sidesP])
 rw [hl]
 cases h : isB l o with
 |false => simp [h]
 |true =>
  by_cases hk : k ∈ sidesP o
  ·simp [h, hk, ownF]
  ·simp [h, hk, ownF]
def Owns (acc : List (KeyD × List ByteArray)) (f : KeyD → List ByteArray) : Prop := ∀ k, aget k acc = if f k = [] then none else some (f k)
theorem Owns.nil {f : KeyD → List ByteArray} (h : ∀ k, f k = []) : Owns [] f := fun k => by rw [h, if_pos rfl]; rfl
theorem Owns.getD {acc : List (KeyD × List ByteArray)} {f : KeyD → List ByteArray} (h : Owns acc f) (k : KeyD) : (aget k acc).getD [] = f k := by
 rw [h k]
 split
 ·rename_i e; rw [e]; rfl
 ·rfl
theorem Owns.congr {acc : List (KeyD × List ByteArray)} {f g : KeyD → List ByteArray} (h : Owns acc f) (e : ∀ k, f k = g k) : Owns acc g := fun k => by rw [h k, e k]
theorem ids_not {l : List ObjD} (h : mapOK l = true) {i : Nat} {o : ObjD} (ho : l[i]? = some o) (l' : List ObjD) (k : KeyD) : o.id ∉ ownF l' (l.take i) k := by
 intro hm
 unfold ownF at hm
 obtain ⟨x, hx, e⟩ := List.mem_map.1 hm
 obtain ⟨j, hj⟩ := List.getElem?_of_mem (List.mem_filter.1 hx).1
 rw [List.getElem?_take] at hj
 split at hj
 ·rename_i hji
  have := (mapOK_sorted h).2 j i x o hji hj ho
  rw [e, ltB_irrefl] at this; cases this
 ·cases hj
theorem sides_get {o : ObjD} {j : Nat} (hj : j < sideN o) : (sidesP o)[j]? = some (sideAt o j) := by
 unfold sidesP
 rw [List.getElem?_map, List.getElem?_range hj]; rfl
theorem partF_succ {l objs : List ObjD} {o : ObjD} {j : Nat} (hj : j < sideN o) (hno : ∀ k, o.id ∉ ownF l objs k) (k : KeyD) :
  partF l objs o (j + 1) k = if k = sideAt o j ∧ o.id ∉ partF l objs o j (sideAt o j) then partF l objs o j k ++ [o.id] else partF l objs o j k := by
 unfold partF
 obtain ⟨hl, hs⟩ := List.getElem?_eq_some_iff.1 (sides_get hj)
 rw [List.take_succ_eq_append_getElem hl, hs]
 have hno' := hno (sideAt o j)
 by_cases hk : k = sideAt o j
 ·subst hk
  by_cases hm : sideAt o j ∈ (sidesP o).take j
  ·simp [hm]
  ·simp [hm, hno']
 ·by_cases hm : k ∈ (sidesP o).take j
  ·simp [hk, hm]
  ·simp [hk, hm]
def addOwn (acc : List (KeyD × List ByteArray)) (k : KeyD) (id : ByteArray) : List (KeyD × List ByteArray) :=
 if id ∈ (aget k acc).getD [] then acc else aput k ((aget k acc).getD [] ++ [id]) acc
theorem Owns.add {acc : List (KeyD × List ByteArray)} {f g : KeyD → List ByteArray} (h : Owns acc f) (k : KeyD) (id : ByteArray) (hg : ∀ k', g k' = if k' = k ∧ id ∉ f k then f k' ++ [id] else f k') : Owns (addOwn acc k id) g := by
 unfold addOwn
 rw [h.getD k]
 intro k'
 by_cases hm : id ∈ f k
 ·have e : g k' = f k' := by rw [hg, if_neg (fun c => c.2 hm)]
  rw [if_pos hm, h k', e]
 ·rw [if_neg hm]
  by_cases hk : k' = k
  ·subst hk
   have e : g k' = f k' ++ [id] := by rw [hg, if_pos ⟨rfl, hm⟩]
   rw [aget_put_same, e, if_neg (by simp)]
  ·have e : g k' = f k' := by rw [hg, if_neg (fun c => hk c.1)]
   rw [aget_put_other _ (fun e => hk e.symm), h k', e]
def SortedK {ν : Type} (l : List (KeyD × ν)) : Prop := l.Pairwise fun p q => ltK p.1 q.1 = true
theorem SortedK.nodup {ν : Type} {l : List (KeyD × ν)} (h : SortedK l) : (l.map (·.1)).Nodup := by
 unfold SortedK at h
 exact List.pairwise_map.2 (h.imp fun {a b} hab e => by rw [e, ltK_irrefl] at hab; cases hab)
def insK (k : KeyD) : List KeyD → List KeyD
 |[] => [k]
 |x :: l => if ltK x k then x :: insK k l else if x = k then x :: l else k :: x :: l
def setK (ks : List KeyD) : List KeyD := ks.foldl (fun acc k => insK k acc) []
def SortK (l : List KeyD) : Prop := l.Pairwise fun p q => ltK p q = true
theorem mem_insK (k : KeyD) : ∀ (l : List KeyD) (x : KeyD), x ∈ insK k l ↔ x = k ∨ x ∈ l
 |[], x => by simp [insK]
 |q :: l, x => by
  rw [insK]
  split
  ·rw [List.mem_cons, mem_insK k l x, List.mem_cons]
   constructor
   ·rintro (h | h | h)
    ·exact Or.inr (Or.inl h)
    ·exact Or.inl h
    ·exact Or.inr (Or.inr h)
   ·rintro (h | h | h)
    ·exact Or.inr (Or.inl h)
    ·exact Or.inl h
    ·exact Or.inr (Or.inr h)
  ·split
   ·rename_i e; subst e
    rw [List.mem_cons]
    constructor
    ·exact fun h => Or.inr h
    ·rintro (h | h)
     ·exact Or.inl h
     ·exact h
   ·rw [List.mem_cons]
theorem insK_sorted (k : KeyD) : ∀ {l : List KeyD}, SortK l → SortK (insK k l)
 |[], _ => List.pairwise_singleton ..
 |q :: l, h => by
  have h' := List.pairwise_cons.1 h
  rw [insK]
  split
  ·rename_i hlt
   refine List.pairwise_cons.2 ⟨fun p hp => ?_, insK_sorted k h'.2⟩
   rcases (mem_insK k l p).1 hp with e | hp
   ·rw [e]; exact hlt
   ·exact h'.1 p hp
  ·rename_i hlt
   split
   ·exact h
   ·rename_i e
    have hkq : ltK k q = true := by
     cases hc : ltK k q with
     |true => rfl
     |false => exact absurd (ltK_total (by simpa using hlt) hc) e
    refine List.pairwise_cons.2 ⟨fun p hp => ?_, h⟩
    rcases List.mem_cons.1 hp with rfl | hp
    ·exact hkq
    ·exact ltK_trans hkq (h'.1 p hp)
theorem fold_insK : ∀ (ks acc : List KeyD), SortK acc → SortK (ks.foldl (fun acc k => insK k acc) acc) ∧ ∀ x, x ∈ ks.foldl (fun acc k => insK k acc) acc ↔ x ∈ acc ∨ x ∈ ks
 |[], acc, h => ⟨h, fun x => by simp⟩
 |k :: ks, acc, h => by
  rw [List.foldl_cons]
  obtain ⟨h1, h2⟩ := fold_insK ks (insK k acc) (insK_sorted k h)
  refine ⟨h1, fun x => ?_⟩
  rw [h2, mem_insK, List.mem_cons]
  constructor
  ·rintro ((h | h) | h)
   ·exact Or.inr (Or.inl h)
   ·exact Or.inl h
   ·exact Or.inr (Or.inr h)
  ·rintro (h | h | h)
   ·exact Or.inl (Or.inr h)
   ·exact Or.inl (Or.inl h)
   ·exact Or.inr h
theorem setK_sorted (ks : List KeyD) : SortK (setK ks) := (fold_insK ks [] List.Pairwise.nil).1
theorem mem_setK {ks : List KeyD} {x : KeyD} : x ∈ setK ks ↔ x ∈ ks := by
 unfold setK
 rw [(fold_insK ks [] List.Pairwise.nil).2]; simp
theorem sorted_ext {α : Type} {lt : α → α → Bool} (hi : ∀ x, lt x x = false) (hasym : ∀ x y, lt x y = true → lt y x = false) : ∀ {a b : List α}, a.Pairwise (fun p q => lt p q = true) → b.Pairwise (fun p q => lt p q = true) → (∀ x, x ∈ a ↔ x ∈ b) → a = b
 |[], [], _, _, _ => rfl
 |[], y :: b, _, _, h => absurd ((h y).2 (List.mem_cons_self ..)) (by simp)
 |x :: a, [], _, _, h => absurd ((h x).1 (List.mem_cons_self ..)) (by simp)
 |x :: a, y :: b, ha, hb, h => by
  have ha' := List.pairwise_cons.1 ha
  have hb' := List.pairwise_cons.1 hb
  have e : x = y := by
   rcases List.mem_cons.1 ((h x).1 (List.mem_cons_self ..)) with e | h1
   ·exact e
   ·rcases List.mem_cons.1 ((h y).2 (List.mem_cons_self ..)) with e | h2
    ·exact e.symm
    ·have c1 := ha'.1 y h2
     have c2 := hb'.1 x h1
     rw [hasym x y c1] at c2; cases c2
  subst e
  rw [sorted_ext hi hasym ha'.2 hb'.2 fun z => ?_]
  have hz := h z
  rw [List.mem_cons, List.mem_cons] at hz
  constructor
  ·intro h1
   rcases hz.1 (Or.inr h1) with e | h2
   ·subst e; have := ha'.1 z h1; rw [hi] at this; cases this
   ·exact h2
  ·intro h1
   rcases hz.2 (Or.inr h1) with e | h2
   ·subst e; have := hb'.1 z h1; rw [hi] at this; cases this
   ·exact h2
theorem sortK_ext {a b : List KeyD} (ha : SortK a) (hb : SortK b) (h : ∀ x, x ∈ a ↔ x ∈ b) : a = b := sorted_ext ltK_irrefl (fun _ _ => ltK_asymm) ha hb h
def keysP (l : List ObjD) : List KeyD := setK ((l.filter (isB l)).flatMap sidesP)
def bordersP (l : List ObjD) : List (KeyD × List ByteArray) := (keysP l).map fun k => (k, ownF l l k)
theorem keysP_mem {l : List ObjD} {k : KeyD} : k ∈ keysP l ↔ ∃ o ∈ l, isB l o = true ∧ k ∈ sidesP o := by
 unfold keysP
 rw [mem_setK, List.mem_flatMap]
 constructor
 ·rintro ⟨o, ho, hk⟩
  rw [List.mem_filter] at ho
  exact ⟨o, ho.1, ho.2, hk⟩
 ·rintro ⟨o, ho, hb, hk⟩
  exact ⟨o, List.mem_filter.2 ⟨ho, hb⟩, hk⟩
theorem ownF_mem {l objs : List ObjD} {k : KeyD} {id : ByteArray} : id ∈ ownF l objs k ↔ ∃ o ∈ objs, isB l o = true ∧ k ∈ sidesP o ∧ o.id = id := by
 unfold ownF
 rw [List.mem_map]
 constructor
 ·rintro ⟨o, ho, e⟩
  rw [List.mem_filter, Bool.and_eq_true, decide_eq_true_eq] at ho
  exact ⟨o, ho.1, ho.2.1, ho.2.2, e⟩
 ·rintro ⟨o, ho, hb, hk, e⟩
  exact ⟨o, List.mem_filter.2 ⟨ho, by rw [Bool.and_eq_true, decide_eq_true_eq]; exact ⟨hb, hk⟩⟩, e⟩
theorem ownF_nil {l : List ObjD} {k : KeyD} : ownF l l k = [] ↔ k ∉ keysP l := by
 rw [keysP_mem]
 constructor
 ·rintro h ⟨o, ho, hb, hk⟩
  have : o.id ∈ ownF l l k := ownF_mem.2 ⟨o, ho, hb, hk, rfl⟩
  rw [h] at this; cases this
 ·intro h
  refine List.eq_nil_iff_forall_not_mem.2 fun id hid => ?_
  obtain ⟨o, ho, hb, hk, _⟩ := ownF_mem.1 hid
  exact h ⟨o, ho, hb, hk⟩
theorem borders_mem {l : List ObjD} {p : KeyD × List ByteArray} : p ∈ bordersP l ↔ p.1 ∈ keysP l ∧ p.2 = ownF l l p.1 := by
 unfold bordersP
 rw [List.mem_map]
 constructor
 ·rintro ⟨k, hk, rfl⟩; exact ⟨hk, rfl⟩
 ·rintro ⟨h1, h2⟩; exact ⟨p.1, h1, Prod.ext rfl h2.symm⟩
def ptO (l : List ObjD) (id : ByteArray) : Pt := (nodeAt l id).getD (0, 0)
def segB (l : List ObjD) (k : KeyD) : Sg := (ptO l k.1, ptO l k.2)
def comK (a b : KeyD) : Bool := decide (a.1 = b.1 ∨ a.1 = b.2) || decide (a.2 = b.1 ∨ a.2 = b.2)
def crossB (l : List ObjD) (a b : KeyD) : Bool := decide (meetsR (segB l a) (segB l b) ≠ 0) && !(decide (meetsR (segB l a) (segB l b) = 1) && comK a b)
def nodesP (l : List ObjD) : List ByteArray := (bordersP l).flatMap fun p => [p.1.1, p.1.2]
def badP (l : List ObjD) : List KeyD :=
 ((nodesP l).flatMap fun a => ((nodesP l).filter fun b => decide (a ≠ b) && decide (ptO l a = ptO l b)).map (key2 a)) ++
 ((bordersP l).flatMap fun p => ((bordersP l).filter fun q => decide (p.1 ≠ q.1) && crossB l p.1 q.1).flatMap fun q => p.2.flatMap fun x => q.2.map (key2 x))
def checkP (l : List ObjD) : List KeyD := setK (badP l)
theorem bad_mem {l : List ObjD} {k : KeyD} : k ∈ badP l ↔
  (∃ a ∈ nodesP l, ∃ b ∈ nodesP l, a ≠ b ∧ ptO l a = ptO l b ∧ k = key2 a b) ∨
  (∃ p ∈ bordersP l, ∃ q ∈ bordersP l, p.1 ≠ q.1 ∧ crossB l p.1 q.1 = true ∧ ∃ x ∈ p.2, ∃ y ∈ q.2, k = key2 x y) := by
 unfold badP
 rw [List.mem_append]
 refine or_congr ?_ ?_
 ·rw [List.mem_flatMap]
  constructor
  ·rintro ⟨a, ha, h⟩
   obtain ⟨b, hb, rfl⟩ := List.mem_map.1 h
   rw [List.mem_filter, Bool.and_eq_true, decide_eq_true_eq, decide_eq_true_eq] at hb
   exact ⟨a, ha, b, hb.1, hb.2.1, hb.2.2, rfl⟩
  ·rintro ⟨a, ha, b, hb, h1, h2, rfl⟩
   exact ⟨a, ha, List.mem_map.2 ⟨b, List.mem_filter.2 ⟨hb, by rw [Bool.and_eq_true, decide_eq_true_eq, decide_eq_true_eq]; exact ⟨h1, h2⟩⟩, rfl⟩⟩
 ·rw [List.mem_flatMap]
  constructor
  ·rintro ⟨p, hp, h⟩
   obtain ⟨q, hq, h⟩ := List.mem_flatMap.1 h
   rw [List.mem_filter, Bool.and_eq_true, decide_eq_true_eq] at hq
   obtain ⟨x, hx, h⟩ := List.mem_flatMap.1 h
   obtain ⟨y, hy, rfl⟩ := List.mem_map.1 h
   exact ⟨p, hp, q, hq.1, hq.2.1, hq.2.2, x, hx, y, hy, rfl⟩
  ·rintro ⟨p, hp, q, hq, h1, h2, x, hx, y, hy, rfl⟩
   exact ⟨p, hp, List.mem_flatMap.2 ⟨q, List.mem_filter.2 ⟨hq, by rw [Bool.and_eq_true, decide_eq_true_eq]; exact ⟨h1, h2⟩⟩, List.mem_flatMap.2 ⟨x, hx, List.mem_map.2 ⟨y, hy, rfl⟩⟩⟩⟩
theorem comK_symm (a b : KeyD) : comK a b = comK b a := by
 unfold comK
 rw [Bool.eq_iff_iff]
 simp only [Bool.or_eq_true, decide_eq_true_eq]
 constructor <;> rintro ((h | h) | (h | h)) <;> simp [h]
theorem crossB_symm (l : List ObjD) (a b : KeyD) : crossB l a b = crossB l b a := by unfold crossB; rw [meetsR_comm, comK_symm]
def idsK (k : KeyD) : List ByteArray := if k.1 = k.2 then [k.1] else [k.1, k.2]
end Go.Proofs.YtibpaaajghbkoaaGreat

namespace Go.Proofs.YtibpaaajghbkoaaGreat
theorem nodeAt_iff {l : List ObjD} (h : mapOK l = true) {r : ByteArray} {q : Int × Int} : nodeAt l r = some q ↔ ∃ o ∈ l, o.id = r ∧ o.kind = 1 ∧ q = (o.x, o.y) := by
 constructor
 ·intro hn
  cases hp : posO r l with
  |none => rw [nodeAt_none l r hp] at hn; cases hn
  |some k =>
   obtain ⟨o, ho, e⟩ := posO_some r l k hp
   rw [nodeAt_some l r k hp o ho] at hn
   split at hn
   ·rename_i hk
    exact ⟨o, List.mem_of_getElem? ho, e, hk, (Option.some.inj hn).symm⟩
   ·cases hn
 ·rintro ⟨o, ho, rfl, hk, rfl⟩
  obtain ⟨k, hk'⟩ := List.getElem?_of_mem ho
  rw [nodeAt_some l o.id k (pos_self h hk') o hk', if_pos hk]
def SameT (a b : ObjD) : Prop := a.id = b.id ∧ a.kind = b.kind ∧ a.x = b.x ∧ a.y = b.y ∧ a.refs = b.refs
theorem SameT.refl (a : ObjD) : SameT a a := ⟨rfl, rfl, rfl, rfl, rfl⟩
theorem SameT.symm {a b : ObjD} (h : SameT a b) : SameT b a := ⟨h.1.symm, h.2.1.symm, h.2.2.1.symm, h.2.2.2.1.symm, h.2.2.2.2.symm⟩
theorem SameT.sides {a b : ObjD} (h : SameT a b) : sidesP a = sidesP b := by
 unfold sidesP sideN sideAt refAt
 rw [h.2.1, h.2.2.2.2]
structure SubM (l l' : List ObjD) : Prop where
 ok : mapOK l = true
 ok' : mapOK l' = true
 fwd : ∀ o ∈ l, ∃ o' ∈ l', SameT o o'
 nod : ∀ o ∈ l, o.kind = 2 ∨ o.kind = 3 → ∀ r ∈ o.refs, nodeAt l r = nodeAt l' r
theorem SubM.isB {l l' : List ObjD} (h : SubM l l') {o o' : ObjD} (ho : o ∈ l) (hs : SameT o o') : isB l o = isB l' o' := by
 unfold Proofs.YtibpaaajghbkoaaGreat.isB
 rw [hs.2.1]
 by_cases hk : o'.kind = 2 ∨ o'.kind = 3
 ·rw [decide_eq_true hk, Bool.true_and, Bool.true_and]
  unfold soundB
  rw [← hs.2.2.2.2]
  have hk' : o.kind = 2 ∨ o.kind = 3 := by rw [hs.2.1]; exact hk
  rw [Bool.eq_iff_iff, List.all_eq_true, List.all_eq_true]
  constructor
  ·intro h2 r hr; rw [← h.nod o ho hk' r hr]; exact h2 r hr
  ·intro h2 r hr; rw [h.nod o ho hk' r hr]; exact h2 r hr
 ·rw [decide_eq_false hk, Bool.false_and, Bool.false_and]
theorem isB_kind {l : List ObjD} {o : ObjD} (h : isB l o = true) : o.kind = 2 ∨ o.kind = 3 := by
 unfold isB at h
 rw [Bool.and_eq_true, decide_eq_true_eq] at h
 exact h.1
theorem refAt_mem {o : ObjD} {i : Nat} (h : i < o.refs.length) : refAt o i ∈ o.refs := by
 unfold refAt
 rw [List.getElem?_eq_getElem h]
 exact List.getElem_mem h
theorem key2_cases {a b x : ByteArray} : x = (key2 a b).1 ∨ x = (key2 a b).2 ↔ x = a ∨ x = b := by
 rcases key2_or a b with e | e <;> rw [e]
 exact or_comm
theorem sides_refs {o : ObjD} {k : KeyD} (h : k ∈ sidesP o) {x : ByteArray} (hx : x = k.1 ∨ x = k.2) : x ∈ o.refs := by
 unfold sidesP at h
 obtain ⟨i, hi, rfl⟩ := List.mem_map.1 h
 rw [List.mem_range] at hi
 have hlt : i < o.refs.length := by unfold sideN at hi; split at hi <;> omega
 unfold sideAt at hx
 rcases key2_cases.1 hx with rfl | rfl
 ·exact refAt_mem hlt
 ·exact refAt_mem (Nat.mod_lt _ (by omega))
theorem SubM.keys {l l' : List ObjD} (h : SubM l l') {k : KeyD} (hk : k ∈ keysP l) : k ∈ keysP l' := by
 obtain ⟨o, ho, hb, hs⟩ := keysP_mem.1 hk
 obtain ⟨o', ho', hst⟩ := h.fwd o ho
 exact keysP_mem.2 ⟨o', ho', by rw [← h.isB ho hst]; exact hb, by rw [← hst.sides]; exact hs⟩
theorem SubM.own {l l' : List ObjD} (h : SubM l l') {k : KeyD} {id : ByteArray} (hk : id ∈ ownF l l k) : id ∈ ownF l' l' k := by
 obtain ⟨o, ho, hb, hs, e⟩ := ownF_mem.1 hk
 obtain ⟨o', ho', hst⟩ := h.fwd o ho
 exact ownF_mem.2 ⟨o', ho', by rw [← h.isB ho hst]; exact hb, by rw [← hst.sides]; exact hs, by rw [← hst.1]; exact e⟩
theorem SubM.pt {l l' : List ObjD} (h : SubM l l') {k : KeyD} (hk : k ∈ keysP l) {x : ByteArray} (hx : x = k.1 ∨ x = k.2) : ptO l x = ptO l' x := by
 obtain ⟨o, ho, hb, hs⟩ := keysP_mem.1 hk
 unfold ptO
 rw [h.nod o ho (isB_kind hb) x (sides_refs hs hx)]
theorem nodes_mem {l : List ObjD} {x : ByteArray} : x ∈ nodesP l ↔ ∃ k ∈ keysP l, x = k.1 ∨ x = k.2 := by
 unfold nodesP
 rw [List.mem_flatMap]
 constructor
 ·rintro ⟨p, hp, hx⟩
  exact ⟨p.1, (borders_mem.1 hp).1, by simpa using hx⟩
 ·rintro ⟨k, hk, hx⟩
  exact ⟨(k, ownF l l k), borders_mem.2 ⟨hk, rfl⟩, by simpa using hx⟩
theorem SubM.nodes {l l' : List ObjD} (h : SubM l l') {x : ByteArray} (hx : x ∈ nodesP l) : x ∈ nodesP l' ∧ ptO l x = ptO l' x := by
 obtain ⟨k, hk, hx⟩ := nodes_mem.1 hx
 exact ⟨nodes_mem.2 ⟨k, h.keys hk, hx⟩, h.pt hk hx⟩
theorem SubM.seg {l l' : List ObjD} (h : SubM l l') {k : KeyD} (hk : k ∈ keysP l) : segB l k = segB l' k := by
 unfold segB
 rw [h.pt hk (Or.inl rfl), h.pt hk (Or.inr rfl)]
theorem SubM.bad {l l' : List ObjD} (h : SubM l l') {k : KeyD} (hk : k ∈ badP l) : k ∈ badP l' := by
 rw [bad_mem] at hk ⊢
 rcases hk with ⟨a, ha, b, hb, hne, hpt, e⟩ | ⟨p, hp, q, hq, hne, hc, x, hx, y, hy, e⟩
 ·obtain ⟨ha1, ha2⟩ := h.nodes ha
  obtain ⟨hb1, hb2⟩ := h.nodes hb
  exact Or.inl ⟨a, ha1, b, hb1, hne, by rw [← ha2, ← hb2]; exact hpt, e⟩
 ·obtain ⟨hp1, hp2⟩ := borders_mem.1 hp
  obtain ⟨hq1, hq2⟩ := borders_mem.1 hq
  rw [hp2] at hx
  rw [hq2] at hy
  refine Or.inr ⟨(p.1, ownF l' l' p.1), borders_mem.2 ⟨h.keys hp1, rfl⟩, (q.1, ownF l' l' q.1), borders_mem.2 ⟨h.keys hq1, rfl⟩, hne, ?_, x, h.own hx, y, h.own hy, e⟩
  unfold crossB at hc ⊢
  rw [← h.seg hp1, ← h.seg hq1]
  exact hc
theorem checkP_mem {l : List ObjD} {k : KeyD} : k ∈ checkP l ↔ k ∈ badP l := mem_setK
theorem checkP_sort (l : List ObjD) : SortK (checkP l) := setK_sorted _
theorem SortK.nodup {l : List KeyD} (h : SortK l) : l.Nodup := h.imp fun {a b} hab e => by rw [e, ltK_irrefl] at hab; cases hab
theorem own_sorted {l : List ObjD} (h : mapOK l = true) (l' : List ObjD) (k : KeyD) : (ownF l' l k).Pairwise fun a b => ltB a b = true := by
 unfold ownF
 rw [List.pairwise_map]
 refine List.Pairwise.sublist List.filter_sublist ?_
 rw [List.pairwise_iff_getElem]
 intro i j hi hj hij
 exact (mapOK_sorted h).2 i j _ _ hij (List.getElem?_eq_getElem hi) (List.getElem?_eq_getElem hj)
structure LikeM (l l' : List ObjD) : Prop where
 to : SubM l l'
 back : ∀ o' ∈ l', isB l' o' = true → ∃ o ∈ l, SameT o o'
theorem LikeM.keys {l l' : List ObjD} (h : LikeM l l') : keysP l = keysP l' := by
 refine sortK_ext (setK_sorted _) (setK_sorted _) fun k => ⟨fun hk => h.to.keys hk, fun hk => ?_⟩
 obtain ⟨o', ho', hb, hs⟩ := keysP_mem.1 hk
 obtain ⟨o, ho, hst⟩ := h.back o' ho' hb
 exact keysP_mem.2 ⟨o, ho, by rw [h.to.isB ho hst]; exact hb, by rw [hst.sides]; exact hs⟩
theorem LikeM.own {l l' : List ObjD} (h : LikeM l l') (k : KeyD) : ownF l l k = ownF l' l' k := by
 refine sorted_ext ltB_irrefl (fun _ _ => ltB_asymm) (own_sorted h.to.ok l k) (own_sorted h.to.ok' l' k) fun id => ⟨fun hk => h.to.own hk, fun hk => ?_⟩
 obtain ⟨o', ho', hb, hs, e⟩ := ownF_mem.1 hk
 obtain ⟨o, ho, hst⟩ := h.back o' ho' hb
 exact ownF_mem.2 ⟨o, ho, by rw [h.to.isB ho hst]; exact hb, by rw [hst.sides]; exact hs, by rw [hst.1]; exact e⟩
theorem LikeM.borders {l l' : List ObjD} (h : LikeM l l') : bordersP l = bordersP l' := by
 unfold bordersP
 rw [h.keys]
 exact List.map_congr_left fun k _ => by rw [h.own k]
theorem LikeM.check {l l' : List ObjD} (h : LikeM l l') : checkP l = checkP l' := by
 refine sortK_ext (checkP_sort l) (checkP_sort l') fun k => ?_
 rw [checkP_mem, checkP_mem]
 refine ⟨fun hk => h.to.bad hk, fun hk => ?_⟩
 have hpt : ∀ x ∈ nodesP l', x ∈ nodesP l ∧ ptO l x = ptO l' x := fun x hx => by
  have hx' : x ∈ nodesP l := by
   obtain ⟨k, hk, hx⟩ := nodes_mem.1 hx
   exact nodes_mem.2 ⟨k, by rw [h.keys]; exact hk, hx⟩
  exact ⟨hx', (h.to.nodes hx').2⟩
 rw [bad_mem] at hk ⊢
 rcases hk with ⟨a, ha, b, hb, hne, he, e⟩ | ⟨p, hp, q, hq, hne, hc, x, hx, y, hy, e⟩
 ·exact Or.inl ⟨a, (hpt a ha).1, b, (hpt b hb).1, hne, by rw [(hpt a ha).2, (hpt b hb).2]; exact he, e⟩
 ·refine Or.inr ⟨p, by rw [h.borders]; exact hp, q, by rw [h.borders]; exact hq, hne, ?_, x, hx, y, hy, e⟩
  unfold crossB at hc ⊢
  rw [h.to.seg (by rw [h.keys]; exact (borders_mem.1 hp).1), h.to.seg (by rw [h.keys]; exact (borders_mem.1 hq).1)]
  exact hc
theorem keys_own {l : List ObjD} {k : KeyD} (hk : k ∈ keysP l) : ∃ x, x ∈ ownF l l k := by
 obtain ⟨o, ho, hb, hs⟩ := keysP_mem.1 hk
 exact ⟨o.id, ownF_mem.2 ⟨o, ho, hb, hs, rfl⟩⟩
theorem SubM.none {l l' : List ObjD} (h : SubM l l') (hk : ∀ k ∈ keysP l', k ∈ keysP l) (h0 : checkP l = []) : checkP l' = [] := by
 have h0' : ∀ k, k ∉ badP l := fun k hk => by have := checkP_mem.2 hk; rw [h0] at this; cases this
 refine List.eq_nil_iff_forall_not_mem.2 fun k hkc => ?_
 rw [checkP_mem, bad_mem] at hkc
 have hpt : ∀ x ∈ nodesP l', x ∈ nodesP l ∧ ptO l x = ptO l' x := fun x hx => by
  have hx' : x ∈ nodesP l := by
   obtain ⟨k, hk', hx⟩ := nodes_mem.1 hx
   exact nodes_mem.2 ⟨k, hk k hk', hx⟩
  exact ⟨hx', (h.nodes hx').2⟩
 rcases hkc with ⟨a, ha, b, hb, hne, he, e⟩ | ⟨p, hp, q, hq, hne, hc, x, hx, y, hy, e⟩
 ·exact h0' k (bad_mem.2 (Or.inl ⟨a, (hpt a ha).1, b, (hpt b hb).1, hne, by rw [(hpt a ha).2, (hpt b hb).2]; exact he, e⟩))
 ·have kp := hk _ (borders_mem.1 hp).1
  have kq := hk _ (borders_mem.1 hq).1
  obtain ⟨x', hx'⟩ := keys_own kp
  obtain ⟨y', hy'⟩ := keys_own kq
  refine h0' (key2 x' y') (bad_mem.2 (Or.inr ⟨(p.1, ownF l l p.1), borders_mem.2 ⟨kp, rfl⟩, (q.1, ownF l l q.1), borders_mem.2 ⟨kq, rfl⟩, hne, ?_, x', hx', y', hy', rfl⟩))
  unfold crossB at hc ⊢
  rw [h.seg kp, h.seg kq]
  exact hc
end Go.Proofs.YtibpaaajghbkoaaGreat

namespace Go.Proofs.YtibpaaajghbkoaaGreat
theorem objsFrom_weak {a b : ByteArray} (hab : ltB a b = true) : ∀ {l : List ObjD}, objsFrom b l = true → objsFrom a l = true
 |[], _ => rfl
 |o :: l, h => by
  simp only [objsFrom, Bool.and_eq_true] at h ⊢
  exact ⟨⟨h.1.1, ltB_trans hab h.1.2⟩, h.2⟩
def pickF (f : Nat → ObjD → Option ObjD) : Nat → List ObjD → List ObjD
 |_, [] => []
 |i, o :: l => (match f i o with | some o' => [o'] | none => []) ++ pickF f (i + 1) l
theorem pickF_len (f : Nat → ObjD → Option ObjD) : ∀ (l : List ObjD) (j : Nat), (pickF f j l).length ≤ l.length
 |[], j => Nat.le_refl _
 |o :: l, j => by
  have := pickF_len f l (j + 1)
  rw [pickF, List.length_append, List.length_cons]
  split <;> simp <;> omega
theorem pickF_from (f : Nat → ObjD → Option ObjD) (hf : ∀ i o o', f i o = some o' → o'.id = o.id ∧ (objOK o = true → objOK o' = true)) : ∀ (l : List ObjD) (j : Nat) (last : ByteArray), objsFrom last l = true → objsFrom last (pickF f j l) = true
 |[], _, _, _ => rfl
 |o :: l, j, last, h => by
  simp only [objsFrom, Bool.and_eq_true] at h
  have ih := pickF_from f hf l (j + 1) o.id h.2
  rw [pickF]
  cases hfo : f j o with
  |none => exact objsFrom_weak h.1.2 ih
  |some o' =>
   obtain ⟨h1, h2⟩ := hf j o o' hfo
   simp only [List.cons_append, List.nil_append, objsFrom, Bool.and_eq_true]
   rw [h1]
   exact ⟨⟨h2 h.1.1, h.1.2⟩, ih⟩
theorem pickF_ok (f : Nat → ObjD → Option ObjD) (hf : ∀ i o o', f i o = some o' → o'.id = o.id ∧ (objOK o = true → objOK o' = true)) {l : List ObjD} (h : mapOK l = true) : mapOK (pickF f 0 l) = true := by
 simp only [mapOK, Bool.and_eq_true, decide_eq_true_eq] at h ⊢
 exact ⟨Nat.le_trans (pickF_len f l 0) h.1, pickF_from f hf l 0 _ h.2⟩
def MoreM (l l' : List ObjD) (o : ObjD) : Prop := mapOK l = true ∧ mapOK l' = true ∧ (∀ x, x ∈ l' ↔ x = o ∨ x ∈ l) ∧ (∀ x ∈ l, o.id ∉ x.refs) ∧ o.id ∉ o.refs
theorem MoreM.node {l l' : List ObjD} {o : ObjD} (h : MoreM l l' o) {r : ByteArray} (hr : r ≠ o.id) : nodeAt l r = nodeAt l' r := by
 obtain ⟨h1, h2, h3, h4, h5⟩ := h
 refine Option.ext fun q => ?_
 rw [nodeAt_iff h1, nodeAt_iff h2]
 constructor
 ·rintro ⟨x, hx, h⟩; exact ⟨x, (h3 x).2 (Or.inr hx), h⟩
 ·rintro ⟨x, hx, h⟩
  rcases (h3 x).1 hx with rfl | hx
  ·exact absurd h.1.symm hr
  ·exact ⟨x, hx, h⟩
theorem MoreM.isb {l l' : List ObjD} {o x : ObjD} (h : MoreM l l' o) (hx : o.id ∉ x.refs) : isB l' x = isB l x := by
 unfold isB soundB
 congr 1
 rw [Bool.eq_iff_iff, List.all_eq_true, List.all_eq_true]
 constructor <;> intro h2 r hr
 ·rw [h.node fun e => hx (e ▸ hr)]; exact h2 r hr
 ·rw [← h.node fun e => hx (e ▸ hr)]; exact h2 r hr
theorem MoreM.keys {l l' : List ObjD} {o : ObjD} (h : MoreM l l' o) {k : KeyD} : k ∈ keysP l' ↔ k ∈ keysP l ∨ (isB l o = true ∧ k ∈ sidesP o) := by
 rw [keysP_mem, keysP_mem]
 constructor
 ·rintro ⟨x, hx, hb, hs⟩
  rcases (h.2.2.1 x).1 hx with rfl | hx
  ·exact Or.inr ⟨by rw [← h.isb h.2.2.2.2]; exact hb, hs⟩
  ·exact Or.inl ⟨x, hx, by rw [← h.isb (h.2.2.2.1 x hx)]; exact hb, hs⟩
 ·rintro (⟨x, hx, hb, hs⟩ | ⟨hb, hs⟩)
  ·exact ⟨x, (h.2.2.1 x).2 (Or.inr hx), by rw [h.isb (h.2.2.2.1 x hx)]; exact hb, hs⟩
  ·exact ⟨o, (h.2.2.1 o).2 (Or.inl rfl), by rw [h.isb h.2.2.2.2]; exact hb, hs⟩
theorem MoreM.own {l l' : List ObjD} {o : ObjD} (h : MoreM l l' o) (hno : ∀ x ∈ l, x.id ≠ o.id) {k : KeyD} : o.id ∈ ownF l' l' k ↔ isB l o = true ∧ k ∈ sidesP o := by
 rw [ownF_mem]
 constructor
 ·rintro ⟨x, hx, hb, hs, e⟩
  rcases (h.2.2.1 x).1 hx with rfl | hx
  ·exact ⟨by rw [← h.isb h.2.2.2.2]; exact hb, hs⟩
  ·exact absurd e (hno x hx)
 ·rintro ⟨hb, hs⟩
  exact ⟨o, (h.2.2.1 o).2 (Or.inl rfl), by rw [h.isb h.2.2.2.2]; exact hb, hs, rfl⟩
end Go.Proofs.YtibpaaajghbkoaaGreat

namespace Go.Proofs.YtibpaaajghbkoaaGreat
theorem meetsR_swap2 (s t : Sg) : meetsR s (t.2, t.1) = meetsR s t := by rw [← meetsR_comm s, meetsR_swap, meetsR_comm]
theorem pt_near {l : List ObjD} (h : mapOK l = true) (x : ByteArray) : nearQ (ptO l x) = true := by
 unfold ptO
 cases hn : nodeAt l x with
 |none => rfl
 |some q =>
  obtain ⟨o, ho, _, hk, rfl⟩ := (nodeAt_iff h).1 hn
  have h := map_obj h ho
  simp only [objOK, Bool.and_eq_true] at h
  have h2 := h.2
  rw [if_pos hk, Bool.and_eq_true] at h2
  have h3 := h2.2
  unfold onB at h3
  rw [decide_eq_true_eq] at h3
  unfold nearQ
  rw [Option.getD_some, decide_eq_true_eq]
  omega
theorem none_nodes {l : List ObjD} (h0 : checkP l = []) {a b : ByteArray} (ha : a ∈ nodesP l) (hb : b ∈ nodesP l) (he : ptO l a = ptO l b) : a = b := by
 by_cases hne : a = b
 ·exact hne
 ·have : key2 a b ∈ checkP l := checkP_mem.2 (bad_mem.2 (Or.inl ⟨a, ha, b, hb, hne, he, rfl⟩))
  rw [h0] at this; cases this
theorem none_cross {l : List ObjD} (h0 : checkP l = []) {a b : KeyD} (ha : a ∈ keysP l) (hb : b ∈ keysP l) (hne : a ≠ b) : crossB l a b = false := by
 cases hc : crossB l a b with
 |false => rfl
 |true =>
  obtain ⟨x, hx⟩ := keys_own ha
  obtain ⟨y, hy⟩ := keys_own hb
  have : key2 x y ∈ checkP l := checkP_mem.2 (bad_mem.2 (Or.inr ⟨(a, ownF l l a), borders_mem.2 ⟨ha, rfl⟩, (b, ownF l l b), borders_mem.2 ⟨hb, rfl⟩, hne, hc, x, hx, y, hy, rfl⟩))
  rw [h0] at this; cases this
theorem cross_false {l : List ObjD} {a b : KeyD} (h : crossB l a b = false) : meetsR (segB l a) (segB l b) = 0 ∨ (meetsR (segB l a) (segB l b) = 1 ∧ comK a b = true) := by
 unfold crossB at h
 by_cases h0 : meetsR (segB l a) (segB l b) = 0
 ·exact Or.inl h0
 ·rw [decide_eq_true h0, Bool.true_and, Bool.not_eq_false', Bool.and_eq_true, decide_eq_true_eq] at h
  exact Or.inr h
theorem keys_nodes {l : List ObjD} {k : KeyD} (hk : k ∈ keysP l) : k.1 ∈ nodesP l ∧ k.2 ∈ nodesP l := ⟨nodes_mem.2 ⟨k, hk, Or.inl rfl⟩, nodes_mem.2 ⟨k, hk, Or.inr rfl⟩⟩
theorem keys_ord {l : List ObjD} {k : KeyD} (hk : k ∈ keysP l) : ∃ a b, k = key2 a b := by
 obtain ⟨o, ho, hb, hs⟩ := keysP_mem.1 hk
 unfold sidesP at hs
 obtain ⟨i, _, rfl⟩ := List.mem_map.1 hs
 exact ⟨_, _, rfl⟩
theorem seg_key2 (l : List ObjD) (a b : ByteArray) (s : Sg) : meetsR s (segB l (key2 a b)) = meetsR s (ptO l a, ptO l b) := by
 rcases key2_or a b with e | e
 ·rw [e]; rfl
 ·rw [e]; exact meetsR_swap2 s (ptO l a, ptO l b)
end Go.Proofs.YtibpaaajghbkoaaGreat

namespace Go.Proofs.YtibpaaajghbkoaaGreat
theorem refs_two : ∀ (l pre : List ByteArray), refsFrom 2 pre l = true → ∀ (i : Nat) (x y : ByteArray), l[i]? = some x → l[i + 1]? = some y → x ≠ y
 |[], _, _, i, x, y, hx, _ => by simp at hx
 |s :: l, pre, h, i, x, y, hx, hy => by
  simp only [refsFrom, Bool.and_eq_true] at h
  cases i with
  |zero =>
   have e : s = x := by simpa using hx
   subst e
   cases l with
   |nil => simp at hy
   |cons t l =>
    have e : t = y := by simpa using hy
    subst e
    have h2 := h.2
    simp only [refsFrom, Bool.and_eq_true] at h2
    have h3 := h2.1.1.2
    simp at h3
    exact h3
  |succ i => exact refs_two l _ h.2 i x y (by simpa using hx) (by simpa using hy)
theorem refs_three : ∀ (l pre : List ByteArray), refsFrom 3 pre l = true → (∀ s ∈ l, s ∉ pre) ∧ l.Nodup
 |[], _, _ => ⟨fun s hs => (by cases hs), List.nodup_nil⟩
 |s :: l, pre, h => by
  simp only [refsFrom, Bool.and_eq_true] at h
  obtain ⟨h1, h2⟩ := refs_three l _ h.2
  have h3 := h.1.2
  have h4 : s ∉ pre := fun c => by
   have : pre.any (fun p => decide (p = s)) = true := List.any_eq_true.2 ⟨s, c, decide_eq_true rfl⟩
   rw [this] at h3
   simp at h3
  refine ⟨fun x hx => ?_, List.nodup_cons.2 ⟨fun c => h1 s c (by simp), h2⟩⟩
  rcases List.mem_cons.1 hx with rfl | hx
  ·exact h4
  ·exact fun c => h1 x hx (List.mem_append_left _ c)
theorem key2_ne {a b : ByteArray} (h : a ≠ b) : (key2 a b).1 ≠ (key2 a b).2 := by
 rcases key2_or a b with e | e <;> rw [e]
 ·exact h
 ·exact Ne.symm h
theorem refAt_eq {o : ObjD} {i : Nat} (h : i < o.refs.length) : o.refs[i]? = some (refAt o i) := by
 unfold refAt
 rw [List.getElem?_eq_getElem h]; rfl
theorem keys_ne {l : List ObjD} (h : mapOK l = true) {k : KeyD} (hk : k ∈ keysP l) : k.1 ≠ k.2 := by
 obtain ⟨o, ho, hb, hs⟩ := keysP_mem.1 hk
 have hob := map_obj h ho
 simp only [objOK, Bool.and_eq_true, decide_eq_true_eq] at hob
 obtain ⟨⟨⟨⟨⟨⟨h1, h2⟩, _⟩, h4⟩, h5⟩, h6⟩, h7⟩ := hob
 unfold sidesP at hs
 obtain ⟨i, hi, rfl⟩ := List.mem_map.1 hs
 rw [List.mem_range] at hi
 refine key2_ne ?_
 rcases isB_kind hb with hk | hk
 ·rw [hk] at h6
  unfold sideN at hi
  rw [if_pos hk] at hi
  rw [Nat.mod_eq_of_lt (by omega)]
  exact refs_two _ _ h6 i _ _ (refAt_eq (by omega)) (refAt_eq (by omega))
 ·rw [hk] at h6 h4
  unfold sideN at hi
  rw [if_neg (by omega)] at hi
  have hl : 3 ≤ o.refs.length := by have h8 : (3 : Int) ≤ (o.refs.length : Int) := h4; omega
  have hn := (refs_three _ _ h6).2
  have hj := Nat.mod_lt (i + 1) (show 0 < o.refs.length by omega)
  intro e
  have e1 := refAt_eq hi
  have e2 := refAt_eq hj
  rw [e, ← e2] at e1
  have := (List.getElem?_inj hi hn).1 e1
  rcases Nat.lt_or_ge (i + 1) o.refs.length with h | h
  ·rw [Nat.mod_eq_of_lt h] at this; omega
  ·have h9 : i + 1 = o.refs.length := by omega
   rw [h9, Nat.mod_self] at this; omega
def OrdP (k : KeyD) : Prop := ltB k.2 k.1 = false
theorem key2_ordP (a b : ByteArray) : OrdP (key2 a b) := key2_le a b
theorem key2_of {k : KeyD} (h : OrdP k) : key2 k.1 k.2 = k := key2_of_le h
def NodeN (l : List ObjD) (p q key : KeyD) : Prop := ∃ a b, (a = p.1 ∨ a = p.2) ∧ (b = q.1 ∨ b = q.2) ∧ a ≠ b ∧ ptO l a = ptO l b ∧ key = key2 a b
def OwnN (l : List ObjD) (p q key : KeyD) : Prop := crossB l p q = true ∧ ∃ x ∈ ownF l l p, ∃ y ∈ ownF l l q, key = key2 x y
theorem NodeN.symm {l : List ObjD} {p q key : KeyD} (h : NodeN l p q key) : NodeN l q p key := by
 obtain ⟨a, b, h1, h2, h3, h4, h5⟩ := h
 exact ⟨b, a, h2, h1, Ne.symm h3, h4.symm, by rw [h5, key2_comm]⟩
theorem OwnN.symm {l : List ObjD} {p q key : KeyD} (h : OwnN l p q key) : OwnN l q p key := by
 obtain ⟨h1, x, hx, y, hy, h2⟩ := h
 exact ⟨by rw [crossB_symm]; exact h1, y, hy, x, hx, by rw [h2, key2_comm]⟩
end Go.Proofs.YtibpaaajghbkoaaGreat
