/- slices.SortFunc at a slice of structs that the call owns: it is ordered, and nothing else is turned but by new blocks. -/
import Derived.Test.YtbkomdinchiffaaGreatKitGen
import Derived.Shelf.SlSortCmp.WholeK
import Derived.Shelf.SlSortCmp.NoneTotal
namespace Go.Proofs.YtbkomdinchiffaaGreat
open Go.RowKit Go.Lib Go.Sort Go.Shelf

/-- A world that has only grown, at its end, and drawn. -/
def Grew (w w' : World) : Prop := ∃ q os, w' = grow (w.drewN q) os
theorem drewN_grow (w : World) (os : Array Obj) (q : Nat) : (grow w os).drewN q = grow (w.drewN q) os := rfl
theorem drewN_drewN (w : World) (p q : Nat) : (w.drewN p).drewN q = w.drewN (p + q) := by
  simp [World.drewN, Nat.add_assoc]
theorem Grew.refl (w : World) : Grew w w := ⟨0, #[], by rw [grow_empty]; rfl⟩
theorem Grew.trans {a b c : World} (h : Grew a b) (h2 : Grew b c) : Grew a c := by
  obtain ⟨q, os, rfl⟩ := h
  obtain ⟨q2, os2, rfl⟩ := h2
  exact ⟨q + q2, os ++ os2, by rw [drewN_grow, drewN_drewN, grow_grow]⟩
theorem Grew.alloc {a b : World} (h : Grew a b) (o : Obj) : Grew a (b.alloc o) := h.trans ⟨0, #[o], by rw [alloc_eq_grow]; rfl⟩
theorem Grew.drew {a b : World} (h : Grew a b) : Grew a b.drew := h.trans ⟨1, #[], by rw [grow_empty]; rfl⟩
theorem Grew.drewN {a b : World} (h : Grew a b) (n : Nat) : Grew a (b.drewN n) := h.trans ⟨n, #[], by rw [grow_empty]⟩
theorem Grew.below {a b : World} (h : Grew a b) : Below a.heap.size a b := by
  obtain ⟨q, os, rfl⟩ := h
  refine ⟨rfl, rfl, rfl, ?_, fun k hk => ?_⟩
  · show a.heap.size ≤ (a.heap ++ os).size
    simp
  · show (a.heap ++ os)[k]? = _
    rw [Array.getElem?_append_left hk]

section
variable {P : Program} {ρ : Ren} {α : Type} [Inhabited α]

theorem holdsK_own {enc : α → List Value} {k : Nat} (hk : ∀ x, (enc x).length = k) {w : World} {base g cap n : Nat} {e : TypeId} {l : List α} (hn : n = l.length) (h : w.ownsRow base e k (.slice (some ⟨g, 0, none⟩) n cap) n (l.flatMap enc)) : HoldsK enc k w g 0 l.toArray := by
  subst hn
  obtain ⟨_, ⟨h0, _⟩ | ⟨g', cap', cur, hv, hb, hc, h1, h2, h3, h4⟩⟩ := h
  · cases h0
  · obtain ⟨rfl, rfl⟩ : g = g' ∧ cap = cap' := by injection hv with a b c; injection a with a; injection a with a; exact ⟨a, c⟩
    intro j hj
    rw [size_flatK, List.size_toArray] at hj
    have hk0 : 0 < k := by
      rcases Nat.eq_zero_or_pos k with h | h
      · subst h; simp at hj
      · exact h
    have e1 : (flatK enc k l.toArray)[j]! = (enc l.toArray[j / k]!)[j % k]! := get_flatK _ _ _ _ (by simpa using hj)
    have hjk : j / k < l.length := Nat.div_lt_of_lt_mul (by rw [Nat.mul_comm]; exact hj)
    have hm : j % k < k := Nat.mod_lt _ hk0
    have e3 : j / k * k + j % k = j := by rw [Nat.mul_comm]; exact Nat.div_add_mod j k
    have hj2 : cur[j]? = some (enc l[j / k])[j % k]! := by
      have a := flat_get enc k hk l (j / k) (j % k) l[j / k] (List.getElem?_eq_getElem hjk) hm
      rw [e3, ← h4, List.getElem?_take, if_pos hj, Array.getElem?_toList] at a
      rw [a, List.getElem?_eq_getElem (by rw [hk]; exact hm), getElem!_pos _ _ (by rw [hk]; exact hm)]
    have e2 : l.toArray[j / k]! = l[j / k] := by rw [getElem!_pos _ _ (by simpa using hjk)]; simp
    refine ⟨?_, by simp [World.frozen?, hc]⟩
    rw [e1, e2]
    simp only [World.cell?, hc, Nat.zero_add, Option.isSome_none, Bool.false_eq_true, if_false, id]
    exact hj2
theorem own_sortWorld {enc : α → List Value} {k : Nat} (hk : ∀ x, (enc x).length = k) {w : World} {base g cap n m : Nat} {e : TypeId} {l : List α} {d : Array α} {os : Array Obj} (hd : d.size = n)
    (h : w.ownsRow base e k (.slice (some ⟨g, 0, none⟩) n cap) n (l.flatMap enc)) : (sortWorldK enc k w g 0 m d os).ownsRow base e k (.slice (some ⟨g, 0, none⟩) n cap) n (d.toList.flatMap enc) := by
  obtain ⟨_, ⟨h0, _⟩ | ⟨g', cap', cur, hv, hb, hc, h1, h2, h3, h4⟩⟩ := h
  · cases h0
  · obtain ⟨rfl, rfl⟩ : g = g' ∧ cap = cap' := by injection hv with a b c; injection a with a; injection a with a; exact ⟨a, c⟩
    have hgs : g < w.heap.size := lt_of_block hc
    have hle : n * k ≤ cur.size := by rw [h3]; exact Nat.mul_le_mul_right k h1
    refine ⟨by rw [flat_length enc k hk]; simp [hd], Or.inr ⟨g, cap, putCells id 0 (flatK enc k d) cur, rfl, hb, ?_, h1, h2, by simpa [putCells] using h3, ?_⟩⟩
    · unfold sortWorldK putRowK
      show ((putRow id (Sort.ahead w m) g 0 (flatK enc k d)).heap ++ os)[g]? = _
      rw [Array.getElem?_append_left (by simpa [Sort.ahead] using hgs)]
      simp [putRow, mapBlock, Sort.ahead, Array.getElem?_modify, hc, onCells]
    · apply List.ext_getElem?
      intro j
      rw [List.getElem?_take, Array.getElem?_toList]
      by_cases hj : j < n * k
      · have hk0 : 0 < k := by
          rcases Nat.eq_zero_or_pos k with h | h
          · subst h; simp at hj
          · exact h
        have hjd : j < d.size * k := by rw [hd]; exact hj
        have hm : j % k < k := Nat.mod_lt _ hk0
        have hjk : j / k < d.size := Nat.div_lt_of_lt_mul (by rw [Nat.mul_comm]; exact hjd)
        have e3 : j / k * k + j % k = j := by rw [Nat.mul_comm]; exact Nat.div_add_mod j k
        have a := flat_get enc k hk d.toList (j / k) (j % k) d[j / k] (by rw [Array.getElem?_toList, Array.getElem?_eq_getElem hjk]) hm
        rw [e3] at a
        rw [if_pos hj, a, putCells, Array.getElem?_mapIdx, Array.getElem?_eq_getElem (by omega), Option.map_some]
        rw [if_pos ⟨by omega, by rw [size_flatK]; omega⟩, Nat.sub_zero, get_flatK _ _ _ _ hjd, getElem!_pos d _ hjk]
        rw [List.getElem?_eq_getElem (by rw [hk]; exact hm), getElem!_pos _ _ (by rw [hk]; exact hm)]; rfl
      · rw [if_neg hj, List.getElem?_eq_none (by rw [flat_length enc k hk]; simp [hd]; omega)]
theorem grown_sortWorld {enc : α → List Value} {k : Nat} {w : World} {g cap n m : Nat} {d : Array α} {os : Array Obj} : w.grownBy (sortWorldK enc k w g 0 m d os) (Value.slice (some ⟨g, 0, none⟩) n cap).ownBlock := by
  refine ⟨rfl, rfl, rfl, ?_, fun i hi hne => ?_⟩
  · unfold sortWorldK
    rw [size_grow, size_putRowK]
    show w.heap.size ≤ w.heap.size + _
    omega
  · have hne' : g ≠ i := fun e => hne (by subst e; rfl)
    show ((w.heap.modify g _) ++ os)[i]? = _
    rw [Array.getElem?_append_left (by rw [Array.size_modify]; exact hi), Array.getElem?_modify, if_neg hne']

/-- What the call of slices.SortFunc leaves. -/
def SortPost (w : World) (base k : Nat) (e : TypeId) (v : Value) (n : Nat) (enc : α → List Value) (cf : α → α → Int) (l : List α) (en : Ending) (w' : World) : Prop :=
  en = .returned (.tuple #[]) ∧ ∃ l' : List α, l'.Perm l ∧ l'.Pairwise (fun x y => ltOf cf y x = false) ∧ w'.ownsRow base e k v n (l'.flatMap enc) ∧ w.grownBy w' v.ownBlock
theorem sort_own (L : SlLaysF0.n6 P ρ) (k : Nat) (aE : ∀ w, (isAgg (ρ.t 24)).run P w = .ok true w) (zE : ∀ w, (Go.sizeOf (ρ.t 24)).run P w = .ok k w) (enc : α → List Value) (hk : ∀ x, (enc x).length = k) (h1 : ∀ x, ∀ v ∈ enc x, v.oneCell' = true) (cf : α → α → Int) (hO : SWO (ltOf cf))
    (f : Nat) (cb : Array Value) (ef : ∀ args w, (callFunc f args).run P w = .ok (.enter f args) w) {w : World} {base n : Nat} {e : TypeId} {v : Value} {l : List α} (hn : n = l.length) (hsz : n < 4611686018427387904)
    (hcmp : ∀ W, w.grownBy W v.ownBlock → ∀ x y : α, Calls P f (#[.agg (enc x).toArray, .agg (enc y).toArray] ++ cb) W fun e w' => e = .returned (.int .i64 (cf x y)) ∧ Grew W w')
    (hrow : w.ownsRow base e k v n (l.flatMap enc)) : Calls P (ρ.f 6) #[v, .func (.func f) #[] cb] w (SortPost w base k e v n enc cf l) := by
  rcases hrow.2 with ⟨rfl, h0⟩ | ⟨g, cap, cur, rfl, hb, hc, h2, h3, h4, h5⟩
  · have hl : l = [] := List.length_eq_zero_iff.1 (by omega)
    subst hl
    refine (AnyF.slices_SortFunc_none L none 0 (.func (.func f) #[] cb) w).mono ?_
    rintro en w' ⟨rfl, rfl⟩
    exact ⟨rfl, [], List.Perm.refl _, List.Pairwise.nil, hrow, World.grownBy.refl _ _⟩
  · have hH := holdsK_own hk hn hrow
    have hs : l.toArray.size = n := by simp [hn]
    have hC : CmpLays P f cb enc k cf g 0 l.toArray.size w := fun m os dk hdk x y =>
      (hcmp _ (grown_sortWorld (n := n) (cap := cap)) x y).mono fun _ _ ⟨he, q, os', hw⟩ => ⟨he, q, os', hw⟩
    have := AnyQ.slices_SortFunc L k aE zE enc hk h1 cf hO f cb g 0 cap l.toArray w ef hC hH (lt_of_block hc) (by rw [hs]; exact hsz)
    rw [hs] at this
    refine this.mono ?_
    rintro en w' ⟨rfl, d', m, os, hp, hso, rfl⟩
    obtain ⟨hp1, _, hp3⟩ := hp
    have hd : d'.size = n := by rw [hp1, hs]
    have e0 : d'.extract 0 n = d' := by rw [← hd]; simp
    have e1 : l.toArray.extract 0 n = l.toArray := by rw [← hs]; simp
    rw [e0, e1] at hp3
    refine ⟨rfl, d'.toList, by simpa using hp3, ?_, own_sortWorld hk hd hrow, grown_sortWorld⟩
    rw [List.pairwise_iff_getElem]
    intro i j hi hj hij
    have hi' : i < d'.size := by simpa using hi
    have hj' : j < d'.size := by simpa using hj
    have := hso i j (Nat.zero_le _) hij (by omega)
    rw [getElem!_pos d' i hi', getElem!_pos d' j hj'] at this
    simpa using this
end
end Go.Proofs.YtbkomdinchiffaaGreat
