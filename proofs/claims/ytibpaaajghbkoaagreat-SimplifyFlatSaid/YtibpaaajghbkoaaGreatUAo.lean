/-  -/
import Derived.Test.YtibpaaajghbkoaaGreatUAf
import Derived.Test.YtibpaaajghbkoaaGreatUAb
import Derived.Maps.AppendAt
namespace Go.Proofs.YtibpaaajghbkoaaGreat
open Go.RowKit Go.Maps Go.ChangeMaps Go.MapKept
section
variable {κ : Type} [DecidableEq κ]
theorem mem_aput' {ν : Type} {k : κ} {v : ν} {l : List (κ × ν)} (hn : (l.map (·.1)).Nodup) {p : κ × ν} (h : p ∈ aput k v l) : p = (k, v) ∨ (p ∈ l ∧ p.1 ≠ k) := by
 by_cases e : p.1 = k
 ·have := aget_of_mem (aput_nodup (v := v) (k := k) hn) (show (p.1, p.2) ∈ aput k v l from h)
  rw [e, aget_put_same] at this
  left
  injection this with this
  exact Prod.ext e this.symm
 ·rcases mem_aput h with h | h
  ·exact Or.inl h
  ·exact Or.inr ⟨h, e⟩
theorem aput_pairwise {ν : Type} {R : κ × ν → κ × ν → Prop} (hs : ∀ p q, R p q → R q p) {k : κ} {v : ν} : ∀ {l : List (κ × ν)}, (l.map (·.1)).Nodup → l.Pairwise R → (∀ p ∈ l, p.1 ≠ k → R p (k, v)) → (aput k v l).Pairwise R
 |[], _, _, _ => List.pairwise_singleton ..
 |q :: l, hn, hp, hk => by
  rw [List.map_cons, List.nodup_cons] at hn
  have hp' := List.pairwise_cons.1 hp
  rw [aput]
  split
  ·rename_i e
   refine List.pairwise_cons.2 ⟨fun p hm => hs _ _ (hk p (List.mem_cons_of_mem _ hm) (fun e' => hn.1 (List.mem_map.2 ⟨p, hm, by rw [e', e]⟩))), hp'.2⟩
  ·rename_i e
   refine List.pairwise_cons.2 ⟨fun p hm => ?_, aput_pairwise hs hn.2 hp'.2 fun p hm => hk p (List.mem_cons_of_mem _ hm)⟩
   rcases mem_aput hm with rfl | hm
   ·exact hk q (List.mem_cons_self ..) e
   ·exact hp'.1 p hm
end
section
variable {κ : Type}
def ApartR (p q : κ × Value × List ByteArray) : Prop := p.2.1.ownBlock = none ∨ p.2.1.ownBlock ≠ q.2.1.ownBlock
theorem ApartR.symm {p q : κ × Value × List ByteArray} (h : ApartR p q) : ApartR q p := by
 unfold ApartR at *
 cases hq : q.2.1.ownBlock with
 |none => exact Or.inl rfl
 |some g =>
  right
  rcases h with h | h
  ·rw [h]; simp
  ·rw [hq] at h; exact fun e => h e.symm
def GroupAt (P : Program) (t : TypeId) (ek : κ → Value) (base : Nat) (e : TypeId) (w : World) (b : Nat) (acc : List (κ × Value × List ByteArray)) : Prop :=
 MapAt P t ek (fun p : Value × List ByteArray => p.1) w b acc ∧ b < base ∧ (∀ p ∈ acc, w.ownsRow base e 1 p.2.1 p.2.2.length (p.2.2.map Value.string)) ∧ acc.Pairwise ApartR
variable {P : Program} {t : TypeId} {ek : κ → Value} {base : Nat} {e : TypeId} {w w' : World} {b : Nat} {acc : List (κ × Value × List ByteArray)}
theorem GroupAt.made (P : Program) (t : TypeId) (ek : κ → Value) (e : TypeId) (w : World) : GroupAt P t ek (w.heap.size + 1) e (w.alloc (.map #[] 0)) w.heap.size [] :=
 ⟨MapAt.made _ _ _ _ _, Nat.lt_succ_self _, by simp, List.Pairwise.nil⟩
theorem GroupAt.on (h : GroupAt P t ek base e w b acc) (hb : Below w.heap.size w w') : GroupAt P t ek base e w' b acc :=
 ⟨h.1.on hb, h.2.1, fun p hp => by
  refine ⟨(h.2.2.1 p hp).1, ?_⟩
  rcases (h.2.2.1 p hp).2 with h0 | ⟨g, cap, cur, h1, h2, h3, h4⟩
  ·exact Or.inl h0
  ·exact Or.inr ⟨g, cap, cur, h1, h2, row_later hb h3, h4⟩, h.2.2.2⟩
theorem own_block {w : World} {base : Nat} {e : TypeId} {size n : Nat} {v : Value} {xs : List Value} (h : w.ownsRow base e size v n xs) : ∀ g, v.ownBlock = some g → base ≤ g ∧ g < w.heap.size := h.lt
theorem GroupAt.keptBy (h : GroupAt P t ek base e w b acc) {row : Option Nat} (hg : w.grownBy w' row) (hb : some b ≠ row) (hr : ∀ p ∈ acc, p.2.1.ownBlock = none ∨ p.2.1.ownBlock ≠ row) : GroupAt P t ek base e w' b acc :=
 ⟨h.1.kept hg hb, h.2.1, fun p hp => (h.2.2.1 p hp).kept hg (hr p hp), h.2.2.2⟩
theorem GroupAt.other (h : GroupAt P t ek base e w b acc) {g : Nat} {cs : Array Value} {t' : TypeId} (hg : w.heap[g]? = some (.cells cs t')) (ht : t' ≠ e) : ∀ p ∈ acc, p.2.1.ownBlock ≠ some g := fun p hp hc => by
 rcases (h.2.2.1 p hp).2 with ⟨h1, _⟩ | ⟨g', cap, cur, h1, h2, h3, _⟩
 ·rw [h1] at hc; cases hc
 ·rw [h1] at hc
  simp only [Value.ownBlock, Option.some.injEq] at hc
  subst hc
  rw [h3] at hg
  injection hg with hg
  injection hg with _ h5 _
  exact ht h5.symm
theorem GroupAt.otherRow (h : GroupAt P t ek base e w b acc) {base' n size : Nat} {e' : TypeId} {v : Value} {xs : List Value} (ho : w.ownsRow base' e' size v n xs) (ht : e' ≠ e) : ∀ p ∈ acc, p.2.1.ownBlock = none ∨ p.2.1.ownBlock ≠ v.ownBlock := fun p hp => by
 rcases ho.2 with ⟨rfl, _⟩ | ⟨g, cap, cur, rfl, _, h3, _⟩
 ·cases hp : p.2.1.ownBlock <;> simp [Value.ownBlock]
 ·exact Or.inr (h.other h3 ht p hp)
def slParts : Value → Option Addr × Nat × Nat
 |.slice a n c => (a, n, c)
 |_ => (none, 0, 0)
theorem own_parts {w : World} {base size n : Nat} {e : TypeId} {v : Value} {xs : List Value} (h : w.ownsRow base e size v n xs) : v = .slice (slParts v).1 (slParts v).2.1 (slParts v).2.2 := by
 rcases h.2 with ⟨rfl, _⟩ | ⟨g, cap, cur, rfl, _⟩ <;> rfl
def rowsOf [DecidableEq κ] (acc : List (κ × Value × List ByteArray)) : List (κ × List ByteArray) := acc.map fun p => (p.1, p.2.2)
theorem aget_rows [DecidableEq κ] (k : κ) : ∀ acc : List (κ × Value × List ByteArray), aget k (rowsOf acc) = (aget k acc).map (·.2)
 |[] => rfl
 |p :: l => by
  show aget k ((p.1, p.2.2) :: rowsOf l) = _
  rw [aget, aget, aget_rows k l]
  split <;> rfl
theorem rows_put [DecidableEq κ] (k : κ) (v : Value) (ids : List ByteArray) : ∀ acc : List (κ × Value × List ByteArray), rowsOf (aput k (v, ids) acc) = aput k ids (rowsOf acc)
 |[] => rfl
 |p :: l => by
  show rowsOf (aput k (v, ids) (p :: l)) = aput k ids ((p.1, p.2.2) :: rowsOf l)
  rw [aput, aput]
  split
  ·rfl
  ·show (p.1, p.2.2) :: rowsOf (aput k (v, ids) l) = _
   rw [rows_put k v ids l]
theorem GroupAt.look [DecidableEq κ] {T E : TypeId} (h : GroupAt P t ek base e w b acc) (K : Keyed P t) (hinj : ∀ x y, ek x = ek y → x = y) (hT : P.underlying T = some (.map t E)) (hz : (zeroValue E).run P w = .ok (.slice none 0 0) w) (k : κ) (hk : ∃ kl, keyOf P t (ek k) = some kl) :
  ∃ v ids, (Instr.lookup T (.map (some b)) (ek k) false).run P w = .ok v w ∧ ids = (aget k (rowsOf acc)).getD [] ∧ w.ownsRow base e 1 v ids.length (ids.map Value.string) := by
 have h1 := h.1.look K hinj hT hz k hk
 rw [aget_rows]
 cases hg : aget k acc with
 |none =>
  rw [hg] at h1
  exact ⟨_, [], h1, rfl, World.ownsRow_nil _ _ _ _⟩
 |some p =>
  rw [hg] at h1
  exact ⟨_, p.2, h1, rfl, h.2.2.1 _ (aget_mem hg)⟩
theorem GroupAt.get [DecidableEq κ] {T E : TypeId} (h : GroupAt P t ek base e w b acc) (K : Keyed P t) (hinj : ∀ x y, ek x = ek y → x = y) (hT : P.underlying T = some (.map t E)) (hz : ∀ w, (zeroValue E).run P w = .ok (.slice none 0 0) w) (k : κ) (hk : ∃ kl, keyOf P t (ek k) = some kl) :
  ∃ v ids, (∀ n, (Instr.lookup T (.map (some b)) (ek k) false).run P (w.drewN n) = .ok v (w.drewN n)) ∧ ids = (aget k (rowsOf acc)).getD [] ∧ w.ownsRow base e 1 v ids.length (ids.map Value.string) := by
 have h1 := fun n => (h.1.on (w' := w.drewN n) (Below.refl _ w).drewN').look K hinj hT (hz _) k hk
 rw [aget_rows]
 cases hg : aget k acc with
 |none =>
  rw [hg] at h1
  exact ⟨_, [], h1, rfl, World.ownsRow_nil _ _ _ _⟩
 |some p =>
  rw [hg] at h1
  exact ⟨_, p.2, h1, rfl, h.2.2.1 _ (aget_mem hg)⟩
theorem GroupAt.entry [DecidableEq κ] {T E : TypeId} (h : GroupAt P t ek base e w b acc) (K : Keyed P t) (hinj : ∀ x y, ek x = ek y → x = y) (hT : P.underlying T = some (.map t E)) (hz : (zeroValue E).run P w = .ok (.slice none 0 0) w) (hroom : acc.length < maxLen) (k : κ) (hk : ∃ kl, keyOf P t (ek k) = some kl) :
  ∃ (w1 : World) (st : Int) (v : Value) (ids : List ByteArray), (Instr.mapEntry T (.map (some b)) (ek k)).run P w = .ok (.tuple #[v, .int .i64 st]) w1 ∧ w.grownBy w1 (some b) ∧ w1.heap.size = w.heap.size ∧ ids = (aget k (rowsOf acc)).getD [] ∧
   w1.ownsRow base e 1 v ids.length (ids.map Value.string) ∧ (v.ownBlock ≠ some b) ∧ (v.ownBlock = none ∨ ∃ p ∈ acc, v.ownBlock = p.2.1.ownBlock) ∧
   ∀ (w2 : World) (v' : Value) (ids' : List ByteArray), w1.grownBy w2 v.ownBlock → w2.ownsRow base e 1 v' ids'.length (ids'.map Value.string) → (v'.ownBlock = v.ownBlock ∨ ∃ g, v'.ownBlock = some g ∧ w1.heap.size ≤ g) →
    ∃ w3, (Instr.entryStore T (.map (some b)) (.int .i64 st) v').run P w2 = .ok () w3 ∧ GroupAt P t ek base e w3 b (aput k (v', ids') acc) ∧ w2.grownBy w3 (some b) := by
 obtain ⟨hm, hbb, hrows, hap⟩ := h
 have hn := hm.nodup
 obtain ⟨w1, st, hrun, hg1, hs1, hback⟩ := hm.entry K hinj hT hz hroom k hk
 have notb : ∀ {w : World} {u : Value} {n : Nat} {xs : List Value}, w.ownsRow base e 1 u n xs → u.ownBlock ≠ some b := fun ho hc => by
  have := (own_block ho b hc).1; omega
 have keep1 : ∀ p ∈ acc, w1.ownsRow base e 1 p.2.1 p.2.2.length (p.2.2.map Value.string) := fun p hp => (hrows p hp).kept hg1 (Or.inr (notb (hrows p hp)))
 obtain ⟨v, ids, hv, hids, hown, hvb, hvp, hvo⟩ : ∃ (v : Value) (ids : List ByteArray), ((aget k acc).map (fun p : Value × List ByteArray => p.1)).getD (.slice none 0 0) = v ∧ ids = (aget k (rowsOf acc)).getD [] ∧ w1.ownsRow base e 1 v ids.length (ids.map Value.string) ∧ v.ownBlock ≠ some b ∧
   (v.ownBlock = none ∨ ∃ p ∈ acc, v.ownBlock = p.2.1.ownBlock) ∧ (∀ p ∈ acc, p.1 ≠ k → p.2.1.ownBlock = none ∨ p.2.1.ownBlock ≠ v.ownBlock) := by
  rw [aget_rows]
  cases hg : aget k acc with
  |none => exact ⟨_, [], rfl, rfl, World.ownsRow_nil _ _ _ _, by simp [Value.ownBlock], Or.inl rfl, fun p _ _ => by cases hp : p.2.1.ownBlock <;> simp [Value.ownBlock]⟩
  |some q =>
   have hq := aget_mem hg
   refine ⟨q.1, q.2, rfl, rfl, keep1 _ hq, notb (keep1 _ hq), Or.inr ⟨_, hq, rfl⟩, fun p hp hne => ?_⟩
   obtain ⟨i, hi⟩ := List.getElem?_of_mem hp
   obtain ⟨j, hj⟩ := List.getElem?_of_mem hq
   obtain ⟨hi1, hi2⟩ := List.getElem?_eq_some_iff.1 hi
   obtain ⟨hj1, hj2⟩ := List.getElem?_eq_some_iff.1 hj
   rcases Nat.lt_trichotomy i j with h | h | h
   ·have := List.pairwise_iff_getElem.1 hap i j hi1 hj1 h
    rw [hi2, hj2] at this; exact this
   ·subst h
    rw [hi2] at hj2
    exact absurd (by rw [hj2]) hne
   ·have := (List.pairwise_iff_getElem.1 hap j i hj1 hi1 h).symm
    rw [hi2, hj2] at this; exact this
 rw [hv] at hrun
 refine ⟨w1, st, v, ids, hrun, hg1, hs1, hids, hown, hvb, hvp, fun w2 v' ids' hg2 hown' hloc => ?_⟩
 have hbl : b < w1.heap.size := by rw [hs1]; exact hm.lt
 obtain ⟨w3, hrun3, hm3, hg3⟩ := hback w2 (v', ids') (hg2.block b hbl (fun c => hvb c.symm))
 refine ⟨w3, hrun3, ⟨hm3, hbb, fun p hp => ?_, ?_⟩, hg3⟩
 ·rcases mem_aput' hn hp with rfl | ⟨hp, hne⟩
  ·exact hown'.kept hg3 (Or.inr (notb hown'))
  ·have := (keep1 p hp).kept hg2 (hvo p hp hne)
   exact this.kept hg3 (Or.inr (notb this))
 ·refine aput_pairwise (fun p q => ApartR.symm) hn hap fun p hp hne => ?_
  rcases hloc with h | ⟨g, h, hlt⟩
  ·unfold ApartR; simp only; rw [h]; exact hvo p hp hne
  ·unfold ApartR; simp only
   cases hpb : p.2.1.ownBlock with
   |none => exact Or.inl rfl
   |some g' =>
    right
    rw [h]
    intro c
    injection c with c
    have := (own_block (keep1 p hp) g' hpb).2
    omega
theorem StrRow.of_own {w : World} {base : Nat} {e : TypeId} {v : Value} {ids : List ByteArray} (h : w.ownsRow base e 1 v ids.length (ids.map Value.string)) (hl : ids.length ≤ 140737488355328) (hz : ∀ s ∈ ids, s.size ≤ 140737488355328) : StrRow w v ids := by
 rcases h.2 with ⟨rfl, h0⟩ | ⟨g, cap, cur, rfl, hb, hc, h1, h2, h3, h4⟩
 ·exact ⟨none, 0, by rw [h0], hl, hz, fun hp => by omega⟩
 ·refine ⟨some ⟨g, 0, none⟩, cap, rfl, hl, hz, fun _ => ⟨g, 0, rfl, fun i s hs => ?_⟩⟩
  have hi : i < ids.length := (List.getElem?_eq_some_iff.1 hs).1
  have a : (ids.map Value.string)[i]? = some (.string s) := by rw [List.getElem?_map, hs]; rfl
  rw [← h4, List.getElem?_take, if_pos (by omega), Array.getElem?_toList] at a
  simp only [World.cell?, hc, Nat.zero_add, Option.isSome_none, Bool.false_eq_true, if_false]
  exact a
end
end Go.Proofs.YtibpaaajghbkoaaGreat
