/- Stores of several cells into a block that is known whole. No program in sight. -/
import Derived.Test.YtbkomdinchiffaaGreatKitGen
import Derived.Laws.IdiomCopy
import Derived.Laws.CopyRow
namespace Go.Proofs.YtbkomdinchiffaaGreat
open Go.RowKit

/-- Cells written one behind the other. -/
def splice (cur : Array Value) (o : Nat) : List Value → Array Value
  | [] => cur
  | v :: r => splice (cur.setIfInBounds o v) (o + 1) r
theorem size_splice : ∀ (vs : List Value) (cur : Array Value) (o : Nat), (splice cur o vs).size = cur.size
  | [], _, _ => rfl
  | v :: r, cur, o => by rw [splice, size_splice r, Array.size_setIfInBounds]
theorem splice_get : ∀ (vs : List Value) (cur : Array Value) (o : Nat), o + vs.length ≤ cur.size → ∀ i, (splice cur o vs)[i]? = if o ≤ i ∧ i < o + vs.length then vs[i - o]? else cur[i]?
  | [], cur, o, _, i => by rw [splice, if_neg (fun c => by simp at c; omega)]
  | v :: r, cur, o, h, i => by
    have h' : o + 1 + r.length ≤ (cur.setIfInBounds o v).size := by simp at h ⊢; omega
    rw [splice, splice_get r _ _ h']
    simp only [List.length_cons] at h ⊢
    by_cases h1 : i = o
    · subst h1
      rw [if_neg (by omega), if_pos ⟨Nat.le_refl _, by omega⟩, Nat.sub_self, Array.getElem?_setIfInBounds, if_pos rfl, if_pos (by omega)]; rfl
    · by_cases h2 : o + 1 ≤ i ∧ i < o + 1 + r.length
      · rw [if_pos h2, if_pos ⟨by omega, by omega⟩, show i - o = (i - (o + 1)) + 1 by omega, List.getElem?_cons_succ]
      · rw [if_neg h2, if_neg (by omega), Array.getElem?_setIfInBounds, if_neg (Ne.symm h1)]
theorem splice_list {vs : List Value} {cur : Array Value} {o : Nat} (h : o + vs.length ≤ cur.size) : (splice cur o vs).toList = cur.toList.take o ++ vs ++ cur.toList.drop (o + vs.length) := by
  apply List.ext_getElem?
  intro i
  rw [Array.getElem?_toList, splice_get vs cur o h]
  have hlen : (cur.toList.take o).length = o := by simp; omega
  by_cases h1 : i < o
  · rw [if_neg (by omega), List.append_assoc, List.getElem?_append_left (by omega), List.getElem?_take, if_pos h1, Array.getElem?_toList]
  · by_cases h2 : i < o + vs.length
    · rw [if_pos ⟨by omega, h2⟩, List.append_assoc, List.getElem?_append_right (by omega), hlen, List.getElem?_append_left (by omega)]
    · rw [if_neg (by omega), List.append_assoc, List.getElem?_append_right (by omega), hlen, List.getElem?_append_right (by omega), List.getElem?_drop, Array.getElem?_toList]
      congr 1; omega
theorem setCells_block {g : Nat} {t : TypeId} : ∀ (vs : List Value) (o : Nat) (w : World) (cur : Array Value), w.heap[g]? = some (.cells cur t (0, 0)) → (w.setCells g o vs).heap[g]? = some (.cells (splice cur o vs) t (0, 0))
  | [], _, _, _, h => h
  | v :: r, o, w, cur, h => by
    rw [World.setCells, splice]
    exact setCells_block r (o + 1) _ _ (heap_setCell_same w g o cur t v h)
theorem setCells_grown {g : Nat} : ∀ (vs : List Value) (o : Nat) (w : World), w.grownBy (w.setCells g o vs) (some g)
  | [], _, w => World.grownBy.refl _ _
  | v :: r, o, w => by
    rw [World.setCells]
    have h1 : w.grownBy (w.setCell ⟨g, o, none⟩ v) (some g) := ⟨rfl, rfl, rfl, by simp [World.setCell], fun k _ hk => Below.heap_setCell w ⟨g, o, none⟩ v k (fun e => hk (by rw [e]))⟩
    exact h1.trans (setCells_grown r (o + 1) _)
theorem setCells_below {B g : Nat} {a w : World} (h : Below B a w) (hg : B ≤ g) (vs : List Value) (o : Nat) : Below B a (w.setCells g o vs) := by
  induction vs generalizing w o with
  | nil => exact h
  | cons v r ih => rw [World.setCells]; exact ih (h.setCell (p := ⟨g, o, none⟩) hg v) _
theorem zeroCells_size (z : Array Value) (n : Nat) : (Builtin.zeroCells z n).toList.length = n * z.size := by simp [Builtin.zeroCells]
theorem run_clear {P : Program} {w : World} {T E ty : TypeId} {g o n c : Nat} {z : Value} {cur : Array Value} {t : TypeId} (hT : P.underlying T = some (.slice E)) (hz : (zeroValue E).run P w = .ok z w) (hg : w.heap[g]? = some (.cells cur t (0, 0)))
    (hr : o + n * z.cells.size ≤ cur.size) (hn : 0 < n) (h1 : ∀ v ∈ (Builtin.zeroCells z.cells n).toList, v.oneCell' = true) :
    (Builtin.clear_ #[T] ty #[.slice (some ⟨g, o, none⟩) n c]).run P w = .ok (.tuple #[]) (w.setRow g (cur.toList.take o ++ (Builtin.zeroCells z.cells n).toList ++ cur.toList.drop (o + n * z.cells.size)).toArray) := by
  have hs := run_storeCells_at (P := P) g o t (Builtin.zeroCells z.cells n).toList 0 cur w hg (by rw [zeroCells_size]; omega) h1
  rw [zeroCells_size, Nat.add_zero] at hs
  obtain ⟨m, rfl⟩ : ∃ m, n = m + 1 := ⟨n - 1, by omega⟩
  simp [Builtin.clear_, run_underlying hT, hz, Result.andThen, hs]
end Go.Proofs.YtbkomdinchiffaaGreat
