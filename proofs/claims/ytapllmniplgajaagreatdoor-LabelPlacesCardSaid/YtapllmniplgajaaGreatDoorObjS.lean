/- A set of texts as the program keeps it: a map[string]bool that the call made. -/
import Derived.Test.YtapllmniplgajaaGreatDoorObjW
import Derived.Maps.OwnSet
import Derived.Maps.OwnOps
import Derived.Maps.Views
import Derived.StringKeys
namespace Go.Proofs.YtapllmniplgajaaGreatDoor
open Go.RowKit Go.Maps Go.ChangeMaps

theorem keyS : Keyed Tryz.prog 9 := string_keyed Tryz.underlying9
theorem zeroB (w : World) : (zeroValue 4).run Tryz.prog w = .ok (.bool false) w := by kernel_rfl

/-- Block b is a map from texts to bools that has true at the texts of the list, and at no other. -/
def SetIs (w : World) (b : Nat) (pre : List ByteArray) : Prop :=
  ∃ (n : Nat) (D : DataW Unit), w.ownsMap Tryz.prog 9 (plainElem Tryz.prog 4) b n D ∧ n ≤ pre.length ∧
    ∀ s : ByteArray, D.atKey (.string s.data.toList) (.lit (.bool false)) = .lit (.bool (pre.any fun p => decide (p = s)))
theorem SetIs.made (w : World) : SetIs (w.alloc (.map #[] 0)) w.heap.size [] :=
  ⟨0, _, World.ownsMap_made _ _ _ _, Nat.le_refl _, fun s => by simp [DataW.atKey]⟩
theorem SetIs.later {w w' : World} {b : Nat} {pre : List ByteArray} (h : SetIs w b pre) (hb : w'.heap[b]? = w.heap[b]?) : SetIs w' b pre := by
  obtain ⟨n, D, ⟨es, clock, h1, h2⟩, h3⟩ := h
  exact ⟨n, D, ⟨es, clock, hb.trans h1, h2⟩, h3⟩
theorem SetIs.lt {w : World} {b : Nat} {pre : List ByteArray} (h : SetIs w b pre) : b < w.heap.size := by
  obtain ⟨n, D, h1, -⟩ := h
  exact h1.lt
theorem plainBool_inv {P : Program} {e : TypeId} (he : P.underlying e = some .bool) {v : Value} {b : Bool} {ps : List MemPlace} (h : plainElem (H := Unit) P e v = some (.lit (.bool b), ps)) : v = .bool b := by
  unfold plainElem at h
  rw [he] at h
  cases v <;> simp at h
  rw [h.1]
theorem str_key {a b : ByteArray} (h : Lit.string a.data.toList = Lit.string b.data.toList) : a = b := by
  injection h with h
  exact ByteArray.ext (Array.toList_inj.mp h)
theorem SetIs.look {w : World} {b : Nat} {pre : List ByteArray} (h : SetIs w b pre) (s : ByteArray) (hs : s.size ≤ maxLen) :
    (Instr.lookup 114 (.map (some b)) (.string s) false).run Tryz.prog w = .ok (.bool (pre.any fun p => decide (p = s))) w := by
  obtain ⟨n, D, h1, h2, h3⟩ := h
  obtain ⟨v, ps, hrun, hv⟩ := h1.lookup keyS Tryz.underlying114 (zeroB w) (plainElem_bool Tryz.underlying4 false) (WideMaps.keyOf_string_mk Tryz.underlying9 hs)
  rw [h3] at hv
  have hv' : v = .bool (pre.any fun p => decide (p = s)) := plainBool_inv Tryz.underlying4 hv
  rw [hrun, hv']
theorem SetIs.put {w : World} {b : Nat} {pre : List ByteArray} (h : SetIs w b pre) (s : ByteArray) (hs : s.size ≤ maxLen) (hn : pre.length < maxLen) :
    ∃ w', (Instr.mapUpdate 114 (.map (some b)) (.string s) (.bool true)).run Tryz.prog w = .ok () w' ∧ SetIs w' b (pre ++ [s]) ∧ w.grownBy w' (some b) := by
  obtain ⟨n, D, h1, h2, h3⟩ := h
  obtain ⟨w', hrun, h4, h5⟩ := h1.update keyS Tryz.underlying114 (by omega) (WideMaps.keyOf_string_mk Tryz.underlying9 hs) (plainElem_bool Tryz.underlying4 true)
  refine ⟨w', hrun, ⟨n + 1, _, h4, by simp; omega, fun t => ?_⟩, h5⟩
  by_cases e : t = s
  · subst e
    rw [atKey_put_same h1.isMap (show WideAt.IsKeyLit (.string t.data.toList) from trivial)]
    simp
  · rw [atKey_put_other (fun h => e (str_key h)), h3]
    simp [Ne.symm e]
end Go.Proofs.YtapllmniplgajaaGreatDoor
