/- How a slice of objects lies in memory. -/
import Derived.Test.YtapllmniplgajaaGreatDoorObjT
namespace Go.Proofs.YtapllmniplgajaaGreatDoor
open Go.RowKit

/-- The six cells of an object from an offset of a block on, and what its slices lead to. -/
def ObjAt (w : World) (b off : Nat) (o : ObjD) : Prop :=
  ∃ (vr vt : Value), w.cell? ⟨b, off, none⟩ = some (.string o.id) ∧ w.cell? ⟨b, off + 1, none⟩ = some (.int .i64 o.kind) ∧ w.cell? ⟨b, off + 2, none⟩ = some (.int .i64 o.x) ∧
    w.cell? ⟨b, off + 3, none⟩ = some (.int .i64 o.y) ∧ w.cell? ⟨b, off + 4, none⟩ = some vr ∧ w.cell? ⟨b, off + 5, none⟩ = some vt ∧
    StrRow w vr o.refs ∧ TagRow w vt o.tags ∧ o.id.size ≤ 140737488355328
theorem ObjAt.later {w w' : World} {b off : Nat} {o : ObjD} (h : ObjAt w b off o) (hb : Below w.heap.size w w') : ObjAt w' b off o := by
  obtain ⟨vr, vt, h0, h1, h2, h3, h4, h5, hr, ht, hz⟩ := h
  exact ⟨vr, vt, cell_later hb h0, cell_later hb h1, cell_later hb h2, cell_later hb h3, cell_later hb h4, cell_later hb h5, hr.later hb, ht.later hb, hz⟩
/-- A slice value that reads as a list of objects. -/
def ObjsIs (w : World) (v : Value) (l : List ObjD) : Prop :=
  ∃ (a : Option Addr) (cap : Nat), v = .slice a l.length cap ∧ l.length ≤ 140737488355328 ∧
    (0 < l.length → ∃ b off, a = some ⟨b, off, none⟩ ∧ ∀ (i : Nat) (o : ObjD), l[i]? = some o → ObjAt w b (off + i * 6) o)
theorem ObjsIs.later {w w' : World} {v : Value} {l : List ObjD} (h : ObjsIs w v l) (hb : Below w.heap.size w w') : ObjsIs w' v l := by
  obtain ⟨a, cap, h1, h2, h3⟩ := h
  refine ⟨a, cap, h1, h2, fun h0 => ?_⟩
  obtain ⟨b, off, e, hc⟩ := h3 h0
  exact ⟨b, off, e, fun i o hi => (hc i o hi).later hb⟩
end Go.Proofs.YtapllmniplgajaaGreatDoor
