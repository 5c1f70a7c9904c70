/- How a slice of objects lies in memory. A region that draws its order, whose own operations only read, and whose callees leave all that stood as it was: walked once, in the text's order. -/
import Derived.Test.YtbkomdinchiffaaGreatObjTW
import Derived.Test.YtbkomdinchiffaaGreatObjSVX
import Derived.Test.YtbkomdinchiffaaGreatObjRK
import Derived.Deep.Quiet
import Derived.Deep.QuietTactic
namespace Go.Proofs.YtbkomdinchiffaaGreat
open Go.RowKit

/-- The six cells of an object from an offset of a block on, and what its slices lead to. -/
def ObjAt (w : World) (b off : Nat) (o : ObjD) : Prop :=
  ∃ (vr vt : Value), w.cell? ⟨b, off, none⟩ = some (.string o.id) ∧ w.cell? ⟨b, off + 1, none⟩ = some (.int .i64 o.kind) ∧ w.cell? ⟨b, off + 2, none⟩ = some (.int .i64 o.x) ∧
    w.cell? ⟨b, off + 3, none⟩ = some (.int .i64 o.y) ∧ w.cell? ⟨b, off + 4, none⟩ = some vr ∧ w.cell? ⟨b, off + 5, none⟩ = some vt ∧
    StrRow w vr o.refs ∧ TagRow w vt o.tags ∧ o.id.size ≤ 140737488355328
theorem ObjAt.later {w w' : World} {b off : Nat} {o : ObjD} (h : ObjAt w b off o) (hb : Below w.heap.size w w') : ObjAt w' b off o := by
  obtain ⟨vr, vt, h0, h1, h2, h3, h4, h5, hr, ht, hz⟩ := h
  exact ⟨vr, vt, cell_later hb h0, cell_later hb h1, cell_later hb h2, cell_later hb h3, cell_later hb h4, cell_later hb h5, hr.later hb, ht.later hb, hz⟩
/-- A slice value that reads as a list of objects. -/
def ObjsIs (w : World) (v : Value) (l : List ObjD) : Prop :=
  ∃ (a : Option Addr) (cap : Nat), v = .slice a l.length cap ∧ l.length ≤ 140737488355328 ∧
    (0 < l.length → ∃ b off, a = some ⟨b, off, none⟩ ∧ ∀ (i : Nat) (o : ObjD), l[i]? = some o → ObjAt w b (off + i * 6) o)
theorem ObjsIs.later {w w' : World} {v : Value} {l : List ObjD} (h : ObjsIs w v l) (hb : Below w.heap.size w w') : ObjsIs w' v l := by
  obtain ⟨a, cap, h1, h2, h3⟩ := h
  refine ⟨a, cap, h1, h2, fun h0 => ?_⟩
  obtain ⟨b, off, e, hc⟩ := h3 h0
  exact ⟨b, off, e, fun i o hi => (hc i o hi).later hb⟩
end Go.Proofs.YtbkomdinchiffaaGreat

namespace Go.Proofs.YtbkomdinchiffaaGreat
open Go.RowKit

/-- A world in which all that stood in w stands unturned. -/
structure BelowBy (w : World) where
  at' : World
  below : Below w.heap.size w at'
instance (w : World) : Inhabited (BelowBy w) := ⟨⟨w, Below.refl _ _⟩⟩
theorem wp_region_quiet_below {P : Program} {id : Nat} {Q : Exit → Act → World → Prop} {a : Act} {w : World} {l : List Oper} (hm : P.follows .mixedOrders = true) (hB : Region.lexB .any l.toArray = true)
    (h : wpQuiet P l.toArray (fun w' => ∃ p : BelowBy w, w' = p.at') (fun a' => ∀ w', (∃ p : BelowBy w, w' = p.at') → Q .normal a' w') l a) : (Code.region id l.toArray true).wp P Q a w :=
  wp_region_quiet (C := fun w' => ∃ p : BelowBy w, w' = p.at') hm hB ⟨⟨w.drew, (Below.refl _ w).drew⟩, rfl⟩ (by simpa using h)
theorem cell_belowBy {w : World} {a : Addr} {v : Value} (h : w.cell? a = some v) (p : BelowBy w) : p.at'.cell? a = some v := cell_later p.below h
theorem calls_belowBy {P : Program} {f : FuncId} {args : Array Value} {w : World} {p : BelowBy w} {v : Value}
    (h : Calls P f args p.at' fun e w' => e = .returned v ∧ Below p.at'.heap.size p.at' w') : Calls P f args p.at' fun e w'' => e = .returned v ∧ ∃ q : BelowBy w, w'' = q.at' :=
  h.mono fun _ w' ⟨he, hb⟩ => ⟨he, ⟨w', below_step p.below (Nat.le_refl _) hb⟩, rfl⟩
end Go.Proofs.YtbkomdinchiffaaGreat
