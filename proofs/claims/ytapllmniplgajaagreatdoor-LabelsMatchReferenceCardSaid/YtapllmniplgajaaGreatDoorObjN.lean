/- A region that draws its order, whose own operations only read, and whose callees leave all that stood as it was: walked once, in the text's order. -/
import Derived.Test.YtapllmniplgajaaGreatDoorObjSVX
import Derived.Test.YtapllmniplgajaaGreatDoorObjK
import Derived.Deep.Quiet
import Derived.Deep.QuietTactic
namespace Go.Proofs.YtapllmniplgajaaGreatDoor
open Go.RowKit

/-- A world in which all that stood in w stands unturned. -/
structure BelowBy (w : World) where
  at' : World
  below : Below w.heap.size w at'
instance (w : World) : Inhabited (BelowBy w) := ⟨⟨w, Below.refl _ _⟩⟩
theorem wp_region_quiet_below {P : Program} {id : Nat} {Q : Exit → Act → World → Prop} {a : Act} {w : World} {l : List Oper} (hm : P.follows .mixedOrders = true) (hB : Region.lexB .any l.toArray = true)
    (h : wpQuiet P l.toArray (fun w' => ∃ p : BelowBy w, w' = p.at') (fun a' => ∀ w', (∃ p : BelowBy w, w' = p.at') → Q .normal a' w') l a) : (Code.region id l.toArray true).wp P Q a w :=
  wp_region_quiet (C := fun w' => ∃ p : BelowBy w, w' = p.at') hm hB ⟨⟨w.drew, (Below.refl _ w).drew⟩, rfl⟩ (by simpa using h)
theorem cell_belowBy {w : World} {a : Addr} {v : Value} (h : w.cell? a = some v) (p : BelowBy w) : p.at'.cell? a = some v := cell_later p.below h
theorem calls_belowBy {P : Program} {f : FuncId} {args : Array Value} {w : World} {p : BelowBy w} {v : Value}
    (h : Calls P f args p.at' fun e w' => e = .returned v ∧ Below p.at'.heap.size p.at' w') : Calls P f args p.at' fun e w'' => e = .returned v ∧ ∃ q : BelowBy w, w'' = q.at' :=
  h.mono fun _ w' ⟨he, hb⟩ => ⟨he, ⟨w', below_step p.below (Nat.le_refl _) hb⟩, rfl⟩
end Go.Proofs.YtapllmniplgajaaGreatDoor
