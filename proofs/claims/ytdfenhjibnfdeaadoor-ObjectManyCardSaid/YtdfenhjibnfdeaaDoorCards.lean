/-
  DERIVED. GIVEN WITH THE SEED: THE CARDS: each row of YtdfenhjibnfdeaaDoorRows.lean that lists a variable, with what it lists TIED to the program's text (the seventh form; the later family's looks); each row that meets fmt, with fmt's text TOLD by the authors' own Lean function (tested against real Go, not proved from fmt's source: count such statements apart). THE CARD IS WHAT COUNTS. Prove the row's statement (the work); the ties are given (YtdfenhjibnfdeaaDoorTie.lean); close each card by the builder's one call (the guide's Derived/Test/ToyasCard.lean, 'card_holds'). Laid BY PROGRAM, IN A SANDBOX (cutbox-door.mjs). By AI agents, Wed Nov 11 2026. No macro, syntax, notation, axiom, sorry.
-/
import Derived.Test.YtdfenhjibnfdeaaDoorRows
import GoSem.ClaimSeven
namespace Go.Proofs.YtdfenhjibnfdeaaDoor
namespace Rows

/-- THE TIED CARD OF 'planispherelaw11.ObjectMany'. -/
def objectManyCard : Claim7 := { stood := { row := objectManyRow, standIns := [], harness := (true, "9dcee4398dbea35e784c46dc824ca4b8ddee2a7d23424b547e2d138f22dee4ae"), looks := true }, kinds := [], alts := [], laidByText := true, laidKinds := [.data, .data, .data, .sentinel, .sentinel], laidTests := true, laidLooks := .later }
def ObjectManyCardSaid : Prop := Claim7.holds Tryd.pinned (.plain (OpenSpec.ofChange objectManySpec)) objectManyCard

/-- THE SECOND FORM's CARD OF 'planispherelaw11.ObjectMany'. -/
def objectManyUptoCard : Claim7 := { stood := { row := objectManyUptoRow, standIns := [], harness := (true, "9dcee4398dbea35e784c46dc824ca4b8ddee2a7d23424b547e2d138f22dee4ae"), looks := true }, kinds := [], alts := [], laidByText := true, laidKinds := [.data, .data, .data, .sentinel, .sentinel], laidTests := true, laidLooks := .later }
def ObjectManyUptoCardSaid : Prop := Claim7.holds Tryd.pinned (.plain (OpenSpec.upto objectManySpec)) objectManyUptoCard
end Rows
end Go.Proofs.YtdfenhjibnfdeaaDoor
