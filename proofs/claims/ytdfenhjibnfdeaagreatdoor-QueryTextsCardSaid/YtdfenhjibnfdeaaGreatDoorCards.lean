/-
  DERIVED. GIVEN WITH THE SEED: THE CARDS: each row of YtdfenhjibnfdeaaGreatDoorRows.lean that lists a variable, with what it lists TIED to the program's text (the seventh form; the later family's looks); each row that meets fmt, with fmt's text TOLD by the authors' own Lean function (tested against real Go, not proved from fmt's source: count such statements apart). THE CARD IS WHAT COUNTS. Prove the row's statement (the work); the ties are given (YtdfenhjibnfdeaaGreatDoorTie.lean); close each card by the builder's one call (the guide's Derived/Test/ToyasCard.lean, 'card_holds'). Laid BY PROGRAM, IN A SANDBOX (cutbox-door.mjs). By AI agents, Wed Nov 11 2026. No macro, syntax, notation, axiom, sorry.
-/
import Derived.Test.YtdfenhjibnfdeaaGreatDoorRows
import GoSem.ClaimSeven
namespace Go.Proofs.YtdfenhjibnfdeaaGreatDoor
namespace Rows

/-- THE TIED CARD OF 'planispherelaw36.QueryTexts'. -/
def queryTextsCard : Claim7 := { stood := { row := queryTextsRow, standIns := [], harness := (true, "596843fac8ca006d28dc07ae4466e83a2eadbedc2425ffa65cc7ba0d3aafeadb"), looks := true }, kinds := [], alts := [], laidByText := true, laidKinds := [.data, .data, .data, .sentinel, .sentinel], laidTests := true, laidLooks := .later }
def QueryTextsCardSaid : Prop := Claim7.holds Tryz.pinned (.plain (OpenSpec.ofChange queryTextsSpec)) queryTextsCard

/-- THE TIED CARD OF 'planispherelaw36.QueryGaps'. -/
def queryGapsCard : Claim7 := { stood := { row := queryGapsRow, standIns := [], harness := (true, "596843fac8ca006d28dc07ae4466e83a2eadbedc2425ffa65cc7ba0d3aafeadb"), looks := true }, kinds := [], alts := [], laidByText := true, laidKinds := [.data, .data, .data, .sentinel, .sentinel], laidTests := true, laidLooks := .later }
def QueryGapsCardSaid : Prop := Claim7.holds Tryz.pinned (.plain (OpenSpec.ofChange queryGapsSpec)) queryGapsCard

/-- THE TIED CARD OF 'planispherelaw36.QueryConditions'. -/
def queryConditionsCard : Claim7 := { stood := { row := queryConditionsRow, standIns := [], harness := (true, "596843fac8ca006d28dc07ae4466e83a2eadbedc2425ffa65cc7ba0d3aafeadb"), looks := true }, kinds := [], alts := [], laidByText := true, laidKinds := [.data, .data, .data, .sentinel, .sentinel], laidTests := true, laidLooks := .later }
def QueryConditionsCardSaid : Prop := Claim7.holds Tryz.pinned (.plain (OpenSpec.ofChange queryConditionsSpec)) queryConditionsCard

/-- THE TIED CARD OF 'planispherelaw36.QueryTags'. -/
def queryTagsCard : Claim7 := { stood := { row := queryTagsRow, standIns := [], harness := (true, "596843fac8ca006d28dc07ae4466e83a2eadbedc2425ffa65cc7ba0d3aafeadb"), looks := true }, kinds := [], alts := [], laidByText := true, laidKinds := [.data, .data, .data, .sentinel, .sentinel], laidTests := true, laidLooks := .later }
def QueryTagsCardSaid : Prop := Claim7.holds Tryz.pinned (.plain (OpenSpec.ofChange queryTagsSpec)) queryTagsCard

/-- THE TIED CARD OF 'planispherelaw36.QueryTypes'. -/
def queryTypesCard : Claim7 := { stood := { row := queryTypesRow, standIns := [], harness := (true, "596843fac8ca006d28dc07ae4466e83a2eadbedc2425ffa65cc7ba0d3aafeadb"), looks := true }, kinds := [], alts := [], laidByText := true, laidKinds := [.data, .data, .data, .sentinel, .sentinel], laidTests := true, laidLooks := .later }
def QueryTypesCardSaid : Prop := Claim7.holds Tryz.pinned (.plain (OpenSpec.ofChange queryTypesSpec)) queryTypesCard

/-- THE TIED CARD OF 'planispherelaw36.QueryPrefixes'. -/
def queryPrefixesCard : Claim7 := { stood := { row := queryPrefixesRow, standIns := [], harness := (true, "596843fac8ca006d28dc07ae4466e83a2eadbedc2425ffa65cc7ba0d3aafeadb"), looks := true }, kinds := [], alts := [], laidByText := true, laidKinds := [.data, .data, .data, .sentinel, .sentinel], laidTests := true, laidLooks := .later }
def QueryPrefixesCardSaid : Prop := Claim7.holds Tryz.pinned (.plain (OpenSpec.ofChange queryPrefixesSpec)) queryPrefixesCard

/-- THE SECOND FORM's CARD OF 'planispherelaw36.QueryTexts'. -/
def queryTextsUptoCard : Claim7 := { stood := { row := queryTextsUptoRow, standIns := [], harness := (true, "596843fac8ca006d28dc07ae4466e83a2eadbedc2425ffa65cc7ba0d3aafeadb"), looks := true }, kinds := [], alts := [], laidByText := true, laidKinds := [.data, .data, .data, .sentinel, .sentinel], laidTests := true, laidLooks := .later }
def QueryTextsUptoCardSaid : Prop := Claim7.holds Tryz.pinned (.plain (OpenSpec.upto queryTextsSpec)) queryTextsUptoCard

/-- THE SECOND FORM's CARD OF 'planispherelaw36.QueryGaps'. -/
def queryGapsUptoCard : Claim7 := { stood := { row := queryGapsUptoRow, standIns := [], harness := (true, "596843fac8ca006d28dc07ae4466e83a2eadbedc2425ffa65cc7ba0d3aafeadb"), looks := true }, kinds := [], alts := [], laidByText := true, laidKinds := [.data, .data, .data, .sentinel, .sentinel], laidTests := true, laidLooks := .later }
def QueryGapsUptoCardSaid : Prop := Claim7.holds Tryz.pinned (.plain (OpenSpec.upto queryGapsSpec)) queryGapsUptoCard

/-- THE SECOND FORM's CARD OF 'planispherelaw36.QueryConditions'. -/
def queryConditionsUptoCard : Claim7 := { stood := { row := queryConditionsUptoRow, standIns := [], harness := (true, "596843fac8ca006d28dc07ae4466e83a2eadbedc2425ffa65cc7ba0d3aafeadb"), looks := true }, kinds := [], alts := [], laidByText := true, laidKinds := [.data, .data, .data, .sentinel, .sentinel], laidTests := true, laidLooks := .later }
def QueryConditionsUptoCardSaid : Prop := Claim7.holds Tryz.pinned (.plain (OpenSpec.upto queryConditionsSpec)) queryConditionsUptoCard

/-- THE SECOND FORM's CARD OF 'planispherelaw36.QueryTags'. -/
def queryTagsUptoCard : Claim7 := { stood := { row := queryTagsUptoRow, standIns := [], harness := (true, "596843fac8ca006d28dc07ae4466e83a2eadbedc2425ffa65cc7ba0d3aafeadb"), looks := true }, kinds := [], alts := [], laidByText := true, laidKinds := [.data, .data, .data, .sentinel, .sentinel], laidTests := true, laidLooks := .later }
def QueryTagsUptoCardSaid : Prop := Claim7.holds Tryz.pinned (.plain (OpenSpec.upto queryTagsSpec)) queryTagsUptoCard

/-- THE SECOND FORM's CARD OF 'planispherelaw36.QueryTypes'. -/
def queryTypesUptoCard : Claim7 := { stood := { row := queryTypesUptoRow, standIns := [], harness := (true, "596843fac8ca006d28dc07ae4466e83a2eadbedc2425ffa65cc7ba0d3aafeadb"), looks := true }, kinds := [], alts := [], laidByText := true, laidKinds := [.data, .data, .data, .sentinel, .sentinel], laidTests := true, laidLooks := .later }
def QueryTypesUptoCardSaid : Prop := Claim7.holds Tryz.pinned (.plain (OpenSpec.upto queryTypesSpec)) queryTypesUptoCard

/-- THE SECOND FORM's CARD OF 'planispherelaw36.QueryPrefixes'. -/
def queryPrefixesUptoCard : Claim7 := { stood := { row := queryPrefixesUptoRow, standIns := [], harness := (true, "596843fac8ca006d28dc07ae4466e83a2eadbedc2425ffa65cc7ba0d3aafeadb"), looks := true }, kinds := [], alts := [], laidByText := true, laidKinds := [.data, .data, .data, .sentinel, .sentinel], laidTests := true, laidLooks := .later }
def QueryPrefixesUptoCardSaid : Prop := Claim7.holds Tryz.pinned (.plain (OpenSpec.upto queryPrefixesSpec)) queryPrefixesUptoCard
end Rows
end Go.Proofs.YtdfenhjibnfdeaaGreatDoor
