/-
  DERIVED. GIVEN WITH THE SEED: THE CARDS: each row of YtnilofeakdibhaaDoorRows.lean that lists a variable, with what it lists TIED to the program's text (the seventh form; the later family's looks); each row that meets fmt, with fmt's text TOLD by the authors' own Lean function (tested against real Go, not proved from fmt's source: count such statements apart). THE CARD IS WHAT COUNTS. Prove the row's statement (the work); the ties are given (YtnilofeakdibhaaDoorTie.lean); close each card by the builder's one call (the guide's Derived/Test/ToyasCard.lean, 'card_holds'). Laid BY PROGRAM, IN A SANDBOX (cutbox-door.mjs). By AI agents, Wed Nov 11 2026. No macro, syntax, notation, axiom, sorry.
-/
import Derived.Test.YtnilofeakdibhaaDoorRows
import GoSem.ClaimSeven
namespace Go.Proofs.YtnilofeakdibhaaDoor
namespace Rows

/-- THE TIED CARD OF 'planispherelaw07.GridTexts'. -/
def gridTextsCard : Claim7 := { stood := { row := gridTextsRow, standIns := [], harness := (true, "38996716c2e1029a6e58ddc8eee0172ca2e294a9fbb4f074a8a4454bcd8f121c"), looks := true }, kinds := [], alts := [], laidByText := true, laidKinds := [.data, .data, .data, .data, .sentinel, .sentinel, .pinned], laidTests := true, laidLooks := .later }
def GridTextsCardSaid : Prop := Claim7.holds Tryd.pinned (.plain (OpenSpec.ofChange gridTextsSpec)) gridTextsCard

/-- THE TIED CARD OF 'planispherelaw07.GridOf'. -/
def gridOfCard : Claim7 := { stood := { row := gridOfRow, standIns := [], harness := (true, "38996716c2e1029a6e58ddc8eee0172ca2e294a9fbb4f074a8a4454bcd8f121c"), looks := true }, kinds := [], alts := [], laidByText := true, laidKinds := [.data, .data, .data, .data, .sentinel, .sentinel, .pinned], laidTests := true, laidLooks := .later }
def GridOfCardSaid : Prop := Claim7.holds Tryd.pinned (.plain (OpenSpec.ofChange gridOfSpec)) gridOfCard

/-- THE TIED CARD OF 'planispherelaw07.GridPixels'. -/
def gridPixelsCard : Claim7 := { stood := { row := gridPixelsRow, standIns := [], harness := (true, "38996716c2e1029a6e58ddc8eee0172ca2e294a9fbb4f074a8a4454bcd8f121c"), looks := true }, kinds := [], alts := [], laidByText := true, laidKinds := [.data, .data, .data, .data, .sentinel, .sentinel, .pinned], laidTests := true, laidLooks := .later }
def GridPixelsCardSaid : Prop := Claim7.holds Tryd.pinned (.plain (OpenSpec.ofChange gridPixelsSpec)) gridPixelsCard

/-- THE TIED CARD OF 'planispherelaw07.GridCovers'. -/
def gridCoversCard : Claim7 := { stood := { row := gridCoversRow, standIns := [], harness := (true, "38996716c2e1029a6e58ddc8eee0172ca2e294a9fbb4f074a8a4454bcd8f121c"), looks := true }, kinds := [], alts := [], laidByText := true, laidKinds := [.data, .data, .data, .data, .sentinel, .sentinel, .pinned], laidTests := true, laidLooks := .later }
def GridCoversCardSaid : Prop := Claim7.holds Tryd.pinned (.plain (OpenSpec.ofChange gridCoversSpec)) gridCoversCard

/-- THE TIED CARD OF 'planispherelaw07.GridKids'. -/
def gridKidsCard : Claim7 := { stood := { row := gridKidsRow, standIns := [], harness := (true, "38996716c2e1029a6e58ddc8eee0172ca2e294a9fbb4f074a8a4454bcd8f121c"), looks := true }, kinds := [], alts := [], laidByText := true, laidKinds := [.data, .data, .data, .data, .sentinel, .sentinel, .pinned], laidTests := true, laidLooks := .later }
def GridKidsCardSaid : Prop := Claim7.holds Tryd.pinned (.plain (OpenSpec.ofChange gridKidsSpec)) gridKidsCard

/-- THE TIED CARD OF 'planispherelaw07.GridMatchesReference'. -/
def gridMatchesReferenceCard : Claim7 := { stood := { row := gridMatchesReferenceRow, standIns := [], harness := (true, "38996716c2e1029a6e58ddc8eee0172ca2e294a9fbb4f074a8a4454bcd8f121c"), looks := true }, kinds := [], alts := [], laidByText := true, laidKinds := [.data, .data, .data, .data, .sentinel, .sentinel, .pinned], laidTests := true, laidLooks := .later }
def GridMatchesReferenceCardSaid : Prop := Claim7.holds Tryd.pinned (.plain (OpenSpec.ofChange gridMatchesReferenceSpec)) gridMatchesReferenceCard

/-- THE SECOND FORM's CARD OF 'planispherelaw07.GridTexts'. -/
def gridTextsUptoCard : Claim7 := { stood := { row := gridTextsUptoRow, standIns := [], harness := (true, "38996716c2e1029a6e58ddc8eee0172ca2e294a9fbb4f074a8a4454bcd8f121c"), looks := true }, kinds := [], alts := [], laidByText := true, laidKinds := [.data, .data, .data, .data, .sentinel, .sentinel, .pinned], laidTests := true, laidLooks := .later }
def GridTextsUptoCardSaid : Prop := Claim7.holds Tryd.pinned (.plain (OpenSpec.upto gridTextsSpec)) gridTextsUptoCard

/-- THE SECOND FORM's CARD OF 'planispherelaw07.GridOf'. -/
def gridOfUptoCard : Claim7 := { stood := { row := gridOfUptoRow, standIns := [], harness := (true, "38996716c2e1029a6e58ddc8eee0172ca2e294a9fbb4f074a8a4454bcd8f121c"), looks := true }, kinds := [], alts := [], laidByText := true, laidKinds := [.data, .data, .data, .data, .sentinel, .sentinel, .pinned], laidTests := true, laidLooks := .later }
def GridOfUptoCardSaid : Prop := Claim7.holds Tryd.pinned (.plain (OpenSpec.upto gridOfSpec)) gridOfUptoCard

/-- THE SECOND FORM's CARD OF 'planispherelaw07.GridPixels'. -/
def gridPixelsUptoCard : Claim7 := { stood := { row := gridPixelsUptoRow, standIns := [], harness := (true, "38996716c2e1029a6e58ddc8eee0172ca2e294a9fbb4f074a8a4454bcd8f121c"), looks := true }, kinds := [], alts := [], laidByText := true, laidKinds := [.data, .data, .data, .data, .sentinel, .sentinel, .pinned], laidTests := true, laidLooks := .later }
def GridPixelsUptoCardSaid : Prop := Claim7.holds Tryd.pinned (.plain (OpenSpec.upto gridPixelsSpec)) gridPixelsUptoCard

/-- THE SECOND FORM's CARD OF 'planispherelaw07.GridCovers'. -/
def gridCoversUptoCard : Claim7 := { stood := { row := gridCoversUptoRow, standIns := [], harness := (true, "38996716c2e1029a6e58ddc8eee0172ca2e294a9fbb4f074a8a4454bcd8f121c"), looks := true }, kinds := [], alts := [], laidByText := true, laidKinds := [.data, .data, .data, .data, .sentinel, .sentinel, .pinned], laidTests := true, laidLooks := .later }
def GridCoversUptoCardSaid : Prop := Claim7.holds Tryd.pinned (.plain (OpenSpec.upto gridCoversSpec)) gridCoversUptoCard

/-- THE SECOND FORM's CARD OF 'planispherelaw07.GridKids'. -/
def gridKidsUptoCard : Claim7 := { stood := { row := gridKidsUptoRow, standIns := [], harness := (true, "38996716c2e1029a6e58ddc8eee0172ca2e294a9fbb4f074a8a4454bcd8f121c"), looks := true }, kinds := [], alts := [], laidByText := true, laidKinds := [.data, .data, .data, .data, .sentinel, .sentinel, .pinned], laidTests := true, laidLooks := .later }
def GridKidsUptoCardSaid : Prop := Claim7.holds Tryd.pinned (.plain (OpenSpec.upto gridKidsSpec)) gridKidsUptoCard

/-- THE SECOND FORM's CARD OF 'planispherelaw07.GridMatchesReference'. -/
def gridMatchesReferenceUptoCard : Claim7 := { stood := { row := gridMatchesReferenceUptoRow, standIns := [], harness := (true, "38996716c2e1029a6e58ddc8eee0172ca2e294a9fbb4f074a8a4454bcd8f121c"), looks := true }, kinds := [], alts := [], laidByText := true, laidKinds := [.data, .data, .data, .data, .sentinel, .sentinel, .pinned], laidTests := true, laidLooks := .later }
def GridMatchesReferenceUptoCardSaid : Prop := Claim7.holds Tryd.pinned (.plain (OpenSpec.upto gridMatchesReferenceSpec)) gridMatchesReferenceUptoCard
end Rows
end Go.Proofs.YtnilofeakdibhaaDoor
