/-
  DERIVED. GIVEN WITH THE SEED: THE CARDS: each row of YtdgeabkanobldaaDoorRows.lean that lists a variable, with what it lists TIED to the program's text (the seventh form; the later family's looks); each row that meets fmt, with fmt's text TOLD by the authors' own Lean function (tested against real Go, not proved from fmt's source: count such statements apart). THE CARD IS WHAT COUNTS. Prove the row's statement (the work); the ties are given (YtdgeabkanobldaaDoorTie.lean); close each card by the builder's one call (the guide's Derived/Test/ToyasCard.lean, 'card_holds'). Laid BY PROGRAM, IN A SANDBOX (cutbox-door.mjs). By AI agents, Wed Nov 11 2026. No macro, syntax, notation, axiom, sorry.
-/
import Derived.Test.YtdgeabkanobldaaDoorRows
import GoSem.ClaimSeven
namespace Go.Proofs.YtdgeabkanobldaaDoor
namespace Rows

/-- THE TIED CARD OF 'grommetlaw06.ConvParses'. -/
def convParsesCard : Claim7 := { stood := { row := convParsesRow, standIns := [], harness := (true, "7bf69857080b43f7583b9e57233692fbd879545f790604f480acb9c32689ef06"), looks := true }, kinds := [], alts := [], laidByText := true, laidKinds := [.data, .data, .data, .sentinel, .sentinel], laidTests := true, laidLooks := .later }
def ConvParsesCardSaid : Prop := Claim7.holds Tryd.pinned (.plain (OpenSpec.ofChange convParsesSpec)) convParsesCard

/-- THE TIED CARD OF 'grommetlaw06.ConvPrints'. -/
def convPrintsCard : Claim7 := { stood := { row := convPrintsRow, standIns := [], harness := (true, "7bf69857080b43f7583b9e57233692fbd879545f790604f480acb9c32689ef06"), looks := true }, kinds := [], alts := [], laidByText := true, laidKinds := [.data, .data, .data, .sentinel, .sentinel], laidTests := true, laidLooks := .later }
def ConvPrintsCardSaid : Prop := Claim7.holds Tryd.pinned (.plain (OpenSpec.ofChange convPrintsSpec)) convPrintsCard

/-- THE SECOND FORM's CARD OF 'grommetlaw06.ConvParses'. -/
def convParsesUptoCard : Claim7 := { stood := { row := convParsesUptoRow, standIns := [], harness := (true, "7bf69857080b43f7583b9e57233692fbd879545f790604f480acb9c32689ef06"), looks := true }, kinds := [], alts := [], laidByText := true, laidKinds := [.data, .data, .data, .sentinel, .sentinel], laidTests := true, laidLooks := .later }
def ConvParsesUptoCardSaid : Prop := Claim7.holds Tryd.pinned (.plain (OpenSpec.upto convParsesSpec)) convParsesUptoCard

/-- THE SECOND FORM's CARD OF 'grommetlaw06.ConvPrints'. -/
def convPrintsUptoCard : Claim7 := { stood := { row := convPrintsUptoRow, standIns := [], harness := (true, "7bf69857080b43f7583b9e57233692fbd879545f790604f480acb9c32689ef06"), looks := true }, kinds := [], alts := [], laidByText := true, laidKinds := [.data, .data, .data, .sentinel, .sentinel], laidTests := true, laidLooks := .later }
def ConvPrintsUptoCardSaid : Prop := Claim7.holds Tryd.pinned (.plain (OpenSpec.upto convPrintsSpec)) convPrintsUptoCard
end Rows
end Go.Proofs.YtdgeabkanobldaaDoor
