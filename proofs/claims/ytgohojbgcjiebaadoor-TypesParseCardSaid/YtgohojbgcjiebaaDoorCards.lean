/-
  DERIVED. GIVEN WITH THE SEED: THE CARDS: each row of YtgohojbgcjiebaaDoorRows.lean that lists a variable, with what it lists TIED to the program's text (the seventh form; the later family's looks); each row that meets fmt, with fmt's text TOLD by the authors' own Lean function (tested against real Go, not proved from fmt's source: count such statements apart). THE CARD IS WHAT COUNTS. Prove the row's statement (the work); the ties are given (YtgohojbgcjiebaaDoorTie.lean); close each card by the builder's one call (the guide's Derived/Test/ToyasCard.lean, 'card_holds'). Laid BY PROGRAM, IN A SANDBOX (cutbox-door.mjs). By AI agents, Wed Nov 11 2026. No macro, syntax, notation, axiom, sorry.
-/
import Derived.Test.YtgohojbgcjiebaaDoorRows
import GoSem.ClaimSeven
namespace Go.Proofs.YtgohojbgcjiebaaDoor
namespace Rows

/-- THE TIED CARD OF 'grommetlaw09.TypesNames'. -/
def typesNamesCard : Claim7 := { stood := { row := typesNamesRow, standIns := [], harness := (true, "c0d1a773781d3588ee6671ebaa3d4669718ea3852469a49b97eac41676ca6ed5"), looks := false }, kinds := [], alts := [], laidByText := true, laidKinds := [.data, .pinned], laidTests := true, laidLooks := .later }
def TypesNamesCardSaid : Prop := Claim7.holds Tryd.pinned (.plain (OpenSpec.ofChange typesNamesSpec)) typesNamesCard

/-- THE TIED CARD OF 'grommetlaw09.TypesPrint'. -/
def typesPrintCard : Claim7 := { stood := { row := typesPrintRow, standIns := [], harness := (true, "c0d1a773781d3588ee6671ebaa3d4669718ea3852469a49b97eac41676ca6ed5"), looks := false }, kinds := [], alts := [], laidByText := true, laidKinds := [.data, .pinned], laidTests := true, laidLooks := .later }
def TypesPrintCardSaid : Prop := Claim7.holds Tryd.pinned (.plain (OpenSpec.ofChange typesPrintSpec)) typesPrintCard

/-- THE TIED CARD OF 'grommetlaw09.TypesParse'. -/
def typesParseCard : Claim7 := { stood := { row := typesParseRow, standIns := [], harness := (true, "c0d1a773781d3588ee6671ebaa3d4669718ea3852469a49b97eac41676ca6ed5"), looks := false }, kinds := [], alts := [], laidByText := true, laidKinds := [.data, .pinned], laidTests := true, laidLooks := .later }
def TypesParseCardSaid : Prop := Claim7.holds Tryd.pinned (.plain (OpenSpec.ofChange typesParseSpec)) typesParseCard

/-- THE TIED CARD OF 'grommetlaw09.TypesApart'. -/
def typesApartCard : Claim7 := { stood := { row := typesApartRow, standIns := [], harness := (true, "c0d1a773781d3588ee6671ebaa3d4669718ea3852469a49b97eac41676ca6ed5"), looks := false }, kinds := [], alts := [], laidByText := true, laidKinds := [.data, .pinned], laidTests := true, laidLooks := .later }
def TypesApartCardSaid : Prop := Claim7.holds Tryd.pinned (.plain (OpenSpec.ofChange typesApartSpec)) typesApartCard

/-- THE SECOND FORM's CARD OF 'grommetlaw09.TypesNames'. -/
def typesNamesUptoCard : Claim7 := { stood := { row := typesNamesUptoRow, standIns := [], harness := (true, "c0d1a773781d3588ee6671ebaa3d4669718ea3852469a49b97eac41676ca6ed5"), looks := false }, kinds := [], alts := [], laidByText := true, laidKinds := [.data, .pinned], laidTests := true, laidLooks := .later }
def TypesNamesUptoCardSaid : Prop := Claim7.holds Tryd.pinned (.plain (OpenSpec.upto typesNamesSpec)) typesNamesUptoCard

/-- THE SECOND FORM's CARD OF 'grommetlaw09.TypesPrint'. -/
def typesPrintUptoCard : Claim7 := { stood := { row := typesPrintUptoRow, standIns := [], harness := (true, "c0d1a773781d3588ee6671ebaa3d4669718ea3852469a49b97eac41676ca6ed5"), looks := false }, kinds := [], alts := [], laidByText := true, laidKinds := [.data, .pinned], laidTests := true, laidLooks := .later }
def TypesPrintUptoCardSaid : Prop := Claim7.holds Tryd.pinned (.plain (OpenSpec.upto typesPrintSpec)) typesPrintUptoCard

/-- THE SECOND FORM's CARD OF 'grommetlaw09.TypesParse'. -/
def typesParseUptoCard : Claim7 := { stood := { row := typesParseUptoRow, standIns := [], harness := (true, "c0d1a773781d3588ee6671ebaa3d4669718ea3852469a49b97eac41676ca6ed5"), looks := false }, kinds := [], alts := [], laidByText := true, laidKinds := [.data, .pinned], laidTests := true, laidLooks := .later }
def TypesParseUptoCardSaid : Prop := Claim7.holds Tryd.pinned (.plain (OpenSpec.upto typesParseSpec)) typesParseUptoCard

/-- THE SECOND FORM's CARD OF 'grommetlaw09.TypesApart'. -/
def typesApartUptoCard : Claim7 := { stood := { row := typesApartUptoRow, standIns := [], harness := (true, "c0d1a773781d3588ee6671ebaa3d4669718ea3852469a49b97eac41676ca6ed5"), looks := false }, kinds := [], alts := [], laidByText := true, laidKinds := [.data, .pinned], laidTests := true, laidLooks := .later }
def TypesApartUptoCardSaid : Prop := Claim7.holds Tryd.pinned (.plain (OpenSpec.upto typesApartSpec)) typesApartUptoCard
end Rows
end Go.Proofs.YtgohojbgcjiebaaDoor
