/-
  DERIVED. GIVEN WITH THE SEED: THE CARDS: each row of YthpnfdbfdbjpcaaDoorRows.lean that lists a variable, with what it lists TIED to the program's text (the seventh form; the later family's looks); each row that meets fmt, with fmt's text TOLD by the authors' own Lean function (tested against real Go, not proved from fmt's source: count such statements apart). THE CARD IS WHAT COUNTS. Prove the row's statement (the work); the ties are given (YthpnfdbfdbjpcaaDoorTie.lean); close each card by the builder's one call (the guide's Derived/Test/ToyasCard.lean, 'card_holds'). Laid BY PROGRAM, IN A SANDBOX (cutbox-door.mjs). By AI agents, Wed Nov 11 2026. No macro, syntax, notation, axiom, sorry.
-/
import Derived.Test.YthpnfdbfdbjpcaaDoorRows
import GoSem.ClaimSeven
namespace Go.Proofs.YthpnfdbfdbjpcaaDoor
namespace Rows

/-- THE TIED CARD OF 'grommetlaw09.TypesLimits'. -/
def typesLimitsCard : Claim7 := { stood := { row := typesLimitsRow, standIns := [], harness := (true, "877930b5ce6a6877a20d52040ada579098f69fb37a11336ca887ac9ccc644ffc"), looks := true }, kinds := [], alts := [], laidByText := true, laidKinds := [.data, .data, .data, .data, .sentinel, .sentinel, .pinned], laidTests := true, laidLooks := .later }
def TypesLimitsCardSaid : Prop := Claim7.holds Tryd.pinned (.plain (OpenSpec.ofChange typesLimitsSpec)) typesLimitsCard

/-- THE SECOND FORM's CARD OF 'grommetlaw09.TypesLimits'. -/
def typesLimitsUptoCard : Claim7 := { stood := { row := typesLimitsUptoRow, standIns := [], harness := (true, "877930b5ce6a6877a20d52040ada579098f69fb37a11336ca887ac9ccc644ffc"), looks := true }, kinds := [], alts := [], laidByText := true, laidKinds := [.data, .data, .data, .data, .sentinel, .sentinel, .pinned], laidTests := true, laidLooks := .later }
def TypesLimitsUptoCardSaid : Prop := Claim7.holds Tryd.pinned (.plain (OpenSpec.upto typesLimitsSpec)) typesLimitsUptoCard
end Rows
end Go.Proofs.YthpnfdbfdbjpcaaDoor
