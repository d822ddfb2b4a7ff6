/-
  DERIVED. GIVEN WITH THE SEED: THE CARDS: each row of YtmekgpdfiimofaaGreatDoorRows.lean that lists a variable, with what it lists TIED to the program's text (the seventh form; the later family's looks); each row that meets fmt, with fmt's text TOLD by the authors' own Lean function (tested against real Go, not proved from fmt's source: count such statements apart). THE CARD IS WHAT COUNTS. Prove the row's statement (the work); the ties are given (YtmekgpdfiimofaaGreatDoorTie.lean); close each card by the builder's one call (the guide's Derived/Test/ToyasCard.lean, 'card_holds'). Laid BY PROGRAM, IN A SANDBOX (cutbox-door.mjs). By AI agents, Wed Nov 11 2026. No macro, syntax, notation, axiom, sorry.
-/
import Derived.Test.YtmekgpdfiimofaaGreatDoorRows
import GoSem.ClaimSeven
namespace Go.Proofs.YtmekgpdfiimofaaGreatDoor
namespace Rows

/-- THE TIED CARD OF 'grommetlaw17.ValidStops'. -/
def validStopsCard : Claim7 := { stood := { row := validStopsRow, standIns := [], harness := (true, "e79e74d65893e2ab74bea3ea44ab804e242a5472676aa38cfecee249b087dd7a"), looks := true }, kinds := [], alts := [], laidByText := true, laidKinds := [.data, .data, .data], laidTests := true, laidLooks := .later }
def ValidStopsCardSaid : Prop := Claim7.holds Tryz.pinned (.plain (OpenSpec.ofChange validStopsSpec)) validStopsCard

/-- THE TIED CARD OF 'grommetlaw17.ValidAlone'. -/
def validAloneCard : Claim7 := { stood := { row := validAloneRow, standIns := [], harness := (true, "e79e74d65893e2ab74bea3ea44ab804e242a5472676aa38cfecee249b087dd7a"), looks := true }, kinds := [], alts := [], laidByText := true, laidKinds := [.data, .data, .data], laidTests := true, laidLooks := .later }
def ValidAloneCardSaid : Prop := Claim7.holds Tryz.pinned (.plain (OpenSpec.ofChange validAloneSpec)) validAloneCard

/-- THE SECOND FORM's CARD OF 'grommetlaw17.ValidStops'. -/
def validStopsUptoCard : Claim7 := { stood := { row := validStopsUptoRow, standIns := [], harness := (true, "e79e74d65893e2ab74bea3ea44ab804e242a5472676aa38cfecee249b087dd7a"), looks := true }, kinds := [], alts := [], laidByText := true, laidKinds := [.data, .data, .data], laidTests := true, laidLooks := .later }
def ValidStopsUptoCardSaid : Prop := Claim7.holds Tryz.pinned (.plain (OpenSpec.upto validStopsSpec)) validStopsUptoCard

/-- THE SECOND FORM's CARD OF 'grommetlaw17.ValidAlone'. -/
def validAloneUptoCard : Claim7 := { stood := { row := validAloneUptoRow, standIns := [], harness := (true, "e79e74d65893e2ab74bea3ea44ab804e242a5472676aa38cfecee249b087dd7a"), looks := true }, kinds := [], alts := [], laidByText := true, laidKinds := [.data, .data, .data], laidTests := true, laidLooks := .later }
def ValidAloneUptoCardSaid : Prop := Claim7.holds Tryz.pinned (.plain (OpenSpec.upto validAloneSpec)) validAloneUptoCard
end Rows
end Go.Proofs.YtmekgpdfiimofaaGreatDoor
