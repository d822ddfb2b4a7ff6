/-
  DERIVED. GIVEN WITH THE SEED: THE CARDS: each row of YtnfaaiifbiobiaaDoorRows.lean that lists a variable, with what it lists TIED to the program's text (the seventh form; the later family's looks); each row that meets fmt, with fmt's text TOLD by the authors' own Lean function (tested against real Go, not proved from fmt's source: count such statements apart). THE CARD IS WHAT COUNTS. Prove the row's statement (the work); the ties are given (YtnfaaiifbiobiaaDoorTie.lean); close each card by the builder's one call (the guide's Derived/Test/ToyasCard.lean, 'card_holds'). Laid BY PROGRAM, IN A SANDBOX (cutbox-door.mjs). By AI agents, Wed Nov 11 2026. No macro, syntax, notation, axiom, sorry.
-/
import Derived.Test.YtnfaaiifbiobiaaDoorRows
import GoSem.ClaimSeven
namespace Go.Proofs.YtnfaaiifbiobiaaDoor
namespace Rows

/-- THE TIED CARD OF 'grommetlaw24.HostAnswers'. -/
def hostAnswersCard : Claim7 := { stood := { row := hostAnswersRow, standIns := [], harness := (true, "f0bea62a6a9c5015629cf63495134447ff2bf8322b14b33b7ef49635bad72a11"), looks := true }, kinds := [], alts := [], laidByText := true, laidKinds := [.data, .data, .data, .data, .sentinel, .sentinel, .pinned], laidTests := true, laidLooks := .later }
def HostAnswersCardSaid : Prop := Claim7.holds Tryd.pinned (.plain (OpenSpec.ofChange hostAnswersSpec)) hostAnswersCard

/-- THE TIED CARD OF 'grommetlaw24.HostSame'. -/
def hostSameCard : Claim7 := { stood := { row := hostSameRow, standIns := [], harness := (true, "f0bea62a6a9c5015629cf63495134447ff2bf8322b14b33b7ef49635bad72a11"), looks := true }, kinds := [], alts := [], laidByText := true, laidKinds := [.data, .data, .data, .data, .sentinel, .sentinel, .pinned], laidTests := true, laidLooks := .later }
def HostSameCardSaid : Prop := Claim7.holds Tryd.pinned (.plain (OpenSpec.ofChange hostSameSpec)) hostSameCard

/-- THE TIED CARD OF 'grommetlaw24.HostMore'. -/
def hostMoreCard : Claim7 := { stood := { row := hostMoreRow, standIns := [], harness := (true, "f0bea62a6a9c5015629cf63495134447ff2bf8322b14b33b7ef49635bad72a11"), looks := true }, kinds := [], alts := [], laidByText := true, laidKinds := [.data, .data, .data, .data, .sentinel, .sentinel, .pinned], laidTests := true, laidLooks := .later }
def HostMoreCardSaid : Prop := Claim7.holds Tryd.pinned (.plain (OpenSpec.ofChange hostMoreSpec)) hostMoreCard

/-- THE SECOND FORM's CARD OF 'grommetlaw24.HostAnswers'. -/
def hostAnswersUptoCard : Claim7 := { stood := { row := hostAnswersUptoRow, standIns := [], harness := (true, "f0bea62a6a9c5015629cf63495134447ff2bf8322b14b33b7ef49635bad72a11"), looks := true }, kinds := [], alts := [], laidByText := true, laidKinds := [.data, .data, .data, .data, .sentinel, .sentinel, .pinned], laidTests := true, laidLooks := .later }
def HostAnswersUptoCardSaid : Prop := Claim7.holds Tryd.pinned (.plain (OpenSpec.upto hostAnswersSpec)) hostAnswersUptoCard

/-- THE SECOND FORM's CARD OF 'grommetlaw24.HostSame'. -/
def hostSameUptoCard : Claim7 := { stood := { row := hostSameUptoRow, standIns := [], harness := (true, "f0bea62a6a9c5015629cf63495134447ff2bf8322b14b33b7ef49635bad72a11"), looks := true }, kinds := [], alts := [], laidByText := true, laidKinds := [.data, .data, .data, .data, .sentinel, .sentinel, .pinned], laidTests := true, laidLooks := .later }
def HostSameUptoCardSaid : Prop := Claim7.holds Tryd.pinned (.plain (OpenSpec.upto hostSameSpec)) hostSameUptoCard

/-- THE SECOND FORM's CARD OF 'grommetlaw24.HostMore'. -/
def hostMoreUptoCard : Claim7 := { stood := { row := hostMoreUptoRow, standIns := [], harness := (true, "f0bea62a6a9c5015629cf63495134447ff2bf8322b14b33b7ef49635bad72a11"), looks := true }, kinds := [], alts := [], laidByText := true, laidKinds := [.data, .data, .data, .data, .sentinel, .sentinel, .pinned], laidTests := true, laidLooks := .later }
def HostMoreUptoCardSaid : Prop := Claim7.holds Tryd.pinned (.plain (OpenSpec.upto hostMoreSpec)) hostMoreUptoCard
end Rows
end Go.Proofs.YtnfaaiifbiobiaaDoor
