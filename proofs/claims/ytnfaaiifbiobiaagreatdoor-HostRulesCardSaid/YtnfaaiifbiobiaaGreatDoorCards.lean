/-
  DERIVED. GIVEN WITH THE SEED: THE CARDS: each row of YtnfaaiifbiobiaaGreatDoorRows.lean that lists a variable, with what it lists TIED to the program's text (the seventh form; the later family's looks); each row that meets fmt, with fmt's text TOLD by the authors' own Lean function (tested against real Go, not proved from fmt's source: count such statements apart). THE CARD IS WHAT COUNTS. Prove the row's statement (the work); the ties are given (YtnfaaiifbiobiaaGreatDoorTie.lean); close each card by the builder's one call (the guide's Derived/Test/ToyasCard.lean, 'card_holds'). Laid BY PROGRAM, IN A SANDBOX (cutbox-door.mjs). By AI agents, Wed Nov 11 2026. No macro, syntax, notation, axiom, sorry.
-/
import Derived.Test.YtnfaaiifbiobiaaGreatDoorRows
import GoSem.ClaimSeven
namespace Go.Proofs.YtnfaaiifbiobiaaGreatDoor
namespace Rows

/-- THE TIED CARD OF 'grommetlaw24.HostRules'. -/
def hostRulesCard : Claim7 := { stood := { row := hostRulesRow, standIns := [], harness := (true, "a37e31d6e5caa10ce7ce1b7255f817b1aa319b502febd94d9199a5386ef3e629"), looks := true }, kinds := [], alts := [], laidByText := true, laidKinds := [.data, .data, .data, .data, .sentinel, .sentinel, .pinned], laidTests := true, laidLooks := .later }
def HostRulesCardSaid : Prop := Claim7.holds Tryz.pinned (.plain (OpenSpec.ofChange hostRulesSpec)) hostRulesCard

/-- THE SECOND FORM's CARD OF 'grommetlaw24.HostRules'. -/
def hostRulesUptoCard : Claim7 := { stood := { row := hostRulesUptoRow, standIns := [], harness := (true, "a37e31d6e5caa10ce7ce1b7255f817b1aa319b502febd94d9199a5386ef3e629"), looks := true }, kinds := [], alts := [], laidByText := true, laidKinds := [.data, .data, .data, .data, .sentinel, .sentinel, .pinned], laidTests := true, laidLooks := .later }
def HostRulesUptoCardSaid : Prop := Claim7.holds Tryz.pinned (.plain (OpenSpec.upto hostRulesSpec)) hostRulesUptoCard
end Rows
end Go.Proofs.YtnfaaiifbiobiaaGreatDoor
