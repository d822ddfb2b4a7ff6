/-
  DERIVED. GIVEN WITH THE SEED: THE CARDS: each row of YtpphkfolhlkaiaaDoorRows.lean that lists a variable, with what it lists TIED to the program's text (the seventh form; the later family's looks); each row that meets fmt, with fmt's text TOLD by the authors' own Lean function (tested against real Go, not proved from fmt's source: count such statements apart). THE CARD IS WHAT COUNTS. Prove the row's statement (the work); the ties are given (YtpphkfolhlkaiaaDoorTie.lean); close each card by the builder's one call (the guide's Derived/Test/ToyasCard.lean, 'card_holds'). Laid BY PROGRAM, IN A SANDBOX (cutbox-door.mjs). By AI agents, Wed Nov 11 2026. No macro, syntax, notation, axiom, sorry.
-/
import Derived.Test.YtpphkfolhlkaiaaDoorRows
import GoSem.ClaimSeven
namespace Go.Proofs.YtpphkfolhlkaiaaDoor
namespace Rows

/-- THE TIED CARD OF 'grommetlaw06.ConvExtends'. -/
def convExtendsCard : Claim7 := { stood := { row := convExtendsRow, standIns := [], harness := (true, "d06672b00fcb63704a4884d5589ce8e3131199e47c3e3997b72b5d502b86eb18"), looks := false }, kinds := [], alts := [], laidByText := true, laidKinds := [.data, .data, .data], laidTests := true, laidLooks := .later }
def ConvExtendsCardSaid : Prop := Claim7.holds Tryd.pinned (.plain (OpenSpec.ofChange convExtendsSpec)) convExtendsCard

/-- THE TIED CARD OF 'grommetlaw06.ConvBytes'. -/
def convBytesCard : Claim7 := { stood := { row := convBytesRow, standIns := [], harness := (true, "d06672b00fcb63704a4884d5589ce8e3131199e47c3e3997b72b5d502b86eb18"), looks := false }, kinds := [], alts := [], laidByText := true, laidKinds := [.data, .data, .data], laidTests := true, laidLooks := .later }
def ConvBytesCardSaid : Prop := Claim7.holds Tryd.pinned (.plain (OpenSpec.ofChange convBytesSpec)) convBytesCard

/-- THE TIED CARD OF 'grommetlaw06.ConvRounds'. -/
def convRoundsCard : Claim7 := { stood := { row := convRoundsRow, standIns := [], harness := (true, "d06672b00fcb63704a4884d5589ce8e3131199e47c3e3997b72b5d502b86eb18"), looks := false }, kinds := [], alts := [], laidByText := true, laidKinds := [.data, .data, .data], laidTests := true, laidLooks := .later }
def ConvRoundsCardSaid : Prop := Claim7.holds Tryd.pinned (.plain (OpenSpec.ofChange convRoundsSpec)) convRoundsCard

/-- THE SECOND FORM's CARD OF 'grommetlaw06.ConvExtends'. -/
def convExtendsUptoCard : Claim7 := { stood := { row := convExtendsUptoRow, standIns := [], harness := (true, "d06672b00fcb63704a4884d5589ce8e3131199e47c3e3997b72b5d502b86eb18"), looks := false }, kinds := [], alts := [], laidByText := true, laidKinds := [.data, .data, .data], laidTests := true, laidLooks := .later }
def ConvExtendsUptoCardSaid : Prop := Claim7.holds Tryd.pinned (.plain (OpenSpec.upto convExtendsSpec)) convExtendsUptoCard

/-- THE SECOND FORM's CARD OF 'grommetlaw06.ConvBytes'. -/
def convBytesUptoCard : Claim7 := { stood := { row := convBytesUptoRow, standIns := [], harness := (true, "d06672b00fcb63704a4884d5589ce8e3131199e47c3e3997b72b5d502b86eb18"), looks := false }, kinds := [], alts := [], laidByText := true, laidKinds := [.data, .data, .data], laidTests := true, laidLooks := .later }
def ConvBytesUptoCardSaid : Prop := Claim7.holds Tryd.pinned (.plain (OpenSpec.upto convBytesSpec)) convBytesUptoCard

/-- THE SECOND FORM's CARD OF 'grommetlaw06.ConvRounds'. -/
def convRoundsUptoCard : Claim7 := { stood := { row := convRoundsUptoRow, standIns := [], harness := (true, "d06672b00fcb63704a4884d5589ce8e3131199e47c3e3997b72b5d502b86eb18"), looks := false }, kinds := [], alts := [], laidByText := true, laidKinds := [.data, .data, .data], laidTests := true, laidLooks := .later }
def ConvRoundsUptoCardSaid : Prop := Claim7.holds Tryd.pinned (.plain (OpenSpec.upto convRoundsSpec)) convRoundsUptoCard
end Rows
end Go.Proofs.YtpphkfolhlkaiaaDoor
