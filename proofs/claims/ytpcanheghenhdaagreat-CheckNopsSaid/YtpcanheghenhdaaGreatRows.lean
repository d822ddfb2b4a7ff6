/-
  No cell of these rows narrows 'for every input' (looked for: loops, veiled, ifaces, maps, wideKeys, modest, calm, conditions, laid).
  DERIVED. THE GIVEN ROWS OF THIS SEAT. 6 by the template 'for every input the law returns true; each argument reads behind the call as it read before'; 0 by the template 'total and deterministic' (their statements: YtpcanheghenhdaaGreatTotals.lean).
  GIVEN WITH THE SEED: the statements are not yours to turn. If you find one false, say at which input.
  Laid BY PROGRAM, IN A SANDBOX (cutbox-rows.mjs): the forced cells as the released guide's own fill.sh prints them over the translation 25d06a67efb264a1… (all of the seat's roots in one cut). By AI agents, Wed Nov 11 2026. No macro, syntax, notation, axiom, sorry.
-/
import Derived.Test.YtpcanheghenhdaaGreatChecked
import GoSem.Claim
import GoSem.ClaimJoined
import GoSem.ClaimMapViews
import Derived.JoinedTies
import Derived.KernelRfl
namespace Go.Proofs.YtpcanheghenhdaaGreat
/- THE CELL 'sum', in the pinned program and in every row, IS THE sha256 OF THE DUMP (.gsa) THAT YtpcanheghenhdaaGreatProg.lean LOADS. Nothing in Lean hashes anything: it is a label: what it is worth is what the hold of that sum in a sandbox is worth. -/
noncomputable def Tryz.pinned : Pinned := { name := "ytpcanheghenhdaagreat", sum := "25d06a67efb264a12c50c896129d6e6dc0f8590b60d5523f5fd70bee5c586a60", checked := Tryz.checked }
namespace Rows
def none {H : Type} : Left H := { results := [], args := [] }

/-- 'grommetlaw16.CheckNops': WHATEVER THE INPUT: true; the input reads as it did. -/
def checkNopsSpec : ChangeSpec := { name := "checkNops", fn := fun _ => fun
  | [d1, d2, d3] => { results := [.lit (.bool true)], args := [d1, d2, d3] }
  | _ => none }
def checkNopsRow : OpenClaim := { program := "ytpcanheghenhdaagreat", sum := "25d06a67efb264a12c50c896129d6e6dc0f8590b60d5523f5fd70bee5c586a60", func := "grommet/grommetlaw16.CheckNops", spec := "checkNops", inPlace := ["internal/bytealg.IndexByteString", "internal/bytealg.IndexString"], unfollowed := true, recurses := true, named := ["internal/bytealg.MaxLen"], plainKeys := false, apart := false }
def CheckNopsSaid : Prop := checkNopsRow.holds Tryz.pinned (OpenSpec.ofChange checkNopsSpec)

/-- ITS FALSE NEIGHBOUR: 'it returns false'. Refute it at one input. -/
def checkNopsWrong : ChangeSpec := { name := "checkNops", fn := fun _ => fun
  | [d1, d2, d3] => { results := [.lit (.bool false)], args := [d1, d2, d3] }
  | _ => none }
def CheckNopsWrongFalsely : Prop := checkNopsRow.holds Tryz.pinned (OpenSpec.ofChange checkNopsWrong)

/-- 'grommetlaw16.CheckMore': WHATEVER THE INPUT: true; the input reads as it did. -/
def checkMoreSpec : ChangeSpec := { name := "checkMore", fn := fun _ => fun
  | [d1, d2, d3] => { results := [.lit (.bool true)], args := [d1, d2, d3] }
  | _ => none }
def checkMoreRow : OpenClaim := { program := "ytpcanheghenhdaagreat", sum := "25d06a67efb264a12c50c896129d6e6dc0f8590b60d5523f5fd70bee5c586a60", func := "grommet/grommetlaw16.CheckMore", spec := "checkMore", inPlace := ["internal/bytealg.IndexByteString", "internal/bytealg.IndexString"], unfollowed := true, recurses := true, named := ["internal/bytealg.MaxLen"], plainKeys := false, apart := false }
def CheckMoreSaid : Prop := checkMoreRow.holds Tryz.pinned (OpenSpec.ofChange checkMoreSpec)

/-- ITS FALSE NEIGHBOUR: 'it returns false'. Refute it at one input. -/
def checkMoreWrong : ChangeSpec := { name := "checkMore", fn := fun _ => fun
  | [d1, d2, d3] => { results := [.lit (.bool false)], args := [d1, d2, d3] }
  | _ => none }
def CheckMoreWrongFalsely : Prop := checkMoreRow.holds Tryz.pinned (OpenSpec.ofChange checkMoreWrong)

/-- 'grommetlaw18.SideWays': WHATEVER THE INPUT: true; the input reads as it did. -/
def sideWaysSpec : ChangeSpec := { name := "sideWays", fn := fun _ => fun
  | [d1, d2] => { results := [.lit (.bool true)], args := [d1, d2] }
  | _ => none }
def sideWaysRow : OpenClaim := { program := "ytpcanheghenhdaagreat", sum := "25d06a67efb264a12c50c896129d6e6dc0f8590b60d5523f5fd70bee5c586a60", func := "grommet/grommetlaw18.SideWays", spec := "sideWays", inPlace := ["internal/bytealg.IndexByteString", "internal/bytealg.IndexString"], unfollowed := true, recurses := true, named := ["internal/bytealg.MaxLen"], plainKeys := false, apart := false }
def SideWaysSaid : Prop := sideWaysRow.holds Tryz.pinned (OpenSpec.ofChange sideWaysSpec)

/-- ITS FALSE NEIGHBOUR: 'it returns false'. Refute it at one input. -/
def sideWaysWrong : ChangeSpec := { name := "sideWays", fn := fun _ => fun
  | [d1, d2] => { results := [.lit (.bool false)], args := [d1, d2] }
  | _ => none }
def SideWaysWrongFalsely : Prop := sideWaysRow.holds Tryz.pinned (OpenSpec.ofChange sideWaysWrong)

/-- 'grommetlaw18.SideJumps': WHATEVER THE INPUT: true; the input reads as it did. -/
def sideJumpsSpec : ChangeSpec := { name := "sideJumps", fn := fun _ => fun
  | [d1, d2] => { results := [.lit (.bool true)], args := [d1, d2] }
  | _ => none }
def sideJumpsRow : OpenClaim := { program := "ytpcanheghenhdaagreat", sum := "25d06a67efb264a12c50c896129d6e6dc0f8590b60d5523f5fd70bee5c586a60", func := "grommet/grommetlaw18.SideJumps", spec := "sideJumps", inPlace := ["internal/bytealg.IndexByteString", "internal/bytealg.IndexString"], unfollowed := true, recurses := true, named := ["internal/bytealg.MaxLen"], plainKeys := false, apart := false }
def SideJumpsSaid : Prop := sideJumpsRow.holds Tryz.pinned (OpenSpec.ofChange sideJumpsSpec)

/-- ITS FALSE NEIGHBOUR: 'it returns false'. Refute it at one input. -/
def sideJumpsWrong : ChangeSpec := { name := "sideJumps", fn := fun _ => fun
  | [d1, d2] => { results := [.lit (.bool false)], args := [d1, d2] }
  | _ => none }
def SideJumpsWrongFalsely : Prop := sideJumpsRow.holds Tryz.pinned (OpenSpec.ofChange sideJumpsWrong)

/-- 'grommetlaw18.SidePuts': WHATEVER THE INPUT: true; the input reads as it did. -/
def sidePutsSpec : ChangeSpec := { name := "sidePuts", fn := fun _ => fun
  | [d1, d2, d3] => { results := [.lit (.bool true)], args := [d1, d2, d3] }
  | _ => none }
def sidePutsRow : OpenClaim := { program := "ytpcanheghenhdaagreat", sum := "25d06a67efb264a12c50c896129d6e6dc0f8590b60d5523f5fd70bee5c586a60", func := "grommet/grommetlaw18.SidePuts", spec := "sidePuts", inPlace := ["internal/bytealg.IndexByteString", "internal/bytealg.IndexString"], unfollowed := true, recurses := true, named := ["internal/bytealg.MaxLen"], plainKeys := false, apart := false }
def SidePutsSaid : Prop := sidePutsRow.holds Tryz.pinned (OpenSpec.ofChange sidePutsSpec)

/-- ITS FALSE NEIGHBOUR: 'it returns false'. Refute it at one input. -/
def sidePutsWrong : ChangeSpec := { name := "sidePuts", fn := fun _ => fun
  | [d1, d2, d3] => { results := [.lit (.bool false)], args := [d1, d2, d3] }
  | _ => none }
def SidePutsWrongFalsely : Prop := sidePutsRow.holds Tryz.pinned (OpenSpec.ofChange sidePutsWrong)

/-- 'grommetlaw18.SideNone': WHATEVER THE INPUT: true; the input reads as it did. -/
def sideNoneSpec : ChangeSpec := { name := "sideNone", fn := fun _ => fun
  | [d1, d2] => { results := [.lit (.bool true)], args := [d1, d2] }
  | _ => none }
def sideNoneRow : OpenClaim := { program := "ytpcanheghenhdaagreat", sum := "25d06a67efb264a12c50c896129d6e6dc0f8590b60d5523f5fd70bee5c586a60", func := "grommet/grommetlaw18.SideNone", spec := "sideNone", inPlace := ["internal/bytealg.IndexByteString", "internal/bytealg.IndexString"], unfollowed := true, recurses := true, named := ["internal/bytealg.MaxLen"], plainKeys := false, apart := false }
def SideNoneSaid : Prop := sideNoneRow.holds Tryz.pinned (OpenSpec.ofChange sideNoneSpec)

/-- ITS FALSE NEIGHBOUR: 'it returns false'. Refute it at one input. -/
def sideNoneWrong : ChangeSpec := { name := "sideNone", fn := fun _ => fun
  | [d1, d2] => { results := [.lit (.bool false)], args := [d1, d2] }
  | _ => none }
def SideNoneWrongFalsely : Prop := sideNoneRow.holds Tryz.pinned (OpenSpec.ofChange sideNoneWrong)

/- THE SECOND FORM. 'bulk': how many values and letters a reading holds, each counted each time it is reached (what is shared counts as often as it is met; a slice's spare places count too). A statement '..UptoSaid' is the law's where the arguments, and the package variables that the reading takes, are together of bulk at most 1048576: NARROWER than '..Said'. Prove '..Said' where nothing that the law and all that it calls make is longer than what came in: it says more and counts as full. Else prove '..UptoSaid'. A law counts once. -/
mutual
def uptoBulk {H : Type} : DataW H → Nat
  | .lit (.string bytes) => bytes.length + 1
  | .lit _ => 1
  | .nil => 1
  | .ptr d => uptoBulk d + 1
  | .slice elems spare => uptoBulkAll elems + uptoBulkAll spare + 1
  | .agg parts => uptoBulkAll parts + 1
  | .iface _ d => uptoBulk d + 1
  | .map entries => uptoBulkEntries entries + 1
  | .held _ => 1
def uptoBulkAll {H : Type} : List (DataW H) → Nat
  | [] => 0
  | d :: r => uptoBulk d + uptoBulkAll r
def uptoBulkEntries {H : Type} : List (Lit × DataW H) → Nat
  | [] => 0
  | x :: r => uptoBulkEntry x + uptoBulkEntries r
def uptoBulkEntry {H : Type} : Lit × DataW H → Nat
  | (.string bytes, d) => bytes.length + uptoBulk d + 1
  | (_, d) => uptoBulk d + 1
 end
def uptoSmall : (H : Type) → List (DataW H) → Bool := fun _ ds => decide (uptoBulkAll ds ≤ 1048576)
def OpenSpec.upto (s : _root_.Go.ChangeSpec) : _root_.Go.OpenSpec := { _root_.Go.OpenSpec.ofChange s with cond := some uptoSmall }

/-- 'grommetlaw16.CheckNops', WHERE WHAT IT READS IS OF BULK AT MOST 1048576: true; the input reads as it did. -/
def checkNopsUptoRow : OpenClaim := { program := "ytpcanheghenhdaagreat", sum := "25d06a67efb264a12c50c896129d6e6dc0f8590b60d5523f5fd70bee5c586a60", func := "grommet/grommetlaw16.CheckNops", spec := "checkNops", inPlace := ["internal/bytealg.IndexByteString", "internal/bytealg.IndexString"], unfollowed := true, recurses := true, named := ["internal/bytealg.MaxLen"], plainKeys := false, apart := false, narrowed := true }
def CheckNopsUptoSaid : Prop := checkNopsUptoRow.holds Tryz.pinned (OpenSpec.upto checkNopsSpec)

/-- 'grommetlaw16.CheckMore', WHERE WHAT IT READS IS OF BULK AT MOST 1048576: true; the input reads as it did. -/
def checkMoreUptoRow : OpenClaim := { program := "ytpcanheghenhdaagreat", sum := "25d06a67efb264a12c50c896129d6e6dc0f8590b60d5523f5fd70bee5c586a60", func := "grommet/grommetlaw16.CheckMore", spec := "checkMore", inPlace := ["internal/bytealg.IndexByteString", "internal/bytealg.IndexString"], unfollowed := true, recurses := true, named := ["internal/bytealg.MaxLen"], plainKeys := false, apart := false, narrowed := true }
def CheckMoreUptoSaid : Prop := checkMoreUptoRow.holds Tryz.pinned (OpenSpec.upto checkMoreSpec)

/-- 'grommetlaw18.SideWays', WHERE WHAT IT READS IS OF BULK AT MOST 1048576: true; the input reads as it did. -/
def sideWaysUptoRow : OpenClaim := { program := "ytpcanheghenhdaagreat", sum := "25d06a67efb264a12c50c896129d6e6dc0f8590b60d5523f5fd70bee5c586a60", func := "grommet/grommetlaw18.SideWays", spec := "sideWays", inPlace := ["internal/bytealg.IndexByteString", "internal/bytealg.IndexString"], unfollowed := true, recurses := true, named := ["internal/bytealg.MaxLen"], plainKeys := false, apart := false, narrowed := true }
def SideWaysUptoSaid : Prop := sideWaysUptoRow.holds Tryz.pinned (OpenSpec.upto sideWaysSpec)

/-- 'grommetlaw18.SideJumps', WHERE WHAT IT READS IS OF BULK AT MOST 1048576: true; the input reads as it did. -/
def sideJumpsUptoRow : OpenClaim := { program := "ytpcanheghenhdaagreat", sum := "25d06a67efb264a12c50c896129d6e6dc0f8590b60d5523f5fd70bee5c586a60", func := "grommet/grommetlaw18.SideJumps", spec := "sideJumps", inPlace := ["internal/bytealg.IndexByteString", "internal/bytealg.IndexString"], unfollowed := true, recurses := true, named := ["internal/bytealg.MaxLen"], plainKeys := false, apart := false, narrowed := true }
def SideJumpsUptoSaid : Prop := sideJumpsUptoRow.holds Tryz.pinned (OpenSpec.upto sideJumpsSpec)

/-- 'grommetlaw18.SidePuts', WHERE WHAT IT READS IS OF BULK AT MOST 1048576: true; the input reads as it did. -/
def sidePutsUptoRow : OpenClaim := { program := "ytpcanheghenhdaagreat", sum := "25d06a67efb264a12c50c896129d6e6dc0f8590b60d5523f5fd70bee5c586a60", func := "grommet/grommetlaw18.SidePuts", spec := "sidePuts", inPlace := ["internal/bytealg.IndexByteString", "internal/bytealg.IndexString"], unfollowed := true, recurses := true, named := ["internal/bytealg.MaxLen"], plainKeys := false, apart := false, narrowed := true }
def SidePutsUptoSaid : Prop := sidePutsUptoRow.holds Tryz.pinned (OpenSpec.upto sidePutsSpec)

/-- 'grommetlaw18.SideNone', WHERE WHAT IT READS IS OF BULK AT MOST 1048576: true; the input reads as it did. -/
def sideNoneUptoRow : OpenClaim := { program := "ytpcanheghenhdaagreat", sum := "25d06a67efb264a12c50c896129d6e6dc0f8590b60d5523f5fd70bee5c586a60", func := "grommet/grommetlaw18.SideNone", spec := "sideNone", inPlace := ["internal/bytealg.IndexByteString", "internal/bytealg.IndexString"], unfollowed := true, recurses := true, named := ["internal/bytealg.MaxLen"], plainKeys := false, apart := false, narrowed := true }
def SideNoneUptoSaid : Prop := sideNoneUptoRow.holds Tryz.pinned (OpenSpec.upto sideNoneSpec)

end Rows
end Go.Proofs.YtpcanheghenhdaaGreat
