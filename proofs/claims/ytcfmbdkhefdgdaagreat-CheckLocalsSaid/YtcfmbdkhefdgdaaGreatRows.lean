/-
  No cell of these rows narrows 'for every input' (looked for: loops, veiled, ifaces, maps, wideKeys, modest, calm, conditions, laid).
  DERIVED. THE GIVEN ROWS OF THIS SEAT. 4 by the template 'for every input the law returns true; each argument reads behind the call as it read before'; 0 by the template 'total and deterministic' (their statements: YtcfmbdkhefdgdaaGreatTotals.lean).
  GIVEN WITH THE SEED: the statements are not yours to turn. If you find one false, say at which input.
  Laid BY PROGRAM, IN A SANDBOX (cutbox-rows.mjs): the forced cells as the released guide's own fill.sh prints them over the translation b6d0eeef94c7a7ed… (all of the seat's roots in one cut). By AI agents, Wed Nov 11 2026. No macro, syntax, notation, axiom, sorry.
-/
import Derived.Test.YtcfmbdkhefdgdaaGreatChecked
import GoSem.Claim
import GoSem.ClaimJoined
import GoSem.ClaimMapViews
import Derived.JoinedTies
import Derived.KernelRfl
namespace Go.Proofs.YtcfmbdkhefdgdaaGreat
/- THE CELL 'sum', in the pinned program and in every row, IS THE sha256 OF THE DUMP (.gsa) THAT YtcfmbdkhefdgdaaGreatProg.lean LOADS. Nothing in Lean hashes anything: it is a label: what it is worth is what the hold of that sum in a sandbox is worth. -/
noncomputable def Tryz.pinned : Pinned := { name := "ytcfmbdkhefdgdaagreat", sum := "b6d0eeef94c7a7ede89d4c5428dfefc0ff8e171feb66e993d069e98f891146b8", checked := Tryz.checked }
namespace Rows
def none {H : Type} : Left H := { results := [], args := [] }

/-- 'grommetlaw16.CheckLocals': WHATEVER THE INPUT: true; the input reads as it did. -/
def checkLocalsSpec : ChangeSpec := { name := "checkLocals", fn := fun _ => fun
  | [d1, d2, d3] => { results := [.lit (.bool true)], args := [d1, d2, d3] }
  | _ => none }
def checkLocalsRow : OpenClaim := { program := "ytcfmbdkhefdgdaagreat", sum := "b6d0eeef94c7a7ede89d4c5428dfefc0ff8e171feb66e993d069e98f891146b8", func := "grommet/grommetlaw16.CheckLocals", spec := "checkLocals", inPlace := ["internal/bytealg.IndexByteString", "internal/bytealg.IndexString"], unfollowed := true, recurses := true, named := ["internal/bytealg.MaxLen"], apart := false }
def CheckLocalsSaid : Prop := checkLocalsRow.holds Tryz.pinned (OpenSpec.ofChange checkLocalsSpec)

/-- ITS FALSE NEIGHBOUR: 'it returns false'. Refute it at one input. -/
def checkLocalsWrong : ChangeSpec := { name := "checkLocals", fn := fun _ => fun
  | [d1, d2, d3] => { results := [.lit (.bool false)], args := [d1, d2, d3] }
  | _ => none }
def CheckLocalsWrongFalsely : Prop := checkLocalsRow.holds Tryz.pinned (OpenSpec.ofChange checkLocalsWrong)

/-- 'grommetlaw16.CheckNops': WHATEVER THE INPUT: true; the input reads as it did. -/
def checkNopsSpec : ChangeSpec := { name := "checkNops", fn := fun _ => fun
  | [d1, d2, d3] => { results := [.lit (.bool true)], args := [d1, d2, d3] }
  | _ => none }
def checkNopsRow : OpenClaim := { program := "ytcfmbdkhefdgdaagreat", sum := "b6d0eeef94c7a7ede89d4c5428dfefc0ff8e171feb66e993d069e98f891146b8", func := "grommet/grommetlaw16.CheckNops", spec := "checkNops", inPlace := ["internal/bytealg.IndexByteString", "internal/bytealg.IndexString"], unfollowed := true, recurses := true, named := ["internal/bytealg.MaxLen"], apart := false }
def CheckNopsSaid : Prop := checkNopsRow.holds Tryz.pinned (OpenSpec.ofChange checkNopsSpec)

/-- ITS FALSE NEIGHBOUR: 'it returns false'. Refute it at one input. -/
def checkNopsWrong : ChangeSpec := { name := "checkNops", fn := fun _ => fun
  | [d1, d2, d3] => { results := [.lit (.bool false)], args := [d1, d2, d3] }
  | _ => none }
def CheckNopsWrongFalsely : Prop := checkNopsRow.holds Tryz.pinned (OpenSpec.ofChange checkNopsWrong)

/-- 'grommetlaw16.CheckMore': WHATEVER THE INPUT: true; the input reads as it did. -/
def checkMoreSpec : ChangeSpec := { name := "checkMore", fn := fun _ => fun
  | [d1, d2, d3] => { results := [.lit (.bool true)], args := [d1, d2, d3] }
  | _ => none }
def checkMoreRow : OpenClaim := { program := "ytcfmbdkhefdgdaagreat", sum := "b6d0eeef94c7a7ede89d4c5428dfefc0ff8e171feb66e993d069e98f891146b8", func := "grommet/grommetlaw16.CheckMore", spec := "checkMore", inPlace := ["internal/bytealg.IndexByteString", "internal/bytealg.IndexString"], unfollowed := true, recurses := true, named := ["internal/bytealg.MaxLen"], apart := false }
def CheckMoreSaid : Prop := checkMoreRow.holds Tryz.pinned (OpenSpec.ofChange checkMoreSpec)

/-- ITS FALSE NEIGHBOUR: 'it returns false'. Refute it at one input. -/
def checkMoreWrong : ChangeSpec := { name := "checkMore", fn := fun _ => fun
  | [d1, d2, d3] => { results := [.lit (.bool false)], args := [d1, d2, d3] }
  | _ => none }
def CheckMoreWrongFalsely : Prop := checkMoreRow.holds Tryz.pinned (OpenSpec.ofChange checkMoreWrong)

/-- 'grommetlaw16.CheckNone': WHATEVER THE INPUT: true; the input reads as it did. -/
def checkNoneSpec : ChangeSpec := { name := "checkNone", fn := fun _ => fun
  | [d1, d2] => { results := [.lit (.bool true)], args := [d1, d2] }
  | _ => none }
def checkNoneRow : OpenClaim := { program := "ytcfmbdkhefdgdaagreat", sum := "b6d0eeef94c7a7ede89d4c5428dfefc0ff8e171feb66e993d069e98f891146b8", func := "grommet/grommetlaw16.CheckNone", spec := "checkNone", inPlace := ["internal/bytealg.IndexByteString", "internal/bytealg.IndexString"], unfollowed := true, recurses := true, named := ["internal/bytealg.MaxLen"], apart := false }
def CheckNoneSaid : Prop := checkNoneRow.holds Tryz.pinned (OpenSpec.ofChange checkNoneSpec)

/-- ITS FALSE NEIGHBOUR: 'it returns false'. Refute it at one input. -/
def checkNoneWrong : ChangeSpec := { name := "checkNone", fn := fun _ => fun
  | [d1, d2] => { results := [.lit (.bool false)], args := [d1, d2] }
  | _ => none }
def CheckNoneWrongFalsely : Prop := checkNoneRow.holds Tryz.pinned (OpenSpec.ofChange checkNoneWrong)

/- THE SECOND FORM. 'bulk': how many values and letters a reading holds, each counted each time it is reached (what is shared counts as often as it is met; a slice's spare places count too). A statement '..UptoSaid' is the law's where the arguments, and the package variables that the reading takes, are together of bulk at most 1048576: NARROWER than '..Said'. Prove '..Said' where nothing that the law and all that it calls make is longer than what came in: it says more and counts as full. Else prove '..UptoSaid'. A law counts once. -/
mutual
def uptoBulk {H : Type} : DataW H → Nat
  | .lit (.string bytes) => bytes.length + 1
  | .lit _ => 1
  | .nil => 1
  | .ptr d => uptoBulk d + 1
  | .slice elems spare => uptoBulkAll elems + uptoBulkAll spare + 1
  | .agg parts => uptoBulkAll parts + 1
  | .iface _ d => uptoBulk d + 1
  | .map entries => uptoBulkEntries entries + 1
  | .held _ => 1
def uptoBulkAll {H : Type} : List (DataW H) → Nat
  | [] => 0
  | d :: r => uptoBulk d + uptoBulkAll r
def uptoBulkEntries {H : Type} : List (Lit × DataW H) → Nat
  | [] => 0
  | x :: r => uptoBulkEntry x + uptoBulkEntries r
def uptoBulkEntry {H : Type} : Lit × DataW H → Nat
  | (.string bytes, d) => bytes.length + uptoBulk d + 1
  | (_, d) => uptoBulk d + 1
 end
def uptoSmall : (H : Type) → List (DataW H) → Bool := fun _ ds => decide (uptoBulkAll ds ≤ 1048576)
def OpenSpec.upto (s : _root_.Go.ChangeSpec) : _root_.Go.OpenSpec := { _root_.Go.OpenSpec.ofChange s with cond := some uptoSmall }

/-- 'grommetlaw16.CheckLocals', WHERE WHAT IT READS IS OF BULK AT MOST 1048576: true; the input reads as it did. -/
def checkLocalsUptoRow : OpenClaim := { program := "ytcfmbdkhefdgdaagreat", sum := "b6d0eeef94c7a7ede89d4c5428dfefc0ff8e171feb66e993d069e98f891146b8", func := "grommet/grommetlaw16.CheckLocals", spec := "checkLocals", inPlace := ["internal/bytealg.IndexByteString", "internal/bytealg.IndexString"], unfollowed := true, recurses := true, named := ["internal/bytealg.MaxLen"], apart := false, narrowed := true }
def CheckLocalsUptoSaid : Prop := checkLocalsUptoRow.holds Tryz.pinned (OpenSpec.upto checkLocalsSpec)

/-- 'grommetlaw16.CheckNops', WHERE WHAT IT READS IS OF BULK AT MOST 1048576: true; the input reads as it did. -/
def checkNopsUptoRow : OpenClaim := { program := "ytcfmbdkhefdgdaagreat", sum := "b6d0eeef94c7a7ede89d4c5428dfefc0ff8e171feb66e993d069e98f891146b8", func := "grommet/grommetlaw16.CheckNops", spec := "checkNops", inPlace := ["internal/bytealg.IndexByteString", "internal/bytealg.IndexString"], unfollowed := true, recurses := true, named := ["internal/bytealg.MaxLen"], apart := false, narrowed := true }
def CheckNopsUptoSaid : Prop := checkNopsUptoRow.holds Tryz.pinned (OpenSpec.upto checkNopsSpec)

/-- 'grommetlaw16.CheckMore', WHERE WHAT IT READS IS OF BULK AT MOST 1048576: true; the input reads as it did. -/
def checkMoreUptoRow : OpenClaim := { program := "ytcfmbdkhefdgdaagreat", sum := "b6d0eeef94c7a7ede89d4c5428dfefc0ff8e171feb66e993d069e98f891146b8", func := "grommet/grommetlaw16.CheckMore", spec := "checkMore", inPlace := ["internal/bytealg.IndexByteString", "internal/bytealg.IndexString"], unfollowed := true, recurses := true, named := ["internal/bytealg.MaxLen"], apart := false, narrowed := true }
def CheckMoreUptoSaid : Prop := checkMoreUptoRow.holds Tryz.pinned (OpenSpec.upto checkMoreSpec)

/-- 'grommetlaw16.CheckNone', WHERE WHAT IT READS IS OF BULK AT MOST 1048576: true; the input reads as it did. -/
def checkNoneUptoRow : OpenClaim := { program := "ytcfmbdkhefdgdaagreat", sum := "b6d0eeef94c7a7ede89d4c5428dfefc0ff8e171feb66e993d069e98f891146b8", func := "grommet/grommetlaw16.CheckNone", spec := "checkNone", inPlace := ["internal/bytealg.IndexByteString", "internal/bytealg.IndexString"], unfollowed := true, recurses := true, named := ["internal/bytealg.MaxLen"], apart := false, narrowed := true }
def CheckNoneUptoSaid : Prop := checkNoneUptoRow.holds Tryz.pinned (OpenSpec.upto checkNoneSpec)

end Rows
end Go.Proofs.YtcfmbdkhefdgdaaGreat
