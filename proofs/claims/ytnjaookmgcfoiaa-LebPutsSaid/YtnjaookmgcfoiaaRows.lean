/-
  No cell of these rows narrows 'for every input' (looked for: loops, veiled, ifaces, maps, wideKeys, modest, calm, conditions, laid).
  DERIVED. THE GIVEN ROWS OF THIS SEAT. 6 by the template 'for every input the law returns true; each argument reads behind the call as it read before'; 0 by the template 'total and deterministic' (their statements: YtnjaookmgcfoiaaTotals.lean).
  GIVEN WITH THE SEED: the statements are not yours to turn. If you find one false, say at which input.
  Laid BY PROGRAM, IN A SANDBOX (cutbox-rows.mjs): the forced cells as the released guide's own fill.sh prints them over the translation 0a4842b3b0ab0d88… (all of the seat's roots in one cut). By AI agents, Wed Nov 11 2026. No macro, syntax, notation, axiom, sorry.
-/
import Derived.Test.YtnjaookmgcfoiaaChecked
import GoSem.Claim
import GoSem.ClaimJoined
import GoSem.ClaimMapViews
import Derived.JoinedTies
import Derived.KernelRfl
namespace Go.Proofs.Ytnjaookmgcfoiaa
/- THE CELL 'sum', in the pinned program and in every row, IS THE sha256 OF THE DUMP (.gsa) THAT YtnjaookmgcfoiaaProg.lean LOADS. Nothing in Lean hashes anything: it is a label: what it is worth is what the hold of that sum in a sandbox is worth. -/
noncomputable def Try.pinned : Pinned := { name := "ytnjaookmgcfoiaa", sum := "0a4842b3b0ab0d88baf3bd2f0a7a7061177c1f88fc134863dabdc32440d8f7e4", checked := Try.checked }
namespace Rows
def none {H : Type} : Left H := { results := [], args := [] }

/-- 'grommetlaw01.LebUnsigned': WHATEVER THE INPUT: true; the input reads as it did. -/
def lebUnsignedSpec : ChangeSpec := { name := "lebUnsigned", fn := fun _ => fun
  | [d1, d2] => { results := [.lit (.bool true)], args := [d1, d2] }
  | _ => none }
def lebUnsignedRow : OpenClaim := { program := "ytnjaookmgcfoiaa", sum := "0a4842b3b0ab0d88baf3bd2f0a7a7061177c1f88fc134863dabdc32440d8f7e4", func := "grommet/grommetlaw01.LebUnsigned", spec := "lebUnsigned", apart := false }
def LebUnsignedSaid : Prop := lebUnsignedRow.holds Try.pinned (OpenSpec.ofChange lebUnsignedSpec)

/-- ITS FALSE NEIGHBOUR: 'it returns false'. Refute it at one input. -/
def lebUnsignedWrong : ChangeSpec := { name := "lebUnsigned", fn := fun _ => fun
  | [d1, d2] => { results := [.lit (.bool false)], args := [d1, d2] }
  | _ => none }
def LebUnsignedWrongFalsely : Prop := lebUnsignedRow.holds Try.pinned (OpenSpec.ofChange lebUnsignedWrong)

/-- 'grommetlaw01.LebWidths': WHATEVER THE INPUT: true; the input reads as it did. -/
def lebWidthsSpec : ChangeSpec := { name := "lebWidths", fn := fun _ => fun
  | [d1, d2] => { results := [.lit (.bool true)], args := [d1, d2] }
  | _ => none }
def lebWidthsRow : OpenClaim := { program := "ytnjaookmgcfoiaa", sum := "0a4842b3b0ab0d88baf3bd2f0a7a7061177c1f88fc134863dabdc32440d8f7e4", func := "grommet/grommetlaw01.LebWidths", spec := "lebWidths", apart := false }
def LebWidthsSaid : Prop := lebWidthsRow.holds Try.pinned (OpenSpec.ofChange lebWidthsSpec)

/-- ITS FALSE NEIGHBOUR: 'it returns false'. Refute it at one input. -/
def lebWidthsWrong : ChangeSpec := { name := "lebWidths", fn := fun _ => fun
  | [d1, d2] => { results := [.lit (.bool false)], args := [d1, d2] }
  | _ => none }
def LebWidthsWrongFalsely : Prop := lebWidthsRow.holds Try.pinned (OpenSpec.ofChange lebWidthsWrong)

/-- 'grommetlaw01.LebApart': WHATEVER THE INPUT: true; the input reads as it did. -/
def lebApartSpec : ChangeSpec := { name := "lebApart", fn := fun _ => fun
  | [d1, d2] => { results := [.lit (.bool true)], args := [d1, d2] }
  | _ => none }
def lebApartRow : OpenClaim := { program := "ytnjaookmgcfoiaa", sum := "0a4842b3b0ab0d88baf3bd2f0a7a7061177c1f88fc134863dabdc32440d8f7e4", func := "grommet/grommetlaw01.LebApart", spec := "lebApart", apart := false }
def LebApartSaid : Prop := lebApartRow.holds Try.pinned (OpenSpec.ofChange lebApartSpec)

/-- ITS FALSE NEIGHBOUR: 'it returns false'. Refute it at one input. -/
def lebApartWrong : ChangeSpec := { name := "lebApart", fn := fun _ => fun
  | [d1, d2] => { results := [.lit (.bool false)], args := [d1, d2] }
  | _ => none }
def LebApartWrongFalsely : Prop := lebApartRow.holds Try.pinned (OpenSpec.ofChange lebApartWrong)

/-- 'grommetlaw01.LebSigned': WHATEVER THE INPUT: true; the input reads as it did. -/
def lebSignedSpec : ChangeSpec := { name := "lebSigned", fn := fun _ => fun
  | [d1, d2] => { results := [.lit (.bool true)], args := [d1, d2] }
  | _ => none }
def lebSignedRow : OpenClaim := { program := "ytnjaookmgcfoiaa", sum := "0a4842b3b0ab0d88baf3bd2f0a7a7061177c1f88fc134863dabdc32440d8f7e4", func := "grommet/grommetlaw01.LebSigned", spec := "lebSigned", apart := false }
def LebSignedSaid : Prop := lebSignedRow.holds Try.pinned (OpenSpec.ofChange lebSignedSpec)

/-- ITS FALSE NEIGHBOUR: 'it returns false'. Refute it at one input. -/
def lebSignedWrong : ChangeSpec := { name := "lebSigned", fn := fun _ => fun
  | [d1, d2] => { results := [.lit (.bool false)], args := [d1, d2] }
  | _ => none }
def LebSignedWrongFalsely : Prop := lebSignedRow.holds Try.pinned (OpenSpec.ofChange lebSignedWrong)

/-- 'grommetlaw01.LebNeeds': WHATEVER THE INPUT: true; the input reads as it did. -/
def lebNeedsSpec : ChangeSpec := { name := "lebNeeds", fn := fun _ => fun
  | [d1, d2] => { results := [.lit (.bool true)], args := [d1, d2] }
  | _ => none }
def lebNeedsRow : OpenClaim := { program := "ytnjaookmgcfoiaa", sum := "0a4842b3b0ab0d88baf3bd2f0a7a7061177c1f88fc134863dabdc32440d8f7e4", func := "grommet/grommetlaw01.LebNeeds", spec := "lebNeeds", apart := false }
def LebNeedsSaid : Prop := lebNeedsRow.holds Try.pinned (OpenSpec.ofChange lebNeedsSpec)

/-- ITS FALSE NEIGHBOUR: 'it returns false'. Refute it at one input. -/
def lebNeedsWrong : ChangeSpec := { name := "lebNeeds", fn := fun _ => fun
  | [d1, d2] => { results := [.lit (.bool false)], args := [d1, d2] }
  | _ => none }
def LebNeedsWrongFalsely : Prop := lebNeedsRow.holds Try.pinned (OpenSpec.ofChange lebNeedsWrong)

/-- 'grommetlaw01.LebPuts': WHATEVER THE INPUT: true; the input reads as it did. -/
def lebPutsSpec : ChangeSpec := { name := "lebPuts", fn := fun _ => fun
  | [d1, d2, d3] => { results := [.lit (.bool true)], args := [d1, d2, d3] }
  | _ => none }
def lebPutsRow : OpenClaim := { program := "ytnjaookmgcfoiaa", sum := "0a4842b3b0ab0d88baf3bd2f0a7a7061177c1f88fc134863dabdc32440d8f7e4", func := "grommet/grommetlaw01.LebPuts", spec := "lebPuts", apart := false }
def LebPutsSaid : Prop := lebPutsRow.holds Try.pinned (OpenSpec.ofChange lebPutsSpec)

/-- ITS FALSE NEIGHBOUR: 'it returns false'. Refute it at one input. -/
def lebPutsWrong : ChangeSpec := { name := "lebPuts", fn := fun _ => fun
  | [d1, d2, d3] => { results := [.lit (.bool false)], args := [d1, d2, d3] }
  | _ => none }
def LebPutsWrongFalsely : Prop := lebPutsRow.holds Try.pinned (OpenSpec.ofChange lebPutsWrong)

/- THE SECOND FORM. 'bulk': how many values and letters a reading holds, each counted each time it is reached (what is shared counts as often as it is met; a slice's spare places count too). A statement '..UptoSaid' is the law's where the arguments, and the package variables that the reading takes, are together of bulk at most 1048576: NARROWER than '..Said'. Prove '..Said' where nothing that the law and all that it calls make is longer than what came in: it says more and counts as full. Else prove '..UptoSaid'. A law counts once. -/
mutual
def uptoBulk {H : Type} : DataW H → Nat
  | .lit (.string bytes) => bytes.length + 1
  | .lit _ => 1
  | .nil => 1
  | .ptr d => uptoBulk d + 1
  | .slice elems spare => uptoBulkAll elems + uptoBulkAll spare + 1
  | .agg parts => uptoBulkAll parts + 1
  | .iface _ d => uptoBulk d + 1
  | .map entries => uptoBulkEntries entries + 1
  | .held _ => 1
def uptoBulkAll {H : Type} : List (DataW H) → Nat
  | [] => 0
  | d :: r => uptoBulk d + uptoBulkAll r
def uptoBulkEntries {H : Type} : List (Lit × DataW H) → Nat
  | [] => 0
  | x :: r => uptoBulkEntry x + uptoBulkEntries r
def uptoBulkEntry {H : Type} : Lit × DataW H → Nat
  | (.string bytes, d) => bytes.length + uptoBulk d + 1
  | (_, d) => uptoBulk d + 1
 end
def uptoSmall : (H : Type) → List (DataW H) → Bool := fun _ ds => decide (uptoBulkAll ds ≤ 1048576)
def OpenSpec.upto (s : _root_.Go.ChangeSpec) : _root_.Go.OpenSpec := { _root_.Go.OpenSpec.ofChange s with cond := some uptoSmall }

/-- 'grommetlaw01.LebUnsigned', WHERE WHAT IT READS IS OF BULK AT MOST 1048576: true; the input reads as it did. -/
def lebUnsignedUptoRow : OpenClaim := { program := "ytnjaookmgcfoiaa", sum := "0a4842b3b0ab0d88baf3bd2f0a7a7061177c1f88fc134863dabdc32440d8f7e4", func := "grommet/grommetlaw01.LebUnsigned", spec := "lebUnsigned", apart := false, narrowed := true }
def LebUnsignedUptoSaid : Prop := lebUnsignedUptoRow.holds Try.pinned (OpenSpec.upto lebUnsignedSpec)

/-- 'grommetlaw01.LebWidths', WHERE WHAT IT READS IS OF BULK AT MOST 1048576: true; the input reads as it did. -/
def lebWidthsUptoRow : OpenClaim := { program := "ytnjaookmgcfoiaa", sum := "0a4842b3b0ab0d88baf3bd2f0a7a7061177c1f88fc134863dabdc32440d8f7e4", func := "grommet/grommetlaw01.LebWidths", spec := "lebWidths", apart := false, narrowed := true }
def LebWidthsUptoSaid : Prop := lebWidthsUptoRow.holds Try.pinned (OpenSpec.upto lebWidthsSpec)

/-- 'grommetlaw01.LebApart', WHERE WHAT IT READS IS OF BULK AT MOST 1048576: true; the input reads as it did. -/
def lebApartUptoRow : OpenClaim := { program := "ytnjaookmgcfoiaa", sum := "0a4842b3b0ab0d88baf3bd2f0a7a7061177c1f88fc134863dabdc32440d8f7e4", func := "grommet/grommetlaw01.LebApart", spec := "lebApart", apart := false, narrowed := true }
def LebApartUptoSaid : Prop := lebApartUptoRow.holds Try.pinned (OpenSpec.upto lebApartSpec)

/-- 'grommetlaw01.LebSigned', WHERE WHAT IT READS IS OF BULK AT MOST 1048576: true; the input reads as it did. -/
def lebSignedUptoRow : OpenClaim := { program := "ytnjaookmgcfoiaa", sum := "0a4842b3b0ab0d88baf3bd2f0a7a7061177c1f88fc134863dabdc32440d8f7e4", func := "grommet/grommetlaw01.LebSigned", spec := "lebSigned", apart := false, narrowed := true }
def LebSignedUptoSaid : Prop := lebSignedUptoRow.holds Try.pinned (OpenSpec.upto lebSignedSpec)

/-- 'grommetlaw01.LebNeeds', WHERE WHAT IT READS IS OF BULK AT MOST 1048576: true; the input reads as it did. -/
def lebNeedsUptoRow : OpenClaim := { program := "ytnjaookmgcfoiaa", sum := "0a4842b3b0ab0d88baf3bd2f0a7a7061177c1f88fc134863dabdc32440d8f7e4", func := "grommet/grommetlaw01.LebNeeds", spec := "lebNeeds", apart := false, narrowed := true }
def LebNeedsUptoSaid : Prop := lebNeedsUptoRow.holds Try.pinned (OpenSpec.upto lebNeedsSpec)

/-- 'grommetlaw01.LebPuts', WHERE WHAT IT READS IS OF BULK AT MOST 1048576: true; the input reads as it did. -/
def lebPutsUptoRow : OpenClaim := { program := "ytnjaookmgcfoiaa", sum := "0a4842b3b0ab0d88baf3bd2f0a7a7061177c1f88fc134863dabdc32440d8f7e4", func := "grommet/grommetlaw01.LebPuts", spec := "lebPuts", apart := false, narrowed := true }
def LebPutsUptoSaid : Prop := lebPutsUptoRow.holds Try.pinned (OpenSpec.upto lebPutsSpec)

end Rows
end Go.Proofs.Ytnjaookmgcfoiaa
