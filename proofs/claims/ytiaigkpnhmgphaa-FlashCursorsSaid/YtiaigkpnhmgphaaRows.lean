/-
  No cell of these rows narrows 'for every input' (looked for: loops, veiled, ifaces, maps, wideKeys, modest, calm, conditions, laid).
  DERIVED. THE GIVEN ROWS OF THIS SEAT. 4 by the template 'for every input the law returns true; each argument reads behind the call as it read before'; 0 by the template 'total and deterministic' (their statements: YtiaigkpnhmgphaaTotals.lean).
  GIVEN WITH THE SEED: the statements are not yours to turn. If you find one false, say at which input.
  Laid BY PROGRAM, IN A SANDBOX (cutbox-rows.mjs): the forced cells as the released guide's own fill.sh prints them over the translation 72d8f12ea42b6e9f… (all of the seat's roots in one cut). By AI agents, Wed Nov 11 2026. No macro, syntax, notation, axiom, sorry.
-/
import Derived.Test.YtiaigkpnhmgphaaChecked
import GoSem.Claim
import GoSem.ClaimJoined
import GoSem.ClaimMapViews
import Derived.JoinedTies
import Derived.KernelRfl
namespace Go.Proofs.Ytiaigkpnhmgphaa
/- THE CELL 'sum', in the pinned program and in every row, IS THE sha256 OF THE DUMP (.gsa) THAT YtiaigkpnhmgphaaProg.lean LOADS. Nothing in Lean hashes anything: it is a label: what it is worth is what the hold of that sum in a sandbox is worth. -/
noncomputable def Try.pinned : Pinned := { name := "ytiaigkpnhmgphaa", sum := "72d8f12ea42b6e9fd7b2909178d843e0d8849e8c790bd3b367bee3d8421e4552", checked := Try.checked }
namespace Rows
def none {H : Type} : Left H := { results := [], args := [] }

/-- 'grommetlaw02.FlashParts': WHATEVER THE INPUT: true; the input reads as it did. -/
def flashPartsSpec : ChangeSpec := { name := "flashParts", fn := fun _ => fun
  | [d1, d2] => { results := [.lit (.bool true)], args := [d1, d2] }
  | _ => none }
def flashPartsRow : OpenClaim := { program := "ytiaigkpnhmgphaa", sum := "72d8f12ea42b6e9fd7b2909178d843e0d8849e8c790bd3b367bee3d8421e4552", func := "grommet/grommetlaw02.FlashParts", spec := "flashParts", inPlace := ["sync/atomic.AddInt64", "sync/atomic.LoadInt64"], apart := false }
def FlashPartsSaid : Prop := flashPartsRow.holds Try.pinned (OpenSpec.ofChange flashPartsSpec)

/-- ITS FALSE NEIGHBOUR: 'it returns false'. Refute it at one input. -/
def flashPartsWrong : ChangeSpec := { name := "flashParts", fn := fun _ => fun
  | [d1, d2] => { results := [.lit (.bool false)], args := [d1, d2] }
  | _ => none }
def FlashPartsWrongFalsely : Prop := flashPartsRow.holds Try.pinned (OpenSpec.ofChange flashPartsWrong)

/-- 'grommetlaw02.FlashFails': WHATEVER THE INPUT: true; the input reads as it did. -/
def flashFailsSpec : ChangeSpec := { name := "flashFails", fn := fun _ => fun
  | [d1, d2, d3] => { results := [.lit (.bool true)], args := [d1, d2, d3] }
  | _ => none }
def flashFailsRow : OpenClaim := { program := "ytiaigkpnhmgphaa", sum := "72d8f12ea42b6e9fd7b2909178d843e0d8849e8c790bd3b367bee3d8421e4552", func := "grommet/grommetlaw02.FlashFails", spec := "flashFails", inPlace := ["sync/atomic.AddInt64", "sync/atomic.LoadInt64"], unfollowed := true, recurses := true, apart := false }
def FlashFailsSaid : Prop := flashFailsRow.holds Try.pinned (OpenSpec.ofChange flashFailsSpec)

/-- ITS FALSE NEIGHBOUR: 'it returns false'. Refute it at one input. -/
def flashFailsWrong : ChangeSpec := { name := "flashFails", fn := fun _ => fun
  | [d1, d2, d3] => { results := [.lit (.bool false)], args := [d1, d2, d3] }
  | _ => none }
def FlashFailsWrongFalsely : Prop := flashFailsRow.holds Try.pinned (OpenSpec.ofChange flashFailsWrong)

/-- 'grommetlaw02.FlashNone': WHATEVER THE INPUT: true; the input reads as it did. -/
def flashNoneSpec : ChangeSpec := { name := "flashNone", fn := fun _ => fun
  | [d1, d2] => { results := [.lit (.bool true)], args := [d1, d2] }
  | _ => none }
def flashNoneRow : OpenClaim := { program := "ytiaigkpnhmgphaa", sum := "72d8f12ea42b6e9fd7b2909178d843e0d8849e8c790bd3b367bee3d8421e4552", func := "grommet/grommetlaw02.FlashNone", spec := "flashNone", inPlace := ["sync/atomic.AddInt64", "sync/atomic.LoadInt64"], unfollowed := true, recurses := true, apart := false }
def FlashNoneSaid : Prop := flashNoneRow.holds Try.pinned (OpenSpec.ofChange flashNoneSpec)

/-- ITS FALSE NEIGHBOUR: 'it returns false'. Refute it at one input. -/
def flashNoneWrong : ChangeSpec := { name := "flashNone", fn := fun _ => fun
  | [d1, d2] => { results := [.lit (.bool false)], args := [d1, d2] }
  | _ => none }
def FlashNoneWrongFalsely : Prop := flashNoneRow.holds Try.pinned (OpenSpec.ofChange flashNoneWrong)

/-- 'grommetlaw02.FlashCursors': WHATEVER THE INPUT: true; the input reads as it did. -/
def flashCursorsSpec : ChangeSpec := { name := "flashCursors", fn := fun _ => fun
  | [d1, d2, d3, d4] => { results := [.lit (.bool true)], args := [d1, d2, d3, d4] }
  | _ => none }
def flashCursorsRow : OpenClaim := { program := "ytiaigkpnhmgphaa", sum := "72d8f12ea42b6e9fd7b2909178d843e0d8849e8c790bd3b367bee3d8421e4552", func := "grommet/grommetlaw02.FlashCursors", spec := "flashCursors", inPlace := ["sync/atomic.AddInt64", "sync/atomic.LoadInt64"], unfollowed := true, recurses := true, apart := false }
def FlashCursorsSaid : Prop := flashCursorsRow.holds Try.pinned (OpenSpec.ofChange flashCursorsSpec)

/-- ITS FALSE NEIGHBOUR: 'it returns false'. Refute it at one input. -/
def flashCursorsWrong : ChangeSpec := { name := "flashCursors", fn := fun _ => fun
  | [d1, d2, d3, d4] => { results := [.lit (.bool false)], args := [d1, d2, d3, d4] }
  | _ => none }
def FlashCursorsWrongFalsely : Prop := flashCursorsRow.holds Try.pinned (OpenSpec.ofChange flashCursorsWrong)

/- THE SECOND FORM. 'bulk': how many values and letters a reading holds, each counted each time it is reached (what is shared counts as often as it is met; a slice's spare places count too). A statement '..UptoSaid' is the law's where the arguments, and the package variables that the reading takes, are together of bulk at most 1048576: NARROWER than '..Said'. Prove '..Said' where nothing that the law and all that it calls make is longer than what came in: it says more and counts as full. Else prove '..UptoSaid'. A law counts once. -/
mutual
def uptoBulk {H : Type} : DataW H → Nat
  | .lit (.string bytes) => bytes.length + 1
  | .lit _ => 1
  | .nil => 1
  | .ptr d => uptoBulk d + 1
  | .slice elems spare => uptoBulkAll elems + uptoBulkAll spare + 1
  | .agg parts => uptoBulkAll parts + 1
  | .iface _ d => uptoBulk d + 1
  | .map entries => uptoBulkEntries entries + 1
  | .held _ => 1
def uptoBulkAll {H : Type} : List (DataW H) → Nat
  | [] => 0
  | d :: r => uptoBulk d + uptoBulkAll r
def uptoBulkEntries {H : Type} : List (Lit × DataW H) → Nat
  | [] => 0
  | x :: r => uptoBulkEntry x + uptoBulkEntries r
def uptoBulkEntry {H : Type} : Lit × DataW H → Nat
  | (.string bytes, d) => bytes.length + uptoBulk d + 1
  | (_, d) => uptoBulk d + 1
 end
def uptoSmall : (H : Type) → List (DataW H) → Bool := fun _ ds => decide (uptoBulkAll ds ≤ 1048576)
def OpenSpec.upto (s : _root_.Go.ChangeSpec) : _root_.Go.OpenSpec := { _root_.Go.OpenSpec.ofChange s with cond := some uptoSmall }

/-- 'grommetlaw02.FlashParts', WHERE WHAT IT READS IS OF BULK AT MOST 1048576: true; the input reads as it did. -/
def flashPartsUptoRow : OpenClaim := { program := "ytiaigkpnhmgphaa", sum := "72d8f12ea42b6e9fd7b2909178d843e0d8849e8c790bd3b367bee3d8421e4552", func := "grommet/grommetlaw02.FlashParts", spec := "flashParts", inPlace := ["sync/atomic.AddInt64", "sync/atomic.LoadInt64"], apart := false, narrowed := true }
def FlashPartsUptoSaid : Prop := flashPartsUptoRow.holds Try.pinned (OpenSpec.upto flashPartsSpec)

/-- 'grommetlaw02.FlashFails', WHERE WHAT IT READS IS OF BULK AT MOST 1048576: true; the input reads as it did. -/
def flashFailsUptoRow : OpenClaim := { program := "ytiaigkpnhmgphaa", sum := "72d8f12ea42b6e9fd7b2909178d843e0d8849e8c790bd3b367bee3d8421e4552", func := "grommet/grommetlaw02.FlashFails", spec := "flashFails", inPlace := ["sync/atomic.AddInt64", "sync/atomic.LoadInt64"], unfollowed := true, recurses := true, apart := false, narrowed := true }
def FlashFailsUptoSaid : Prop := flashFailsUptoRow.holds Try.pinned (OpenSpec.upto flashFailsSpec)

/-- 'grommetlaw02.FlashNone', WHERE WHAT IT READS IS OF BULK AT MOST 1048576: true; the input reads as it did. -/
def flashNoneUptoRow : OpenClaim := { program := "ytiaigkpnhmgphaa", sum := "72d8f12ea42b6e9fd7b2909178d843e0d8849e8c790bd3b367bee3d8421e4552", func := "grommet/grommetlaw02.FlashNone", spec := "flashNone", inPlace := ["sync/atomic.AddInt64", "sync/atomic.LoadInt64"], unfollowed := true, recurses := true, apart := false, narrowed := true }
def FlashNoneUptoSaid : Prop := flashNoneUptoRow.holds Try.pinned (OpenSpec.upto flashNoneSpec)

/-- 'grommetlaw02.FlashCursors', WHERE WHAT IT READS IS OF BULK AT MOST 1048576: true; the input reads as it did. -/
def flashCursorsUptoRow : OpenClaim := { program := "ytiaigkpnhmgphaa", sum := "72d8f12ea42b6e9fd7b2909178d843e0d8849e8c790bd3b367bee3d8421e4552", func := "grommet/grommetlaw02.FlashCursors", spec := "flashCursors", inPlace := ["sync/atomic.AddInt64", "sync/atomic.LoadInt64"], unfollowed := true, recurses := true, apart := false, narrowed := true }
def FlashCursorsUptoSaid : Prop := flashCursorsUptoRow.holds Try.pinned (OpenSpec.upto flashCursorsSpec)

end Rows
end Go.Proofs.Ytiaigkpnhmgphaa
