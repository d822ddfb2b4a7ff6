/-
  The law LebSigned: the walk.
-/
import Derived.Test.YtnjaookmgcfoiaaLebLawA
import Derived.Test.YtnjaookmgcfoiaaLebLawS
namespace Go.Proofs.Ytnjaookmgcfoiaa
open Go.RowKit
set_option linter.unusedVariables false

set_option maxHeartbeats 400000 in
theorem LebSigned_walk (A : Option Addr) (cap : Nat) (bs : List UInt8) (n : Int) (w : World) (hr : Reads w w.heap.size 1 A bs.length (bs.map B)) (hc : bs.length ≤ cap) (hm : cap ≤ maxLen) (wn : (Lit.int .i64 n).wf = true) :
    Calls Try.prog 6 #[.slice A bs.length cap, .int .i64 n] w fun e w' => e = .returned (.bool true) ∧ Below w.heap.size w w' := by
  have H := hide hr; clear hr wn
  by_cases hl : bs.length ≤ 40
  · obtain ⟨v, s, e, hv⟩ : ∃ v s e, signedL bs n = (v, s, e) := ⟨_, _, _, rfl⟩
    have hv2 := hv
    rw [signed_law] at hv2
    have HV := hide hv; have HV2 := hide hv2; clear hv hv2 hc hm
    go_enter Try.func6, Try.ntmps6
    go_wp2_with fail
    refine (signed_any A cap bs n _ H (by omega) _ _ _ HV).mono ?_; rintro e w' ⟨rfl, rfl⟩
    go_wp2_with fail
    refine (refSigned_any A cap bs n _ H (by omega) _ _ _ HV2).mono ?_; rintro e w1 ⟨rfl, hb⟩
    have HB := hide hb; clear hb
    go_wp2_with fail
    refine (awake_any _).mono ?_; rintro e w2 ⟨rfl, hb⟩
    have HB2 := hide hb; clear hb
    go_wp2_with fail
    go_ret
    exact ⟨rfl, HB.out.trans (HB2.out.mono HB.out.size)⟩
  · have hl2 : 40 < bs.length := by omega
    clear hl
    unfold maxLen at hm
    go_enter Try.func6, Try.ntmps6
    go_wp2_with fail
    refine (awake_any _).mono ?_; rintro e w2 ⟨rfl, hb⟩
    have HB2 := hide hb; clear hb
    go_wp2_with fail
    go_ret
    exact ⟨rfl, HB2.out⟩
end Go.Proofs.Ytnjaookmgcfoiaa
