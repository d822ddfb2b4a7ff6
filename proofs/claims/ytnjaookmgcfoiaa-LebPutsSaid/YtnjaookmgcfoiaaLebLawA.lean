/-
  The laws of leb: the walks.
-/
import Derived.Test.YtnjaookmgcfoiaaLebLaw
import Derived.Test.YtnjaookmgcfoiaaArgs
namespace Go.Proofs.Ytnjaookmgcfoiaa
open Go.RowKit
set_option linter.unusedVariables false

def exBytes : List UInt8 := [229, 142, 38]

set_option maxHeartbeats 400000 in
set_option maxRecDepth 100000 in
theorem awake_any (w : World) : Calls Try.prog 9 #[] w fun e w' => e = .returned (.bool true) ∧ Below w.heap.size w w' := by
  have hr : Hid (Reads (w.alloc (.cells #[.int .u8 229, .int .u8 142, .int .u8 38] 5)) (w.alloc (.cells #[.int .u8 229, .int .u8 142, .int .u8 38] 5)).heap.size 1 (some ⟨w.heap.size, 0, none⟩) exBytes.length (exBytes.map B)) := by
    have := Reads.of_new w (exBytes.map B) 5 3 rfl
    show Reads _ _ _ _ _ _
    rw [show (w.alloc (.cells #[.int .u8 229, .int .u8 142, .int .u8 38] 5)).heap.size = w.heap.size + 1 from by simp]
    exact this
  have hu : Hid (unsignedL exBytes 32 = (624485, 3, 0)) := by show unsignedL exBytes 32 = _; decide +kernel
  have hsz : ∀ w : World, Calls Try.prog 19 #[.int .u64 624485] w fun e w' => e = .returned (.int .i64 3) ∧ w = w' := fun w => by
    have h := size_any 624485 w (by show 624485 < 2 ^ 64; decide)
    rw [show sizeL 624485 = 3 from by decide +kernel] at h
    exact h
  have HS := hide hsz; clear hsz
  go_enter Try.func9, Try.ntmps9
  go_wp2_with fail
  refine (unsigned_any (some ⟨w.heap.size, 0, none⟩) 3 exBytes 32 _ hr (by decide) 624485 3 0 hu).mono ?_; rintro e w' ⟨rfl, rfl⟩
  go_wp2_with fail
  refine (HS.out _).mono ?_; rintro e w' ⟨rfl, rfl⟩
  go_wp2_with fail
  go_ret
  exact ⟨rfl, (Below.refl _ _).alloc (Nat.le_refl _) _⟩

set_option maxHeartbeats 400000 in
theorem LebUnsigned_walk (A : Option Addr) (cap : Nat) (bs : List UInt8) (n : Int) (w : World) (hr : Reads w w.heap.size 1 A bs.length (bs.map B)) (hc : bs.length ≤ cap) (hm : cap ≤ maxLen) (wn : (Lit.int .i64 n).wf = true) :
    Calls Try.prog 3 #[.slice A bs.length cap, .int .i64 n] w fun e w' => e = .returned (.bool true) ∧ Below w.heap.size w w' := by
  have H := hide hr; clear hr wn
  by_cases hl : bs.length ≤ 40
  · obtain ⟨v, s, e, hv⟩ : ∃ v s e, unsignedL bs n = (v, s, e) := ⟨_, _, _, rfl⟩
    have hv2 := hv
    rw [unsigned_law] at hv2
    have HV := hide hv; have HV2 := hide hv2; clear hv hv2 hc hm
    go_enter Try.func3, Try.ntmps3
    go_wp2_with fail
    refine (unsigned_any A cap bs n _ H (by omega) _ _ _ HV).mono ?_; rintro e w' ⟨rfl, rfl⟩
    go_wp2_with fail
    refine (refUnsigned_any A cap bs n _ H (by omega) _ _ _ HV2).mono ?_; rintro e w1 ⟨rfl, hb⟩
    have HB := hide hb; clear hb
    go_wp2_with fail
    refine (awake_any _).mono ?_; rintro e w2 ⟨rfl, hb⟩
    have HB2 := hide hb; clear hb
    go_wp2_with fail
    go_ret
    exact ⟨rfl, HB.out.trans (HB2.out.mono HB.out.size)⟩
  · have hl2 : 40 < bs.length := by omega
    clear hl
    unfold maxLen at hm
    go_enter Try.func3, Try.ntmps3
    go_wp2_with fail
    refine (awake_any _).mono ?_; rintro e w2 ⟨rfl, hb⟩
    have HB2 := hide hb; clear hb
    go_wp2_with fail
    go_ret
    exact ⟨rfl, HB2.out⟩
end Go.Proofs.Ytnjaookmgcfoiaa
