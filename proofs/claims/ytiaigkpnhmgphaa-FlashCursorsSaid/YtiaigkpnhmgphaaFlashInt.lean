/-
  flash: a cursor's Unsigned and Signed: contracts.
-/
import Derived.Test.YtiaigkpnhmgphaaFlashNum
namespace Go.Proofs.Ytiaigkpnhmgphaa
open Go.RowKit
set_option linter.unusedVariables false

theorem callF {P : Program} {F : FuncId} {fn : Func} (h1 : P.funcs[F]? = some fn) (h2 : (fn.name == "runtime.NumGoroutine") = false) (h3 : fn.body.isNone = false) (args : Array Value) (W : World) : (callFunc F args).run P W = .ok (.enter F args) W := by
  unfold callFunc
  have h2' : ¬ fn.name = "runtime.NumGoroutine" := by simpa using h2
  have h3' : ¬ fn.body = none := fun e => by rw [e] at h3; cases h3
  simp [h1, h2', h3']

set_option maxHeartbeats 800000 in
theorem fnU (x y base : Nat) (n : Int) (hxy : x < y) : IsFn 28 x y (.cells #[.int .i64 n] 3 (0, 0)) 39 base Nat (fun v => .int .u64 v) (fun l => unsignedL l n) := by
  intro A c l u w hl hr hx hy
  have cx := cell_blk hx 0
  have cy := cell_blk hy 0
  simp at cx cy
  have zy := frozen_blk hy 0
  clear hx hy
  obtain ⟨v, size, e, hR⟩ : ∃ v size e, Hid (unsignedL l n = (v, size, e)) := ⟨_, _, _, rfl⟩
  show Calls _ _ _ _ fun e w' => e = .returned (.int .i64 (unsignedL l n).2.2) ∧ w' = w.setCell ⟨y, 0, none⟩ (.int .u64 (unsignedL l n).1)
  rw [hR.out]
  go_enter Try.func28, Try.ntmps28
  go_wp2_with fail
  refine (unsigned_any A c l n w hr (by omega) v size e hR).mono ?_; rintro e w1 ⟨rfl, rfl⟩
  go_wp2_with fail
  go_ret
  exact ⟨rfl, rfl⟩

set_option maxHeartbeats 800000 in
theorem fnS (x y base : Nat) (n : Int) (hxy : x < y) : IsFn 33 x y (.cells #[.int .i64 n] 3 (0, 0)) 2 base Int (fun v => .int .i64 v) (fun l => signedL l n) := by
  intro A c l u w hl hr hx hy
  have cx := cell_blk hx 0
  have cy := cell_blk hy 0
  simp at cx cy
  have zy := frozen_blk hy 0
  clear hx hy
  obtain ⟨v, size, e, hR⟩ : ∃ v size e, Hid (signedL l n = (v, size, e)) := ⟨_, _, _, rfl⟩
  show Calls _ _ _ _ fun e w' => e = .returned (.int .i64 (signedL l n).2.2) ∧ w' = w.setCell ⟨y, 0, none⟩ (.int .i64 (signedL l n).1)
  rw [hR.out]
  go_enter Try.func33, Try.ntmps33
  go_wp2_with fail
  refine (signed_any A c l n w hr (by omega) v size e hR).mono ?_; rintro e w1 ⟨rfl, rfl⟩
  go_wp2_with fail
  go_ret
  exact ⟨rfl, rfl⟩

/-- what a cursor's number leaves: it answers, and stands behind it; or the flash has failed -/
structure IntPost (w : World) (g f c : Nat) (A : Option Addr) (bs : List UInt8) (r fl fr to at_ : Int) {V : Type} (val : V → Value) (z v : V) (k e0 : Nat) (e : Ending) (w' : World) : Prop where
  out : ∃ (e' r' d : Int) (v' : V), e = .returned (.tuple #[val v', .int .i64 e']) ∧ Hid (FL w' f A c bs r' fl) ∧ Hid (CU w' g f fr to (at_ + d)) ∧ Hid (Only [f, g] w w') ∧ r ≤ r' ∧ r' ≤ r + 11 ∧
    Hid ((e' = e0 ∧ d = k ∧ v' = v) ∨ (e' = 9 ∧ d = 0 ∧ v' = z ∧ 0 ≤ fl ∧ fl < r'))

set_option maxHeartbeats 1600000 in
set_option maxRecDepth 100000 in
theorem cur_unsigned (g f c : Nat) (A : Option Addr) (bs : List UInt8) (r fl fr to at_ n : Int) (w : World)
    (hf : Hid (FL w f A c bs r fl)) (hc : Hid (CU w g f fr to at_)) (hr1 : 0 ≤ r) (hr2 : r ≤ 900000) (hl : bs.length ≤ 1000)
    (h1 : 0 ≤ at_) (h2 : at_ ≤ to) (h4 : to ≤ (bs.length : Int)) :
    Calls Try.prog 16 #[.pointer (some ⟨g, 0, none⟩), .int .i64 n] w
      (IntPost w g f c A bs r fl fr to at_ (fun v : Nat => .int .u64 v) 0 (unsignedL (partB bs at_ (to - at_)) n).1 (unsignedL (partB bs at_ (to - at_)) n).2.1 (unsignedL (partB bs at_ (to - at_)) n).2.2) := by
  have hz : Hid ((unsignedL (partB bs at_ (to - at_)) n).2.2 ≠ 0 → (unsignedL (partB bs at_ (to - at_)) n).1 = 0) := by
    show _ → _
    intro h
    rcases unsignedL_form (partB bs at_ (to - at_)) n with ⟨a, b⟩ | ⟨a, b | ⟨o, b⟩⟩
    · rw [b]
    · rw [b]
    · rw [b] at h; exact absurd rfl h
  have hcf := callF (P := Try.prog) Try.func28 (by kernel_rfl) (by kernel_rfl)
  have HCF := hide hcf; clear hcf
  go_enter Try.func16, Try.ntmps16
  go_wp2_with fail
  have hfs := blk_lt hf.out.blk
  have hgs := blk_lt hc.out.blk
  have hb0 : Below w.heap.size w ((w.alloc (.cells #[.int .i64 n] 3)).alloc (.cells #[.int .u64 0] 39)) := ((Below.refl _ _).alloc (Nat.le_refl _) _).alloc (by simp) _
  have HX : Hid (((w.alloc (.cells #[.int .i64 n] 3)).alloc (.cells #[.int .u64 0] 39)).heap[w.heap.size]? = some (.cells #[.int .i64 n] 3 (0, 0))) := by
    show _ = _
    rw [Below.heap_alloc _ _ _ (by simp)]
    exact heap_alloc_new w _
  have HY : Hid (((w.alloc (.cells #[.int .i64 n] 3)).alloc (.cells #[.int .u64 0] 39)).heap[w.heap.size + 1]? = some (.cells #[.int .u64 0] 39 (0, 0))) := by
    show _ = _
    have := heap_alloc_new (w.alloc (.cells #[.int .i64 n] 3)) (.cells #[.int .u64 0] 39)
    simpa using this
  have HB0 := hide hb0; clear hb0
  have hnum := number_any 28 g f c w.heap.size (w.heap.size + 1) _ 39 A bs r fl fr to at_ (fun v : Nat => .int .u64 v) (fun l => unsignedL l n) (unsigned_num n) _ (.int .u64 0) HCF.out (fnU _ _ _ n (by omega)) (hide (hf.out.below HB0.out hfs)) (hide (hc.out.below HB0.out hgs)) hr1 hr2 hl h1 h2 h4 hgs (by omega) HX HY
  refine hnum.mono ?_; rintro e w1 ⟨e', r', d, v', rfl, k1, k2, k3, k4, k5, k6, k7⟩
  clear hnum
  have cy := cell_blk k6 0
  simp at cy
  have K6 := hide k6; clear k6
  have ho : Hid (Only [f, g] w w1) := by
    have h := k3.out
    have hb := HB0.out
    refine ⟨h.os.trans hb.os, h.tape.trans hb.tape, h.output.trans hb.output, Nat.le_trans hb.size h.size, fun i hi hn => (h.block i (Nat.lt_of_lt_of_le hi hb.size) ?_).trans (hb.block i hi)⟩
    simp at hn ⊢
    omega
  have K7 := hide k7; clear k7
  by_cases h0 : e' = 0
  · subst h0
    go_wp2_with fail
    go_ret2
    rcases K7.out with ⟨a, b, d'⟩ | ⟨a, _⟩
    · rw [d' (by omega)]
      exact ⟨0, r', d, _, rfl, k1, k2, ho, k4, k5, .inl ⟨a, b, rfl⟩⟩
    · omega
  · have hne : (e' != 0) = true := by simpa using h0
    have H0 := hide h0; clear h0
    go_wp2_with fail
    go_ret2
    rcases K7.out with ⟨a, b, d'⟩ | ⟨a, b, d', e''⟩
    · exact ⟨e', r', d, 0, rfl, k1, k2, ho, k4, k5, .inl ⟨a, b, (hz.out (by have := H0.out; omega)).symm⟩⟩
    · exact ⟨e', r', d, 0, rfl, k1, k2, ho, k4, k5, .inr ⟨a, b, rfl, d', e''⟩⟩

set_option maxHeartbeats 1600000 in
set_option maxRecDepth 100000 in
theorem cur_signed (g f c : Nat) (A : Option Addr) (bs : List UInt8) (r fl fr to at_ n : Int) (w : World)
    (hf : Hid (FL w f A c bs r fl)) (hc : Hid (CU w g f fr to at_)) (hr1 : 0 ≤ r) (hr2 : r ≤ 900000) (hl : bs.length ≤ 1000)
    (h1 : 0 ≤ at_) (h2 : at_ ≤ to) (h4 : to ≤ (bs.length : Int)) :
    Calls Try.prog 22 #[.pointer (some ⟨g, 0, none⟩), .int .i64 n] w
      (IntPost w g f c A bs r fl fr to at_ (fun v : Int => .int .i64 v) 0 (signedL (partB bs at_ (to - at_)) n).1 (signedL (partB bs at_ (to - at_)) n).2.1 (signedL (partB bs at_ (to - at_)) n).2.2) := by
  have hz : Hid ((signedL (partB bs at_ (to - at_)) n).2.2 ≠ 0 → (signedL (partB bs at_ (to - at_)) n).1 = 0) := by
    show _ → _
    intro h
    rcases signedL_form (partB bs at_ (to - at_)) n with ⟨a, b⟩ | ⟨a, b | ⟨o, b⟩⟩
    · rw [b]
    · rw [b]
    · rw [b] at h; exact absurd rfl h
  have hcf := callF (P := Try.prog) Try.func33 (by kernel_rfl) (by kernel_rfl)
  have HCF := hide hcf; clear hcf
  go_enter Try.func22, Try.ntmps22
  go_wp2_with fail
  have hfs := blk_lt hf.out.blk
  have hgs := blk_lt hc.out.blk
  have hb0 : Below w.heap.size w ((w.alloc (.cells #[.int .i64 n] 3)).alloc (.cells #[.int .i64 0] 2)) := ((Below.refl _ _).alloc (Nat.le_refl _) _).alloc (by simp) _
  have HX : Hid (((w.alloc (.cells #[.int .i64 n] 3)).alloc (.cells #[.int .i64 0] 2)).heap[w.heap.size]? = some (.cells #[.int .i64 n] 3 (0, 0))) := by
    show _ = _
    rw [Below.heap_alloc _ _ _ (by simp)]
    exact heap_alloc_new w _
  have HY : Hid (((w.alloc (.cells #[.int .i64 n] 3)).alloc (.cells #[.int .i64 0] 2)).heap[w.heap.size + 1]? = some (.cells #[.int .i64 0] 2 (0, 0))) := by
    show _ = _
    have := heap_alloc_new (w.alloc (.cells #[.int .i64 n] 3)) (.cells #[.int .i64 0] 2)
    simpa using this
  have HB0 := hide hb0; clear hb0
  have hnum := number_any 33 g f c w.heap.size (w.heap.size + 1) _ 2 A bs r fl fr to at_ (fun v : Int => .int .i64 v) (fun l => signedL l n) (signed_num n) _ (.int .i64 0) HCF.out (fnS _ _ _ n (by omega)) (hide (hf.out.below HB0.out hfs)) (hide (hc.out.below HB0.out hgs)) hr1 hr2 hl h1 h2 h4 hgs (by omega) HX HY
  refine hnum.mono ?_; rintro e w1 ⟨e', r', d, v', rfl, k1, k2, k3, k4, k5, k6, k7⟩
  clear hnum
  have cy := cell_blk k6 0
  simp at cy
  have K6 := hide k6; clear k6
  have ho : Hid (Only [f, g] w w1) := by
    have h := k3.out
    have hb := HB0.out
    refine ⟨h.os.trans hb.os, h.tape.trans hb.tape, h.output.trans hb.output, Nat.le_trans hb.size h.size, fun i hi hn => (h.block i (Nat.lt_of_lt_of_le hi hb.size) ?_).trans (hb.block i hi)⟩
    simp at hn ⊢
    omega
  have K7 := hide k7; clear k7
  by_cases h0 : e' = 0
  · subst h0
    go_wp2_with fail
    go_ret2
    rcases K7.out with ⟨a, b, d'⟩ | ⟨a, _⟩
    · rw [d' (by omega)]
      exact ⟨0, r', d, _, rfl, k1, k2, ho, k4, k5, .inl ⟨a, b, rfl⟩⟩
    · omega
  · have hne : (e' != 0) = true := by simpa using h0
    have H0 := hide h0; clear h0
    go_wp2_with fail
    go_ret2
    rcases K7.out with ⟨a, b, d'⟩ | ⟨a, b, d', e''⟩
    · exact ⟨e', r', d, 0, rfl, k1, k2, ho, k4, k5, .inl ⟨a, b, (hz.out (by have := H0.out; omega)).symm⟩⟩
    · exact ⟨e', r', d, 0, rfl, k1, k2, ho, k4, k5, .inr ⟨a, b, rfl, d', e''⟩⟩
end Go.Proofs.Ytiaigkpnhmgphaa
