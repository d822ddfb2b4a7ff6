/-
  flash: a cursor's Unsigned and Signed: contracts.
  flash: FlashFails: the law's walk.
  word.Cut, conv.Wrap: contracts.
  instr: a reader of numbers: number, signed, byte, fail: contracts.
-/
import Derived.Test.YtpanlhbdphobdaaGreatDoorFaAO
import Derived.Test.YtpanlhbdphobdaaGreatDoorRows
import Derived.Test.YtpanlhbdphobdaaGreatDoorDeAC
import Derived.IntWalk
import Derived.Outline
import Derived.Test.YtpanlhbdphobdaaGreatDoorDeAL
namespace Go.Proofs.YtpanlhbdphobdaaGreatDoor
open Go.RowKit
set_option linter.unusedVariables false

theorem callF {P : Program} {F : FuncId} {fn : Func} (h1 : P.funcs[F]? = some fn) (h2 : (fn.name == "runtime.NumGoroutine") = false) (h3 : fn.body.isNone = false) (args : Array Value) (W : World) : (callFunc F args).run P W = .ok (.enter F args) W := by
  unfold callFunc
  have h2' : ¬ fn.name = "runtime.NumGoroutine" := by simpa using h2
  have h3' : ¬ fn.body = none := fun e => by rw [e] at h3; cases h3
  simp [h1, h2', h3']

set_option maxHeartbeats 800000 in
theorem fnU (x y base : Nat) (n : Int) (hxy : x < y) : IsFn 147 x y (.cells #[.int .i64 n] 3 (0, 0)) 22 base Nat (fun v => .int .u64 v) (fun l => unsignedL l n) := by
  intro A c l u w hl hr hx hy
  have cx := cell_blk hx 0
  have cy := cell_blk hy 0
  simp at cx cy
  have zy := frozen_blk hy 0
  clear hx hy
  obtain ⟨v, size, e, hR⟩ : ∃ v size e, Hid (unsignedL l n = (v, size, e)) := ⟨_, _, _, rfl⟩
  show Calls _ _ _ _ fun e w' => e = .returned (.int .i64 (unsignedL l n).2.2) ∧ w' = w.setCell ⟨y, 0, none⟩ (.int .u64 (unsignedL l n).1)
  rw [hR.out]
  go_enter Tryz.func147, Tryz.ntmps147
  go_wp2_with fail
  refine (unsigned_any A c l n w hr (by omega) v size e hR).mono ?_; rintro e w1 ⟨rfl, rfl⟩
  go_wp2_with fail
  go_ret
  exact ⟨rfl, rfl⟩

set_option maxHeartbeats 800000 in
theorem fnS (x y base : Nat) (n : Int) (hxy : x < y) : IsFn 177 x y (.cells #[.int .i64 n] 3 (0, 0)) 2 base Int (fun v => .int .i64 v) (fun l => signedL l n) := by
  intro A c l u w hl hr hx hy
  have cx := cell_blk hx 0
  have cy := cell_blk hy 0
  simp at cx cy
  have zy := frozen_blk hy 0
  clear hx hy
  obtain ⟨v, size, e, hR⟩ : ∃ v size e, Hid (signedL l n = (v, size, e)) := ⟨_, _, _, rfl⟩
  show Calls _ _ _ _ fun e w' => e = .returned (.int .i64 (signedL l n).2.2) ∧ w' = w.setCell ⟨y, 0, none⟩ (.int .i64 (signedL l n).1)
  rw [hR.out]
  go_enter Tryz.func177, Tryz.ntmps177
  go_wp2_with fail
  refine (signed_any A c l n w hr (by omega) v size e hR).mono ?_; rintro e w1 ⟨rfl, rfl⟩
  go_wp2_with fail
  go_ret
  exact ⟨rfl, rfl⟩

/-- what a cursor's number leaves: it answers, and stands behind it; or the flash has failed -/
structure IntPost (w : World) (g f c : Nat) (A : Option Addr) (bs : List UInt8) (r fl fr tu at_ : Int) {V : Type} (val : V → Value) (z v : V) (k e0 : Nat) (e : Ending) (w' : World) : Prop where
  out : ∃ (e' r' d : Int) (v' : V), e = .returned (.tuple #[val v', .int .i64 e']) ∧ Hid (FL w' f A c bs r' fl) ∧ Hid (CU w' g f fr tu (at_ + d)) ∧ Hid (Only [f, g] w w') ∧ r ≤ r' ∧ r' ≤ r + 11 ∧ Hid (e' = 0 → r' = r ∨ fl < 0 ∨ r' ≤ fl) ∧
    Hid ((e' = e0 ∧ d = k ∧ v' = v) ∨ (e' = 9 ∧ d = 0 ∧ v' = z ∧ 0 ≤ fl ∧ fl < r'))

set_option maxHeartbeats 1600000 in
set_option maxRecDepth 100000 in
theorem cur_unsigned (g f c : Nat) (A : Option Addr) (bs : List UInt8) (r fl fr tu at_ n : Int) (w : World)
    (hf : Hid (FL w f A c bs r fl)) (hc : Hid (CU w g f fr tu at_)) (hr1 : 0 ≤ r) (hr2 : r ≤ 900000) (hl : bs.length ≤ 1000)
    (h1 : 0 ≤ at_) (h2 : at_ ≤ tu) (h4 : tu ≤ (bs.length : Int)) :
    Calls Tryz.prog 115 #[.pointer (some ⟨g, 0, none⟩), .int .i64 n] w
      (IntPost w g f c A bs r fl fr tu at_ (fun v : Nat => .int .u64 v) 0 (unsignedL (partB bs at_ (tu - at_)) n).1 (unsignedL (partB bs at_ (tu - at_)) n).2.1 (unsignedL (partB bs at_ (tu - at_)) n).2.2) := by
  have hz : Hid ((unsignedL (partB bs at_ (tu - at_)) n).2.2 ≠ 0 → (unsignedL (partB bs at_ (tu - at_)) n).1 = 0) := by
    show _ → _
    intro h
    rcases unsignedL_form (partB bs at_ (tu - at_)) n with ⟨a, b⟩ | ⟨a, b | ⟨o, b⟩⟩
    · rw [b]
    · rw [b]
    · rw [b] at h; exact absurd rfl h
  have hcf := callF (P := Tryz.prog) Tryz.func147 (by kernel_rfl) (by kernel_rfl)
  have HCF := hide hcf; clear hcf
  go_enter Tryz.func115, Tryz.ntmps115
  go_wp2_with fail
  have hfs := blk_lt hf.out.blk
  have hgs := blk_lt hc.out.blk
  have hb0 : Below w.heap.size w ((w.alloc (.cells #[.int .i64 n] 3)).alloc (.cells #[.int .u64 0] 22)) := ((Below.refl _ _).alloc (Nat.le_refl _) _).alloc (by simp) _
  have HX : Hid (((w.alloc (.cells #[.int .i64 n] 3)).alloc (.cells #[.int .u64 0] 22)).heap[w.heap.size]? = some (.cells #[.int .i64 n] 3 (0, 0))) := by
    show _ = _
    rw [Below.heap_alloc _ _ _ (by simp)]
    exact heap_alloc_new w _
  have HY : Hid (((w.alloc (.cells #[.int .i64 n] 3)).alloc (.cells #[.int .u64 0] 22)).heap[w.heap.size + 1]? = some (.cells #[.int .u64 0] 22 (0, 0))) := by
    show _ = _
    have := heap_alloc_new (w.alloc (.cells #[.int .i64 n] 3)) (.cells #[.int .u64 0] 22)
    simpa using this
  have HB0 := hide hb0; clear hb0
  have hnum := number_any 147 g f c w.heap.size (w.heap.size + 1) _ 22 A bs r fl fr tu at_ (fun v : Nat => .int .u64 v) (fun l => unsignedL l n) (unsigned_num n) _ (.int .u64 0) HCF.out (fnU _ _ _ n (by omega)) (hide (hf.out.below HB0.out hfs)) (hide (hc.out.below HB0.out hgs)) hr1 hr2 hl h1 h2 h4 hgs (by omega) HX HY
  refine hnum.mono ?_; rintro e w1 ⟨e', r', d, v', rfl, k1, k2, k3, k4, k5, k6, k8, k7⟩
  clear hnum
  have cy := cell_blk k6 0
  simp at cy
  have K6 := hide k6; clear k6
  have ho : Hid (Only [f, g] w w1) := by
    have h := k3.out
    have hb := HB0.out
    refine ⟨h.os.trans hb.os, h.tape.trans hb.tape, h.output.trans hb.output, Nat.le_trans hb.size h.size, fun i hi hn => (h.block i (Nat.lt_of_lt_of_le hi hb.size) ?_).trans (hb.block i hi)⟩
    simp at hn ⊢
    omega
  have K7 := hide k7; clear k7
  by_cases h0 : e' = 0
  · subst h0
    go_wp2_with fail
    go_ret2
    rcases K7.out with ⟨a, b, d'⟩ | ⟨a, _⟩
    · rw [d' (by omega)]
      exact ⟨0, r', d, _, rfl, k1, k2, ho, k4, k5, (fun _ => k8.out trivial), .inl ⟨a, b, rfl⟩⟩
    · omega
  · have hne : (e' != 0) = true := by simpa using h0
    have H0 := hide h0; clear h0
    go_wp2_with fail
    go_ret2
    rcases K7.out with ⟨a, b, d'⟩ | ⟨a, b, d', e''⟩
    · exact ⟨e', r', d, 0, rfl, k1, k2, ho, k4, k5, k8, .inl ⟨a, b, (hz.out (by have := H0.out; omega)).symm⟩⟩
    · exact ⟨e', r', d, 0, rfl, k1, k2, ho, k4, k5, k8, .inr ⟨a, b, rfl, d', e''⟩⟩

set_option maxHeartbeats 1600000 in
set_option maxRecDepth 100000 in
theorem cur_signed (g f c : Nat) (A : Option Addr) (bs : List UInt8) (r fl fr tu at_ n : Int) (w : World)
    (hf : Hid (FL w f A c bs r fl)) (hc : Hid (CU w g f fr tu at_)) (hr1 : 0 ≤ r) (hr2 : r ≤ 900000) (hl : bs.length ≤ 1000)
    (h1 : 0 ≤ at_) (h2 : at_ ≤ tu) (h4 : tu ≤ (bs.length : Int)) :
    Calls Tryz.prog 149 #[.pointer (some ⟨g, 0, none⟩), .int .i64 n] w
      (IntPost w g f c A bs r fl fr tu at_ (fun v : Int => .int .i64 v) 0 (signedL (partB bs at_ (tu - at_)) n).1 (signedL (partB bs at_ (tu - at_)) n).2.1 (signedL (partB bs at_ (tu - at_)) n).2.2) := by
  have hz : Hid ((signedL (partB bs at_ (tu - at_)) n).2.2 ≠ 0 → (signedL (partB bs at_ (tu - at_)) n).1 = 0) := by
    show _ → _
    intro h
    rcases signedL_form (partB bs at_ (tu - at_)) n with ⟨a, b⟩ | ⟨a, b | ⟨o, b⟩⟩
    · rw [b]
    · rw [b]
    · rw [b] at h; exact absurd rfl h
  have hcf := callF (P := Tryz.prog) Tryz.func177 (by kernel_rfl) (by kernel_rfl)
  have HCF := hide hcf; clear hcf
  go_enter Tryz.func149, Tryz.ntmps149
  go_wp2_with fail
  have hfs := blk_lt hf.out.blk
  have hgs := blk_lt hc.out.blk
  have hb0 : Below w.heap.size w ((w.alloc (.cells #[.int .i64 n] 3)).alloc (.cells #[.int .i64 0] 2)) := ((Below.refl _ _).alloc (Nat.le_refl _) _).alloc (by simp) _
  have HX : Hid (((w.alloc (.cells #[.int .i64 n] 3)).alloc (.cells #[.int .i64 0] 2)).heap[w.heap.size]? = some (.cells #[.int .i64 n] 3 (0, 0))) := by
    show _ = _
    rw [Below.heap_alloc _ _ _ (by simp)]
    exact heap_alloc_new w _
  have HY : Hid (((w.alloc (.cells #[.int .i64 n] 3)).alloc (.cells #[.int .i64 0] 2)).heap[w.heap.size + 1]? = some (.cells #[.int .i64 0] 2 (0, 0))) := by
    show _ = _
    have := heap_alloc_new (w.alloc (.cells #[.int .i64 n] 3)) (.cells #[.int .i64 0] 2)
    simpa using this
  have HB0 := hide hb0; clear hb0
  have hnum := number_any 177 g f c w.heap.size (w.heap.size + 1) _ 2 A bs r fl fr tu at_ (fun v : Int => .int .i64 v) (fun l => signedL l n) (signed_num n) _ (.int .i64 0) HCF.out (fnS _ _ _ n (by omega)) (hide (hf.out.below HB0.out hfs)) (hide (hc.out.below HB0.out hgs)) hr1 hr2 hl h1 h2 h4 hgs (by omega) HX HY
  refine hnum.mono ?_; rintro e w1 ⟨e', r', d, v', rfl, k1, k2, k3, k4, k5, k6, k8, k7⟩
  clear hnum
  have cy := cell_blk k6 0
  simp at cy
  have K6 := hide k6; clear k6
  have ho : Hid (Only [f, g] w w1) := by
    have h := k3.out
    have hb := HB0.out
    refine ⟨h.os.trans hb.os, h.tape.trans hb.tape, h.output.trans hb.output, Nat.le_trans hb.size h.size, fun i hi hn => (h.block i (Nat.lt_of_lt_of_le hi hb.size) ?_).trans (hb.block i hi)⟩
    simp at hn ⊢
    omega
  have K7 := hide k7; clear k7
  by_cases h0 : e' = 0
  · subst h0
    go_wp2_with fail
    go_ret2
    rcases K7.out with ⟨a, b, d'⟩ | ⟨a, _⟩
    · rw [d' (by omega)]
      exact ⟨0, r', d, _, rfl, k1, k2, ho, k4, k5, (fun _ => k8.out trivial), .inl ⟨a, b, rfl⟩⟩
    · omega
  · have hne : (e' != 0) = true := by simpa using h0
    have H0 := hide h0; clear h0
    go_wp2_with fail
    go_ret2
    rcases K7.out with ⟨a, b, d'⟩ | ⟨a, b, d', e''⟩
    · exact ⟨e', r', d, 0, rfl, k1, k2, ho, k4, k5, k8, .inl ⟨a, b, (hz.out (by have := H0.out; omega)).symm⟩⟩
    · exact ⟨e', r', d, 0, rfl, k1, k2, ho, k4, k5, k8, .inr ⟨a, b, rfl, d', e''⟩⟩
end Go.Proofs.YtpanlhbdphobdaaGreatDoor

namespace Go.Proofs.YtpanlhbdphobdaaGreatDoor
open Go.RowKit
set_option linter.unusedVariables false

theorem u8_bd {n : Int} (h : (Lit.int .u8 n).wf = true) : 0 ≤ n ∧ n ≤ 255 := by
  simpa [Lit.wf, IntKind.min, IntKind.max, IntKind.signed, IntKind.bits] using h

/-- what a read without a sign answers, in cases -/
theorem unsigned_cases (l : List UInt8) (n : Int) : ((unsignedL l n).2.2 = 0 ∧ 1 ≤ (unsignedL l n).2.1 ∧ (unsignedL l n).2.1 ≤ l.length) ∨ ((unsignedL l n).2.2 ≠ 0 ∧ (unsignedL l n).2.2 ≤ 4 ∧ (unsignedL l n).2.1 = 0) := by
  have h := unsigned_num n
  by_cases h0 : (unsignedL l n).2.2 = 0
  · obtain ⟨a, b, _⟩ := h.self l h0
    exact .inl ⟨h0, b, a⟩
  · exact .inr ⟨h0, h.le l, h.none_ l h0⟩
theorem signed_cases (l : List UInt8) (n : Int) : ((signedL l n).2.2 = 0 ∧ 1 ≤ (signedL l n).2.1 ∧ (signedL l n).2.1 ≤ l.length) ∨ ((signedL l n).2.2 ≠ 0 ∧ (signedL l n).2.2 ≤ 4 ∧ (signedL l n).2.1 = 0) := by
  have h := signed_num n
  by_cases h0 : (signedL l n).2.2 = 0
  · obtain ⟨a, b, _⟩ := h.self l h0
    exact .inl ⟨h0, b, a⟩
  · exact .inr ⟨h0, h.le l, h.none_ l h0⟩

set_option maxHeartbeats 400000 in
theorem bytes_range2 (f c : Nat) (A : Option Addr) (bs : List UInt8) (r fl a n : Int) (w : World) (hf : Hid (FL w f A c bs r fl)) (hl : bs.length ≤ 65536)
    (h1 : 0 ≤ a) (h2 : 0 ≤ n) (h3 : a ≤ bs.length) (h4 : (bs.length : Int) - a < n) :
    Calls Tryz.prog 191 #[.pointer (some ⟨f, 0, none⟩), .int .i64 a, .int .i64 n] w fun e w' => e = .returned (.tuple #[.slice none 0 0, .int .i64 2]) ∧ Hid (Only [] w w') := by
  have c0 := cell_blk hf.out.blk 0
  simp at c0
  go_enter Tryz.func191, Tryz.ntmps191
  go_wp2_with fail
  go_ret2
  exact ⟨rfl, ⟨rfl, rfl, rfl, Nat.le_refl _, fun _ _ _ => rfl⟩⟩

end Go.Proofs.YtpanlhbdphobdaaGreatDoor

namespace Go.Proofs.YtpanlhbdphobdaaGreatDoor
open Go.RowKit
set_option linter.unusedVariables false

set_option maxHeartbeats 400000 in
theorem cut_any (n x : Int) (w : World) (h0 : 0 ≤ x) (h1 : x ≤ 18446744073709551615) :
    Calls Tryz.prog 141 #[.int .i64 n, .int .u64 x] w fun e w' => e = .returned (.int .u64 (if n = 32 then x % 4294967296 else x)) ∧ w = w' := by
  by_cases h : n = 32
  · subst h
    go_enter Tryz.func141, Tryz.ntmps141
    go_wp2_with fail
    go_ret
    exact ⟨rfl, rfl⟩
  · have h' : (n == 32) = false := by simpa using h
    rw [if_neg h]
    clear h
    go_enter Tryz.func141, Tryz.ntmps141
    go_wp2_with fail
    go_ret
    exact ⟨rfl, rfl⟩

theorem u64_wrap_bd (x : Int) : 0 ≤ IntKind.u64.wrap x ∧ IntKind.u64.wrap x ≤ 18446744073709551615 := by
  rw [IntKind.wrap_u64]; omega
set_option maxHeartbeats 400000 in
theorem wrap_any (a : Nat) (w : World) (ha : a ≤ 18446744073709551615) :
    Calls Tryz.prog 118 #[.int .u64 a] w fun e w' => e = .returned (.int .u64 ((a : Int) % 4294967296)) ∧ w = w' := by
  have H := hide (cut_any 32 a w (by omega) (by omega))
  rw [if_pos rfl] at H
  go_enter Tryz.func118, Tryz.ntmps118
  go_wp2_with fail
  refine H.out.mono ?_; rintro e w' ⟨rfl, rfl⟩
  go_wp2_with fail
  go_ret
  exact ⟨rfl, rfl⟩

end Go.Proofs.YtpanlhbdphobdaaGreatDoor

namespace Go.Proofs.YtpanlhbdphobdaaGreatDoor
open Go.RowKit
set_option linter.unusedVariables false

/-- a reader of numbers: its cursor, the error so far -/
structure RS (w : World) (rb g f c : Nat) (A : Option Addr) (bs : List UInt8) (r fl fr tu at_ e : Int) : Prop where
  blk : w.heap[rb]? = some (.cells #[.pointer (some ⟨g, 0, none⟩), .int .i64 e] 94 (0, 0))
  fl_ : FL w f A c bs r fl
  cu : CU w g f fr tu at_
  lt : g < rb
  good : e = 0 → fl < 0 ∨ r ≤ fl
theorem RS.keep {w w' : World} {rb g f c : Nat} {A : Option Addr} {bs : List UInt8} {r fl fr tu at_ e : Int} {S : List Nat} (h : RS w rb g f c A bs r fl fr tu at_ e) (ho : Only S w w') (h1 : rb ∉ S) (h2 : g ∉ S) (h3 : f ∉ S) (hS : ∀ x, x ∈ S → f ≤ x) : RS w' rb g f c A bs r fl fr tu at_ e :=
  ⟨(ho.block rb (blk_lt h.blk) h1).trans h.blk, h.fl_.keep ho h3 hS, h.cu.keep ho h2, h.lt, h.good⟩
theorem RS.below {w w' : World} {rb g f c : Nat} {A : Option Addr} {bs : List UInt8} {r fl fr tu at_ e : Int} {Bk : Nat} (h : RS w rb g f c A bs r fl fr tu at_ e) (hb : Below Bk w w') (h1 : rb < Bk) : RS w' rb g f c A bs r fl fr tu at_ e :=
  ⟨(hb.block rb h1).trans h.blk, h.fl_.below hb (by have := h.lt; have := h.cu.lt; omega), h.cu.below hb (by have := h.lt; omega), h.lt, h.good⟩
/-- the cursor has moved, and the reader knows the error -/
theorem RS.set {w w' : World} {rb g f c : Nat} {A : Option Addr} {bs : List UInt8} {r fl fr tu at_ e r' at' : Int} (h : RS w rb g f c A bs r fl fr tu at_ e) (ho : Only [f, g] w w') (hf : FL w' f A c bs r' fl) (hc : CU w' g f fr tu at') (e' : Int) (hgood : e' = 0 → fl < 0 ∨ r' ≤ fl) :
    RS (w'.setCell ⟨rb, 1, none⟩ (.int .i64 e')) rb g f c A bs r' fl fr tu at' e' ∧ Only [f, g, rb] w (w'.setCell ⟨rb, 1, none⟩ (.int .i64 e')) := by
  have hl := h.lt
  have hl2 := h.cu.lt
  have hs : Only [rb] w' (w'.setCell ⟨rb, 1, none⟩ (.int .i64 e')) := Only.setCell w' (p := ⟨rb, 1, none⟩) (by simp) _
  refine ⟨⟨?_, hf.keep hs (by simp; omega) (by simp; omega), hc.keep hs (by simp; omega), hl, hgood⟩, (ho.more (by simp)).trans (hs.more (by simp))⟩
  rw [setCell_blk ((ho.block rb (blk_lt h.blk) (by simp; omega)).trans h.blk)]
  rfl

/-- how a step ends: well, as the bytes tell; or with an error: that of before, the bytes', or the flash has failed -/
def Out (fl e : Int) (E : Nat) (r' e' : Int) (P : Prop) : Prop :=
  (e = 0 ∧ e' = 0 ∧ E = 0 ∧ P) ∨ (e' ≠ 0 ∧ ((e ≠ 0 ∧ e' = e) ∨ (e = 0 ∧ E ≠ 0 ∧ e' = E) ∨ (e = 0 ∧ e' = 9 ∧ 0 ≤ fl ∧ fl < r')))

structure NumStep (w : World) (rb g f c : Nat) (A : Option Addr) (bs : List UInt8) (r fl fr tu at_ e : Int) {V : Type} (val : V → Value) (z : V) (res : V × Nat × Nat) (en : Ending) (w' : World) : Prop where
  out : ∃ (v : V) (r' at' e' : Int), en = .returned (val v) ∧ Hid (RS w' rb g f c A bs r' fl fr tu at' e') ∧ Hid (Only [f, g, rb] w w') ∧ r ≤ r' ∧ r' ≤ r + 11 ∧ at_ ≤ at' ∧ at' ≤ tu ∧ Hid (e' ≠ 0 → v = z) ∧ Hid (e ≠ 0 → at' = at_) ∧
    Hid (Out fl e res.2.2 r' e' (v = res.1 ∧ at' = at_ + res.2.1))

set_option maxHeartbeats 800000 in
theorem number_step (rb g f c : Nat) (A : Option Addr) (bs : List UInt8) (r fl fr tu at_ e n : Int) (w : World) (h : Hid (RS w rb g f c A bs r fl fr tu at_ e))
    (hr1 : 0 ≤ r) (hr2 : r ≤ 900000) (hl : bs.length ≤ 1000) (h1 : 0 ≤ at_) (h2 : at_ ≤ tu) (h4 : tu ≤ (bs.length : Int)) :
    Calls Tryz.prog 82 #[.pointer (some ⟨rb, 0, none⟩), .int .i64 n] w
      (NumStep w rb g f c A bs r fl fr tu at_ e (fun v : Nat => .int .u64 v) 0 (unsignedL (partB bs at_ (tu - at_)) n)) := by
  have c0 := cell_blk h.out.blk 0
  have c1 := cell_blk h.out.blk 1
  simp at c0 c1
  by_cases he : e = 0
  · subst he
    have z1 := frozen_blk h.out.blk 1
    have hcu := hide (cur_unsigned g f c A bs r fl fr tu at_ n w (hide h.out.fl_) (hide h.out.cu) hr1 hr2 hl h1 h2 h4)
    go_enter Tryz.func82, Tryz.ntmps82
    go_wp2_with fail
    refine hcu.out.mono ?_; rintro en w1 ⟨e', r', d, v', rfl, k1, k2, k3, k4, k5, kg, k6⟩
    have hb1 := hide ((k3.out.block rb (blk_lt h.out.blk) (by have := h.out.lt; have := h.out.cu.lt; simp; omega)).trans h.out.blk)
    have d1 := cell_blk hb1.out 1
    simp at d1
    have z1' := frozen_blk hb1.out 1
    go_wp2_with fail
    go_ret
    obtain ⟨q1, q2⟩ := h.out.set k3.out k1.out k2.out e' (fun h0 => by rcases kg.out h0 with h1 | h1; (rw [h1]; exact h.out.good rfl); exact h1)
    have hcs := unsigned_cases (partB bs at_ (tu - at_)) n
    have hpl := part_len bs at_ (tu - at_) h1 (by omega) (by omega)
    have hfm := unsignedL_form (partB bs at_ (tu - at_)) n
    have hk6 := k6.out
    refine ⟨v', r', at_ + d, e', rfl, q1, q2, k4, k5, ?_, ?_, ?_, fun h0 => absurd rfl h0, ?_⟩
    · omega
    · omega
    · show _ → _
      intro h0
      rcases hk6 with ⟨a, _, b⟩ | ⟨_, _, b, _⟩
      · rcases hfm with ⟨_, x⟩ | ⟨_, x | ⟨o, x⟩⟩
        · rw [b, x]
        · rw [b, x]
        · rw [x] at a; exact absurd a h0
      · exact b
    · show Out _ _ _ _ _ _
      rcases hk6 with ⟨a, b, d'⟩ | ⟨a, b, _, d1, d2⟩
      · by_cases h0 : e' = 0
        · exact .inl ⟨rfl, h0, by omega, d', by omega⟩
        · exact .inr ⟨h0, .inr (.inl ⟨rfl, by omega, a⟩)⟩
      · exact .inr ⟨by omega, .inr (.inr ⟨rfl, a, d1, d2⟩)⟩
  · have f1 : (e == 0) = false := by simpa using he
    have f2 : (e != 0) = true := by simpa using he
    have HE := hide he; clear he
    go_enter Tryz.func82, Tryz.ntmps82
    go_wp2_with fail
    go_ret
    exact ⟨0, r, at_, e, rfl, h, Only.refl _ _, by omega, by omega, by omega, h2, fun _ => rfl, fun _ => rfl, .inr ⟨HE.out, .inl ⟨HE.out, rfl⟩⟩⟩
set_option maxHeartbeats 800000 in
theorem signed_step (rb g f c : Nat) (A : Option Addr) (bs : List UInt8) (r fl fr tu at_ e n : Int) (w : World) (h : Hid (RS w rb g f c A bs r fl fr tu at_ e))
    (hr1 : 0 ≤ r) (hr2 : r ≤ 900000) (hl : bs.length ≤ 1000) (h1 : 0 ≤ at_) (h2 : at_ ≤ tu) (h4 : tu ≤ (bs.length : Int)) :
    Calls Tryz.prog 117 #[.pointer (some ⟨rb, 0, none⟩), .int .i64 n] w
      (NumStep w rb g f c A bs r fl fr tu at_ e (fun v : Int => .int .i64 v) 0 (signedL (partB bs at_ (tu - at_)) n)) := by
  have c0 := cell_blk h.out.blk 0
  have c1 := cell_blk h.out.blk 1
  simp at c0 c1
  by_cases he : e = 0
  · subst he
    have z1 := frozen_blk h.out.blk 1
    have hcu := hide (cur_signed g f c A bs r fl fr tu at_ n w (hide h.out.fl_) (hide h.out.cu) hr1 hr2 hl h1 h2 h4)
    go_enter Tryz.func117, Tryz.ntmps117
    go_wp2_with fail
    refine hcu.out.mono ?_; rintro en w1 ⟨e', r', d, v', rfl, k1, k2, k3, k4, k5, kg, k6⟩
    have hb1 := hide ((k3.out.block rb (blk_lt h.out.blk) (by have := h.out.lt; have := h.out.cu.lt; simp; omega)).trans h.out.blk)
    have d1 := cell_blk hb1.out 1
    simp at d1
    have z1' := frozen_blk hb1.out 1
    go_wp2_with fail
    go_ret
    obtain ⟨q1, q2⟩ := h.out.set k3.out k1.out k2.out e' (fun h0 => by rcases kg.out h0 with h1 | h1; (rw [h1]; exact h.out.good rfl); exact h1)
    have hcs := signed_cases (partB bs at_ (tu - at_)) n
    have hpl := part_len bs at_ (tu - at_) h1 (by omega) (by omega)
    have hfm := signedL_form (partB bs at_ (tu - at_)) n
    have hk6 := k6.out
    refine ⟨v', r', at_ + d, e', rfl, q1, q2, k4, k5, ?_, ?_, ?_, fun h0 => absurd rfl h0, ?_⟩
    · omega
    · omega
    · show _ → _
      intro h0
      rcases hk6 with ⟨a, _, b⟩ | ⟨_, _, b, _⟩
      · rcases hfm with ⟨_, x⟩ | ⟨_, x | ⟨o, x⟩⟩
        · rw [b, x]
        · rw [b, x]
        · rw [x] at a; exact absurd a h0
      · exact b
    · show Out _ _ _ _ _ _
      rcases hk6 with ⟨a, b, d'⟩ | ⟨a, b, _, d1, d2⟩
      · by_cases h0 : e' = 0
        · exact .inl ⟨rfl, h0, by omega, d', by omega⟩
        · exact .inr ⟨h0, .inr (.inl ⟨rfl, by omega, a⟩)⟩
      · exact .inr ⟨by omega, .inr (.inr ⟨rfl, a, d1, d2⟩)⟩
  · have f1 : (e == 0) = false := by simpa using he
    have f2 : (e != 0) = true := by simpa using he
    have HE := hide he; clear he
    go_enter Tryz.func117, Tryz.ntmps117
    go_wp2_with fail
    go_ret
    exact ⟨0, r, at_, e, rfl, h, Only.refl _ _, by omega, by omega, by omega, h2, fun _ => rfl, fun _ => rfl, .inr ⟨HE.out, .inl ⟨HE.out, rfl⟩⟩⟩
theorem partB_cons (bs : List UInt8) (at_ tu : Int) (b : UInt8) (h1 : 0 ≤ at_) (h3 : at_ < tu) (hb : bs[at_.toNat]? = some b) : ∃ r, partB bs at_ (tu - at_) = b :: r := by
  obtain ⟨hk, hv⟩ := List.getElem?_eq_some_iff.1 hb
  unfold partB
  rw [List.drop_eq_getElem_cons hk, hv]
  obtain ⟨m, hm⟩ : ∃ m, (tu - at_).toNat = m + 1 := ⟨(tu - at_).toNat - 1, by omega⟩
  rw [hm]
  exact ⟨_, rfl⟩

set_option maxHeartbeats 1600000 in
theorem byte_step (rb g f c : Nat) (A : Option Addr) (bs : List UInt8) (r fl fr tu at_ e : Int) (w : World) (h : Hid (RS w rb g f c A bs r fl fr tu at_ e))
    (hr1 : 0 ≤ r) (hr2 : r ≤ 900000) (hl : bs.length ≤ 1000) (h1 : 0 ≤ at_) (h2 : at_ ≤ tu) (h4 : tu ≤ (bs.length : Int)) :
    Calls Tryz.prog 81 #[.pointer (some ⟨rb, 0, none⟩)] w
      (NumStep w rb g f c A bs r fl fr tu at_ e (fun v : Nat => .int .u8 v) 0 (byteL (partB bs at_ (tu - at_)))) := by
  have c0 := cell_blk h.out.blk 0
  have c1 := cell_blk h.out.blk 1
  simp at c0 c1
  by_cases he : e = 0
  · subst he
    have z1 := frozen_blk h.out.blk 1
    by_cases hat : at_ < tu
    · obtain ⟨b, hb⟩ : ∃ b, bs[at_.toNat]? = some b := ⟨_, List.getElem?_eq_getElem (by omega)⟩
      obtain ⟨rest, hp⟩ := partB_cons bs at_ tu b h1 hat hb
      rw [hp]
      clear hp
      by_cases hf : fl < 0 ∨ r < fl
      · have hcu := hide (byte_ok g f c A bs r fl fr tu at_ b w (hide h.out.fl_) (hide h.out.cu) hr1 (by omega) (by omega) h1 hat h4 hf (hide hb))
        have HFF := hide hf
        clear hf hb
        go_enter Tryz.func81, Tryz.ntmps81
        go_wp2_with fail
        refine hcu.out.mono ?_; rintro en w1 ⟨rfl, k1, k2, k3⟩
        have hb1 := hide ((k3.out.block rb (blk_lt h.out.blk) (by have := h.out.lt; have := h.out.cu.lt; simp; omega)).trans h.out.blk)
        have d1 := cell_blk hb1.out 1
        simp at d1
        have z1' := frozen_blk hb1.out 1
        go_wp2_with fail
        go_ret
        obtain ⟨q1, q2⟩ := h.out.set k3.out k1.out k2.out 0 (fun _ => by have := HFF.out; omega)
        exact ⟨b.toNat, r + 1, at_ + 1, 0, rfl, q1, q2, by omega, by omega, by omega, by omega, fun h0 => absurd rfl h0, fun h0 => absurd rfl h0, .inl ⟨rfl, rfl, rfl, rfl, by simp [byteL]⟩⟩
      · have hcu := hide (byte_fault g f c A bs r fl fr tu at_ w (hide h.out.fl_) (hide h.out.cu) hr1 (by omega) (by omega) h1 hat h4 (by omega) (by omega))
        have hf1 : 0 ≤ fl := by omega
        have hf2 : fl ≤ r := by omega
        clear hf hb
        go_enter Tryz.func81, Tryz.ntmps81
        go_wp2_with fail
        refine hcu.out.mono ?_; rintro en w1 ⟨rfl, k1, k2, k3⟩
        have hb1 := hide ((k3.out.block rb (blk_lt h.out.blk) (by have := h.out.lt; have := h.out.cu.lt; simp; omega)).trans h.out.blk)
        have d1 := cell_blk hb1.out 1
        simp at d1
        have z1' := frozen_blk hb1.out 1
        go_wp2_with fail
        go_ret
        obtain ⟨q1, q2⟩ := h.out.set (k3.out.more (by simp)) k1.out k2.out 9 (fun h0 => absurd h0 (by omega))
        exact ⟨0, r + 1, at_, 9, rfl, q1, q2, by omega, by omega, by omega, by omega, fun _ => rfl, fun h0 => absurd rfl h0, .inr ⟨by omega, .inr (.inr ⟨rfl, rfl, hf1, by omega⟩)⟩⟩
    · have hat' : at_ = tu := by omega
      subst hat'
      clear hat
      have hp : partB bs at_ (at_ - at_) = [] := by unfold partB; simp
      rw [hp]
      clear hp
      have hcu := hide (byte_short g f fr at_ w (hide h.out.cu) h1 (by omega))
      go_enter Tryz.func81, Tryz.ntmps81
      go_wp2_with fail
      refine hcu.out.mono ?_; rintro en w1 ⟨rfl, dd, rfl⟩
      have ho := Only.drewN [f, g] w dd
      go_wp2_with fail
      go_ret
      obtain ⟨q1, q2⟩ := h.out.set ho (h.out.fl_.keep (Only.drewN [] w dd) (by simp) (by simp)) (h.out.cu.keep (Only.drewN [] w dd) (by simp)) 3 (fun h0 => absurd h0 (by omega))
      exact ⟨0, r, at_, 3, rfl, q1, q2, by omega, by omega, by omega, by omega, fun _ => rfl, fun h0 => absurd rfl h0, .inr ⟨by omega, .inr (.inl ⟨rfl, by simp [byteL], by simp [byteL]⟩)⟩⟩
  · have f1 : (e == 0) = false := by simpa using he
    have f2 : (e != 0) = true := by simpa using he
    have HE := hide he; clear he
    go_enter Tryz.func81, Tryz.ntmps81
    go_wp2_with fail
    go_ret
    exact ⟨0, r, at_, e, rfl, h, Only.refl _ _, by omega, by omega, by omega, h2, fun _ => rfl, fun _ => rfl, .inr ⟨HE.out, .inl ⟨HE.out, rfl⟩⟩⟩

/-- a failure, if something is so -/
def failE (e : Int) (is : Bool) (k : Int) : Int := if e = 0 ∧ is = true then k else e
set_option maxHeartbeats 800000 in
theorem fail_step (rb g f c : Nat) (A : Option Addr) (bs : List UInt8) (r fl fr tu at_ e k : Int) (is : Bool) (w : World) (h : Hid (RS w rb g f c A bs r fl fr tu at_ e)) :
    Calls Tryz.prog 83 #[.pointer (some ⟨rb, 0, none⟩), .bool is, .int .i64 k] w fun en w' => en = .returned (.tuple #[]) ∧ Hid (RS w' rb g f c A bs r fl fr tu at_ (failE e is k)) ∧ Hid (Only [rb] w w') := by
  have c0 := cell_blk h.out.blk 0
  have c1 := cell_blk h.out.blk 1
  simp at c0 c1
  have z1 := frozen_blk h.out.blk 1
  by_cases he : e = 0
  · subst he
    cases is with
    | false =>
      have hv : failE 0 false k = 0 := rfl
      rw [hv]
      clear hv
      go_enter Tryz.func83, Tryz.ntmps83
      go_wp2_with fail
      go_end0
      exact ⟨rfl, h, Only.refl _ _⟩
    | true =>
      have hv : failE 0 true k = k := rfl
      rw [hv]
      clear hv
      go_enter Tryz.func83, Tryz.ntmps83
      go_wp2_with fail
      go_end0
      have hs : Only [rb] w (w.setCell ⟨rb, 1, none⟩ (.int .i64 k)) := Only.setCell w (p := ⟨rb, 1, none⟩) (by simp) _
      have hlt := h.out.lt
      have hlt2 := h.out.cu.lt
      exact ⟨rfl, ⟨by rw [setCell_blk h.out.blk]; rfl, h.out.fl_.keep hs (by simp <;> omega) (by simp <;> omega), h.out.cu.keep hs (by simp <;> omega), hlt, fun _ => h.out.good rfl⟩, hs⟩
  · have hv : failE e is k = e := by unfold failE; rw [if_neg (fun x => he x.1)]
    rw [hv]
    have f1 : (e == 0) = false := by simpa using he
    clear hv he
    go_enter Tryz.func83, Tryz.ntmps83
    go_wp2_with fail
    go_end0
    exact ⟨rfl, h, Only.refl _ _⟩
end Go.Proofs.YtpanlhbdphobdaaGreatDoor
