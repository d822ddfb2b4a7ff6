/-
  Two slices of the same numbers, two instructions, two bodies: Equal, Same: contracts where they are the same.
-/
import Derived.Test.YtdhmkapknaphpaaCReadC
import Derived.Test.YtdhmkapknaphpaaRepeat
import Derived.Deep.QuietTactic
import Derived.BigQuiet
namespace Go.Proofs.Ytdhmkapknaphpaa
open Go.RowKit
set_option linter.unusedVariables false

theorem below_drewN2 {B : Nat} {a w : World} (h : Below B a w) (n : Nat) : Below B a (w.drewN n) := ⟨h.os, h.tape, h.output, h.size, h.block⟩
theorem Reads.u64 {w : World} {Bk : Nat} {A : Option Addr} {ls : List Nat} {k : Nat} (h : Reads w Bk 1 A ls.length (ls.map U)) (hk : k < ls.length) : ∃ (ad : Addr) (x : Nat), A = some ad ∧ Hid (ls[k]? = some x) ∧ w.cell? (ad.add k) = some (.int .u64 (x : Int)) := by
  obtain ⟨ad, x, h1, h2, h3⟩ := h.elem hk
  exact ⟨ad, x, h1, h2, h3⟩

set_option maxHeartbeats 800000 in
theorem equalU_any (A1 A2 : Option Addr) (c1 c2 : Nat) (ls : List Nat) (w : World) (r1 : Hid (Reads w w.heap.size 1 A1 ls.length (ls.map U))) (r2 : Hid (Reads w w.heap.size 1 A2 ls.length (ls.map U))) (h1 : ls.length ≤ 1000) :
    Calls Try.prog 42 #[.slice A1 ls.length c1, .slice A2 ls.length c2] w fun e w' => e = .returned (.bool true) ∧ Hid (Below w.heap.size w w') := by
  go_enter Try.func42, Try.ntmps42
  go_wp2_with fail
  go_loopw [4, 5, 13] (fun r _ i w1 => ∃ k : Nat, r = .bool false ∧ i = .int .i64 k ∧ k ≤ ls.length ∧ Hid (Below w.heap.size w w1)) (fun _ _ i _ => ls.length - (intOf i).toNat)
  case atStart => exact ⟨0, rfl, rfl, by omega, Below.refl _ _⟩
  case round =>
    obtain ⟨k, rfl, rfl, hk, hbw⟩ := hrel
    by_cases hlt : k < ls.length
    · obtain ⟨a1, x, rfl, hx, hcx⟩ := (r1.out.below hbw.out).u64 hlt
      obtain ⟨a2, y, rfl, hy, hcy⟩ := (r2.out.below hbw.out).u64 hlt
      have hxy : y = x := by have := hx.out.symm.trans hy.out; injection this with this; exact this.symm
      subst hxy
      have hki : (k : Int) < (ls.length : Int) := by omega
      have hk0 : (0 : Int) ≤ (k : Int) := by omega
      go_wp2_with fail
      go_quiet (fail)
      go_wp2_with fail
      go_roundw
      case rel => exact ⟨k + 1, rfl, by go_num, by omega, below_drewN2 hbw.out _⟩
      case measure => simp [intOf] <;> omega
    · have hkk : k = ls.length := by omega
      clear hlt
      go_wp2_with fail
      go_ret
      exact ⟨rfl, hbw⟩

set_option maxHeartbeats 800000 in
theorem equalT_any (A1 A2 : Option Addr) (c1 c2 : Nat) (ls : List UInt8) (w : World) (r1 : Hid (Reads w w.heap.size 1 A1 ls.length (ls.map B))) (r2 : Hid (Reads w w.heap.size 1 A2 ls.length (ls.map B))) (h1 : ls.length ≤ 1000) :
    Calls Try.prog 21 #[.slice A1 ls.length c1, .slice A2 ls.length c2] w fun e w' => e = .returned (.bool true) ∧ Hid (Below w.heap.size w w') := by
  go_enter Try.func21, Try.ntmps21
  go_wp2_with fail
  go_loopw [4, 5, 13] (fun r _ i w1 => ∃ k : Nat, r = .bool false ∧ i = .int .i64 k ∧ k ≤ ls.length ∧ Hid (Below w.heap.size w w1)) (fun _ _ i _ => ls.length - (intOf i).toNat)
  case atStart => exact ⟨0, rfl, rfl, by omega, Below.refl _ _⟩
  case round =>
    obtain ⟨k, rfl, rfl, hk, hbw⟩ := hrel
    by_cases hlt : k < ls.length
    · obtain ⟨a1, x, rfl, hx, hcx, hx0, hx1⟩ := (r1.out.below hbw.out).byte hlt
      obtain ⟨a2, y, rfl, hy, hcy, hy0, hy1⟩ := (r2.out.below hbw.out).byte hlt
      have hxy : y = x := by have := hx.out.symm.trans hy.out; injection this with this; exact this.symm
      subst hxy
      have hki : (k : Int) < (ls.length : Int) := by omega
      have hk0 : (0 : Int) ≤ (k : Int) := by omega
      go_wp2_with fail
      go_quiet (fail)
      go_wp2_with fail
      go_roundw
      case rel => exact ⟨k + 1, rfl, by go_num, by omega, below_drewN2 hbw.out _⟩
      case measure => simp [intOf] <;> omega
    · have hkk : k = ls.length := by omega
      clear hlt
      go_wp2_with fail
      go_ret
      exact ⟨rfl, hbw⟩

/-- an instruction's value -/
def insA (d : DI) (v : Value) : Value := .agg #[.int .i64 (d.code : Int), .int .u64 (d.a : Int), .int .u64 (d.b : Int), .int .i64 (d.al : Int), v]
set_option maxHeartbeats 800000 in
theorem isame_any (d : DI) (A1 A2 : Option Addr) (c1 c2 : Nat) (w : World) (r1 : Hid (Reads w w.heap.size 1 A1 d.l.length (d.l.map U))) (r2 : Hid (Reads w w.heap.size 1 A2 d.l.length (d.l.map U))) (h1 : d.l.length ≤ 1000) :
    Calls Try.prog 23 #[.agg #[.int .i64 (d.code : Int), .int .u64 (d.a : Int), .int .u64 (d.b : Int), .int .i64 (d.al : Int), .slice A1 d.l.length c1], .agg #[.int .i64 (d.code : Int), .int .u64 (d.a : Int), .int .u64 (d.b : Int), .int .i64 (d.al : Int), .slice A2 d.l.length c2]] w fun e w' => e = .returned (.bool true) ∧ Hid (Below w.heap.size w w') := by
  obtain ⟨W, hW⟩ : ∃ W, (w.alloc (.cells #[.int .i64 (d.code : Int), .int .u64 (d.a : Int), .int .u64 (d.b : Int), .int .i64 (d.al : Int), .slice A1 d.l.length c1] 27)).alloc (.cells #[.int .i64 (d.code : Int), .int .u64 (d.a : Int), .int .u64 (d.b : Int), .int .i64 (d.al : Int), .slice A2 d.l.length c2] 27) = W := ⟨_, rfl⟩
  have hbW : Below w.heap.size w W := by rw [← hW]; exact ((Below.refl _ _).alloc (Nat.le_refl _) _).alloc (by simp) _
  have HE := hide (equalU_any A1 A2 c1 c2 d.l W (hide ((r1.out.below hbW).more hbW.size)) (hide ((r2.out.below hbW).more hbW.size)) h1)
  have HW := hide hW; have HB := hide hbW
  clear hW hbW
  go_enter Try.func23, Try.ntmps23
  go_wp2_with fail
  rw [HW.out]
  refine HE.out.mono ?_; rintro e w2 ⟨rfl, hb2⟩
  go_wp2_with fail
  go_ret
  exact ⟨rfl, HB.out.trans (hb2.out.mono HB.out.size)⟩
end Go.Proofs.Ytdhmkapknaphpaa
