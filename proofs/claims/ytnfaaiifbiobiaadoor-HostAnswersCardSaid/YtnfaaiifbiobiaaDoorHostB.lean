/-
  host: what a rule gives: contract.
-/
import Derived.Test.YtnfaaiifbiobiaaDoorHost
namespace Go.Proofs.YtnfaaiifbiobiaaDoor
open Go.RowKit
set_option linter.unusedVariables false

def U (n : Nat) : Value := .int .u64 (n : Int)
def sumF (v : Nat) (l : List Nat) : Nat := l.foldl (fun v g => (v + g) % 18446744073709551616) v
set_option maxRecDepth 100000 in
set_option maxHeartbeats 800000 in
theorem result_sum (m n : ByteArray) (v : Nat) (k : Int) (A : Option Addr) (c : Nat) (gs : List Nat) (w : World) (hv : v ≤ 18446744073709551615) (hr : Hid (Reads w w.heap.size 1 A gs.length (gs.map U))) (hl : gs.length ≤ 1000) :
    Calls Tryd.prog 24 #[.agg #[.string m, .string n, .int .i64 2, .int .u64 (v : Int)], .int .i64 k, .slice A gs.length c] w fun e w' => e = .returned (.int .u64 (sumF v gs : Int)) ∧ Hid (Below w.heap.size w w') := by
  obtain ⟨W, hW⟩ : ∃ W, w.alloc (.cells #[.string m, .string n, .int .i64 2, .int .u64 (v : Int)] 28) = W := ⟨_, rfl⟩
  have hb : Below w.heap.size w W := by rw [← hW]; exact (Below.refl _ _).alloc (Nat.le_refl _) _
  have hrW := hide (hr.out.below hb)
  have HB := hide hb; have HW := hide hW
  clear hb hW
  go_enter Tryd.func24, Tryd.ntmps24
  go_wp2_with fail
  rw [HW.out]
  go_loop [7, 9, 18] (fun a _ i => ∃ (k : Nat) (u : Nat), a = .int .u64 (u : Int) ∧ i = .int .i64 (k : Int) ∧ k ≤ gs.length ∧ u ≤ 18446744073709551615 ∧ Hid (sumF u (gs.drop k) = sumF v gs)) (fun _ _ i => gs.length - (intOf i).toNat)
  case atStart => exact ⟨0, v, rfl, rfl, by omega, hv, rfl⟩
  case round =>
    obtain ⟨k, u, rfl, rfl, hk, hu, hs⟩ := hrel
    by_cases hlt : k < gs.length
    · obtain ⟨ad, x, rfl, hx, hcell⟩ := hrW.out.elem hlt
      have hst : Hid (sumF ((u + x) % 18446744073709551616) (gs.drop (k + 1)) = sumF v gs) := by
        show _ = _
        obtain ⟨j1, j2⟩ := List.getElem?_eq_some_iff.1 hx.out
        rw [← hs.out, List.drop_eq_getElem_cons j1, j2]
        rfl
      unfold U at hcell
      have hwr : Hid (IntKind.u64.wrap ((u : Int) + (x : Int)) = (((u + x) % 18446744073709551616 : Nat) : Int)) := by show _ = _; rw [IntKind.wrap_u64]; omega
      go_wp2_with fail
      go_round
      case rel => exact ⟨k + 1, (u + x) % 18446744073709551616, by first | rw [hwr.out] | (congr 1; omega), by go_num, by omega, by omega, hst⟩
      case measure => simp [intOf] <;> omega
    · have hkk : gs.drop k = [] := List.drop_of_length_le (by omega)
      have hs' := hs.out
      rw [hkk] at hs'
      have HS : Hid (u = sumF v gs) := hs'
      clear hkk hs'
      go_wp2_with fail
      go_ret
      exact ⟨by rw [← HS.out]; rfl, HB.out⟩

set_option maxRecDepth 100000 in
set_option maxHeartbeats 800000 in
theorem result_plain (m n : ByteArray) (v : Nat) (way k : Int) (A : Option Addr) (c l : Nat) (w : World) (hv : v ≤ 18446744073709551615) (hw : way = 0 ∨ way = 1) :
    Calls Tryd.prog 24 #[.agg #[.string m, .string n, .int .i64 way, .int .u64 (v : Int)], .int .i64 k, .slice A l c] w fun e w' => e = .returned (.int .u64 (v : Int)) ∧ Hid (Below w.heap.size w w') := by
  have hb : Hid (Below w.heap.size w (w.alloc (.cells #[.string m, .string n, .int .i64 way, .int .u64 (v : Int)] 28))) := (Below.refl _ _).alloc (Nat.le_refl _) _
  rcases hw with rfl | rfl
  all_goals
    go_enter Tryd.func24, Tryd.ntmps24
    go_wp2_with fail
    go_ret
    exact ⟨rfl, hb⟩

set_option maxRecDepth 100000 in
set_option maxHeartbeats 800000 in
theorem result_count (m n : ByteArray) (v k : Nat) (A : Option Addr) (c l : Nat) (w : World) (hv : v ≤ 18446744073709551615) (hk : k ≤ 1000) :
    Calls Tryd.prog 24 #[.agg #[.string m, .string n, .int .i64 3, .int .u64 (v : Int)], .int .i64 (k : Int), .slice A l c] w fun e w' => e = .returned (.int .u64 (((v + k) % 18446744073709551616 : Nat) : Int)) ∧ Hid (Below w.heap.size w w') := by
  have hb : Hid (Below w.heap.size w (w.alloc (.cells #[.string m, .string n, .int .i64 3, .int .u64 (v : Int)] 28))) := (Below.refl _ _).alloc (Nat.le_refl _) _
  have hwr : Hid (IntKind.u64.wrap ((v : Int) + (k : Int)) = (((v + k) % 18446744073709551616 : Nat) : Int)) := by show _ = _; rw [IntKind.wrap_u64]; omega
  go_enter Tryd.func24, Tryd.ntmps24
  go_wp2_with fail
  go_ret
  exact ⟨by first | (rw [← hwr.out]; rfl) | (congr 2; omega), hb⟩
theorem ret_u64 {a b : Int} (h : a = b) : Ending.returned (.int .u64 a) = .returned (.int .u64 b) := by rw [h]

set_option maxRecDepth 100000 in
set_option maxHeartbeats 800000 in
theorem result_last (m n : ByteArray) (v : Nat) (k : Int) (A : Option Addr) (c : Nat) (gs : List Nat) (w : World) (hv : v ≤ 18446744073709551615) (hr : Hid (Reads w w.heap.size 1 A gs.length (gs.map U))) (hl : gs.length ≤ 1000) :
    Calls Tryd.prog 24 #[.agg #[.string m, .string n, .int .i64 4, .int .u64 (v : Int)], .int .i64 k, .slice A gs.length c] w fun e w' => e = .returned (.int .u64 ((gs.getLast?.getD v : Nat) : Int)) ∧ Hid (Below w.heap.size w w') := by
  have hb : Below w.heap.size w (w.alloc (.cells #[.string m, .string n, .int .i64 4, .int .u64 (v : Int)] 28)) := (Below.refl _ _).alloc (Nat.le_refl _) _
  have HB := hide hb
  by_cases h0 : gs = []
  · subst h0
    clear hb hr
    go_enter Tryd.func24, Tryd.ntmps24
    go_wp2_with fail
    go_ret
    exact ⟨rfl, HB.out⟩
  · have hpos : 0 < gs.length := List.length_pos_iff.2 h0
    obtain ⟨j, hj⟩ : ∃ j, gs.length = j + 1 := ⟨gs.length - 1, by omega⟩
    obtain ⟨ad, x, rfl, hx, hcell⟩ := (hr.out.below hb).elem (k := j) (by omega)
    have hlast : Hid (gs.getLast?.getD v = x) := by
      show _ = _
      rw [List.getLast?_eq_getElem?, show gs.length - 1 = j from by omega, hx.out]
      rfl
    unfold U at hcell
    rw [hj]
    have hjl : j ≤ 1000 := by omega
    clear hb hr h0 hpos hl hj
    go_enter Tryd.func24, Tryd.ntmps24
    go_wp2_with fail
    go_ret
    exact ⟨by rw [hlast.out]; rfl, HB.out⟩
end Go.Proofs.YtnfaaiifbiobiaaDoor
