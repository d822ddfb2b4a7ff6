/-
  Bits in a list, the lowest first: what lies in memory; the number that they are.
-/
import Derived.Test.YtnfaaiifbiobiaaGreatDoorRows
import Derived.Test.YtnfaaiifbiobiaaGreatDoorMem
import Derived.Test.YtnfaaiifbiobiaaGreatDoorRegionR
import Derived.Maps.RangeWalk
import Derived.Deep.QuietTactic
import Derived.BigQuiet
import Derived.IntWalk
import Derived.Outline
namespace Go.Proofs.YtnfaaiifbiobiaaGreatDoor
open Go.RowKit
set_option linter.unusedVariables false

def T (b : Bool) : Value := .bool b
theorem T_one (bs : List Bool) : ∀ u ∈ bs.map T, u.oneCell' = true := by
  intro u hu; obtain ⟨b, _, rfl⟩ := List.mem_map.1 hu; rfl
theorem bool_elem : IsElem Tryz.prog 55 4 1 1 := IsElem.mk' Tryz.underlying55 (z := .bool false) (by kernel_rfl) rfl (by omega)
def OwnT (w : World) (base : Nat) (v : Value) (bs : List Bool) : Prop := w.ownsRow base 4 1 v bs.length (bs.map T)
theorem OwnT.push {w : World} {base : Nat} {v : Value} {bs : List Bool} {b : Bool} (h : w.ownsRow base 4 1 v (bs.length + 1) (bs.map T ++ [T b])) : OwnT w base v (bs ++ [b]) :=
  own_cast h (by simp) (by simp)
theorem OwnT.cast {w : World} {base : Nat} {v : Value} {bs bs' : List Bool} (h : OwnT w base v bs) (e : bs = bs') : OwnT w base v bs' := e ▸ h

def bitN (c k : Nat) : Bool := c / 2 ^ k % 2 == 1
def bitsK (c : Nat) (k : Nat) : List Bool := (List.range k).map (bitN c)
theorem bitsK_succ (c k : Nat) : bitsK c (k + 1) = bitsK c k ++ [bitN c k] := by
  unfold bitsK; rw [List.range_succ, List.map_append]; rfl
theorem bitsK_len (c k : Nat) : (bitsK c k).length = k := by simp [bitsK]
theorem bitsK_get (c k i : Nat) (h : i < k) : (bitsK c k)[i]? = some (bitN c i) := by
  unfold bitsK; rw [List.getElem?_map, List.getElem?_range h]; rfl
theorem bitsK_take (c k j : Nat) (h : j ≤ k) : (bitsK c k).take j = bitsK c j := by
  unfold bitsK; rw [← List.map_take, List.take_range, Nat.min_eq_left h]

def valB : List Bool → Nat
  | [] => 0
  | b :: r => (if b then 1 else 0) + 2 * valB r
theorem valB_append : ∀ (a b : List Bool), valB (a ++ b) = valB a + 2 ^ a.length * valB b := by
  intro a
  induction a with
  | nil => intro b; simp [valB]
  | cons x a ih =>
    intro b
    rw [List.cons_append, valB, ih, valB, List.length_cons, Nat.pow_succ]
    have : 2 * (valB a + 2 ^ a.length * valB b) = 2 * valB a + 2 ^ a.length * 2 * valB b := by
      rw [Nat.mul_add, ← Nat.mul_assoc, Nat.mul_comm 2 (2 ^ a.length)]
    omega
theorem valB_lt : ∀ (a : List Bool), valB a < 2 ^ a.length := by
  intro a
  induction a with
  | nil => simp [valB]
  | cons x a ih => rw [valB, List.length_cons, Nat.pow_succ]; split <;> omega
theorem valB_bitsK (c : Nat) : ∀ k, valB (bitsK c k) = c % 2 ^ k := by
  intro k
  induction k with
  | zero => simp [bitsK, valB, Nat.mod_one]
  | succ k ih =>
    rw [bitsK_succ, valB_append, ih, Nat.mod_pow_succ]
    rw [bitsK_len]
    congr 2
    unfold bitN
    have : c / 2 ^ k % 2 = 0 ∨ c / 2 ^ k % 2 = 1 := by omega
    rcases this with h | h <;> rw [h] <;> rfl

/-- bits that a call has made -/
def BitsPost (w : World) (bs : List Bool) (e : Ending) (w' : World) : Prop := ∃ A c, e = .returned (.slice A bs.length c) ∧ Hid (OwnT w' w.heap.size (.slice A bs.length c) bs) ∧ Hid (Below w.heap.size w w') ∧ Hid (bs.length ≤ c)

theorem bit_T (m : Nat) (k a : Nat) (h : a / 2 ^ k = m) : Value.bool ((m : Int) % 2 == 1) = T (bitN a k) := by
  unfold T bitN
  rw [h]
  congr 1
  rw [Bool.eq_iff_iff]
  simp
  omega

set_option maxHeartbeats 800000 in
theorem refList_any (n a : Nat) (w : World) (hn : n ≤ 1000) (ha : Hid (a < 2 ^ 64)) :
    Calls Tryz.prog 21 #[.int .i64 n, .int .u64 a] w (BitsPost w (bitsK a n)) := by
  obtain ⟨base, hbase⟩ : ∃ b, w.heap.size = b := ⟨_, rfl⟩
  have HB := hide hbase; clear hbase
  go_enter Tryz.func21, Tryz.ntmps21
  go_wp2_with fail
  go_loopw [5, 1, 6] (fun v m i w1 => ∃ (k q : Nat), i = .int .i64 k ∧ k ≤ n ∧ m = .int .u64 q ∧ Hid (a / 2 ^ k = q) ∧ q ≤ 18446744073709551615 ∧ Hid (OwnT w1 base v (bitsK a k)) ∧ Hid (Below base w w1) ∧ base ≤ w1.heap.size) (fun _ _ i _ => n - (intOf i).toNat)
  case atStart => exact ⟨0, a, rfl, by omega, rfl, by show _ = _; simp, by have := ha.out; simp at this; omega, own_nil _ _ _ _, Below.refl _ _, by rw [HB.out]; omega⟩
  case round =>
    obtain ⟨k, q, rfl, hk, rfl, hq, hq1, ho, hb, hbs⟩ := hrel
    by_cases hlt : k < n
    · have hroom : Room (bitsK a k).length 1 1 := room_of (by rw [bitsK_len]; omega) (by omega)
      go_wp2_with (at_builtin; refine wpList_push rfl _ _ rfl base bool_elem _ (bitsK a k).length ((bitsK a k).map T) rfl wr _ _ rfl ho.out rfl rfl hroom hbs ?_; intro v' w' ho' hg')
      go_roundw
      case rel =>
        first | rw [bit_T q k a hq.out] at ho' | skip
        refine ⟨k + 1, q / 2, by go_num, by omega, int_congr (by omega), ?_, by omega, (OwnT.push ho').cast (bitsK_succ a k).symm, hb.out.grown hg'.by_ hbs (own_ge ho.out), Nat.le_trans hbs hg'.by_.size⟩
        show _ = _
        rw [Nat.pow_succ, ← Nat.div_div_eq_div_mul, hq.out]
      case measure => simp [intOf] <;> omega
    · have hkn : k = n := by omega
      subst hkn
      clear hlt
      obtain ⟨A, c, hv, hc, _⟩ := own_form ho.out
      subst hv
      go_wp2_with fail
      go_ret
      exact ⟨A, c, rfl, by rw [HB.out]; exact ho.out, by rw [HB.out]; exact hb.out, hc⟩

theorem valB_drop {l : List Bool} {k : Nat} {b : Bool} (h : l[k]? = some b) : valB (l.drop k) = (if b then 1 else 0) + 2 * valB (l.drop (k + 1)) := by
  obtain ⟨hk, hv⟩ := List.getElem?_eq_some_iff.1 h
  rw [List.drop_eq_getElem_cons hk, hv, valB]

set_option maxHeartbeats 800000 in
theorem refWord_any (A : Option Addr) (cap : Nat) (l : List Bool) (w : World) (hr : Hid (Reads w w.heap.size 1 A l.length (l.map T))) (hl : l.length ≤ 64) :
    Calls Tryz.prog 22 #[.slice A l.length cap] w fun e w' => e = .returned (.int .u64 (valB l : Nat)) ∧ w = w' := by
  go_enter Tryz.func22, Tryz.ntmps22
  go_wp2_with fail
  go_loop [3, 4] (fun m i => ∃ (k q : Nat), k ≤ l.length ∧ i = .int .i64 ((k : Int) - 1) ∧ m = .int .u64 q ∧ Hid (valB (l.drop k) = q)) (fun _ i => (intOf i + 1).toNat)
  case atStart => exact ⟨l.length, 0, by omega, rfl, rfl, by show _ = _; simp [valB]⟩
  case round =>
    obtain ⟨k, q, hk, rfl, rfl, hq⟩ := hrel
    by_cases hlt : 0 < k
    · obtain ⟨j, rfl⟩ : ∃ j, k = j + 1 := ⟨k - 1, by omega⟩
      obtain ⟨ad, b, rfl, hb, hcell⟩ := hr.out.elem (k := j) (by omega)
      have hlt64 : q < 2 ^ 63 := by
        have h1 := valB_lt (l.drop (j + 1))
        rw [List.length_drop, hq.out] at h1
        exact Nat.lt_of_lt_of_le h1 (Nat.pow_le_pow_right (by omega) (by omega))
      have hq1 : q ≤ 9223372036854775807 := by simp at hlt64; omega
      clear hlt64 hlt
      have hnext := valB_drop hb.out
      rw [hq.out] at hnext
      have HN := hide hnext; clear hnext
      have hj : ((j + 1 : Nat) : Int) - 1 = j := by omega
      rw [hj]
      have HJ := hide hj; clear hj
      unfold T at hcell
      cases b with
      | true =>
        go_wp2_with fail
        go_round
        case rel => exact ⟨j, 2 * q + 1, by omega, int_congr (by omega), int_congr (by omega), by show _ = _; rw [HN.out]; simp; omega⟩
        case measure => simp [intOf] <;> omega
      | false =>
        go_wp2_with fail
        go_round
        case rel => exact ⟨j, 2 * q, by omega, int_congr (by omega), int_congr (by omega), by show _ = _; rw [HN.out]; simp⟩
        case measure => simp [intOf] <;> omega
    · have hk0 : k = 0 := by omega
      subst hk0
      clear hlt
      go_wp2_with fail
      go_ret
      have := hq.out
      rw [List.drop_zero] at this
      exact ⟨by rw [this]; rfl, rfl⟩
end Go.Proofs.YtnfaaiifbiobiaaGreatDoor
