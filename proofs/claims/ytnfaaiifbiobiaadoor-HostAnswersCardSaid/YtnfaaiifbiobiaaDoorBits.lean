/-
  Bits in a list, the lowest first: what lies in memory; the number that they are.
-/
import Derived.Test.YtnfaaiifbiobiaaDoorRows
import Derived.Test.YtnfaaiifbiobiaaDoorMem
import Derived.Test.YtnfaaiifbiobiaaDoorRegionR
import Derived.Maps.RangeWalk
import Derived.Deep.QuietTactic
import Derived.BigQuiet
import Derived.IntWalk
import Derived.Outline
namespace Go.Proofs.YtnfaaiifbiobiaaDoor
open Go.RowKit
set_option linter.unusedVariables false

def T (b : Bool) : Value := .bool b
theorem T_one (bs : List Bool) : ∀ u ∈ bs.map T, u.oneCell' = true := by
  intro u hu; obtain ⟨b, _, rfl⟩ := List.mem_map.1 hu; rfl
def OwnT (w : World) (base : Nat) (v : Value) (bs : List Bool) : Prop := w.ownsRow base 4 1 v bs.length (bs.map T)
theorem OwnT.push {w : World} {base : Nat} {v : Value} {bs : List Bool} {b : Bool} (h : w.ownsRow base 4 1 v (bs.length + 1) (bs.map T ++ [T b])) : OwnT w base v (bs ++ [b]) :=
  own_cast h (by simp) (by simp)
theorem OwnT.cast {w : World} {base : Nat} {v : Value} {bs bs' : List Bool} (h : OwnT w base v bs) (e : bs = bs') : OwnT w base v bs' := e ▸ h

def bitN (c k : Nat) : Bool := c / 2 ^ k % 2 == 1
def bitsK (c : Nat) (k : Nat) : List Bool := (List.range k).map (bitN c)
theorem bitsK_succ (c k : Nat) : bitsK c (k + 1) = bitsK c k ++ [bitN c k] := by
  unfold bitsK; rw [List.range_succ, List.map_append]; rfl
theorem bitsK_len (c k : Nat) : (bitsK c k).length = k := by simp [bitsK]
theorem bitsK_get (c k i : Nat) (h : i < k) : (bitsK c k)[i]? = some (bitN c i) := by
  unfold bitsK; rw [List.getElem?_map, List.getElem?_range h]; rfl
theorem bitsK_take (c k j : Nat) (h : j ≤ k) : (bitsK c k).take j = bitsK c j := by
  unfold bitsK; rw [← List.map_take, List.take_range, Nat.min_eq_left h]

def valB : List Bool → Nat
  | [] => 0
  | b :: r => (if b then 1 else 0) + 2 * valB r
theorem valB_append : ∀ (a b : List Bool), valB (a ++ b) = valB a + 2 ^ a.length * valB b := by
  intro a
  induction a with
  | nil => intro b; simp [valB]
  | cons x a ih =>
    intro b
    rw [List.cons_append, valB, ih, valB, List.length_cons, Nat.pow_succ]
    have : 2 * (valB a + 2 ^ a.length * valB b) = 2 * valB a + 2 ^ a.length * 2 * valB b := by
      rw [Nat.mul_add, ← Nat.mul_assoc, Nat.mul_comm 2 (2 ^ a.length)]
    omega
theorem valB_lt : ∀ (a : List Bool), valB a < 2 ^ a.length := by
  intro a
  induction a with
  | nil => simp [valB]
  | cons x a ih => rw [valB, List.length_cons, Nat.pow_succ]; split <;> omega
theorem valB_bitsK (c : Nat) : ∀ k, valB (bitsK c k) = c % 2 ^ k := by
  intro k
  induction k with
  | zero => simp [bitsK, valB, Nat.mod_one]
  | succ k ih =>
    rw [bitsK_succ, valB_append, ih, Nat.mod_pow_succ]
    rw [bitsK_len]
    congr 2
    unfold bitN
    have : c / 2 ^ k % 2 = 0 ∨ c / 2 ^ k % 2 = 1 := by omega
    rcases this with h | h <;> rw [h] <;> rfl

/-- bits that a call has made -/
def BitsPost (w : World) (bs : List Bool) (e : Ending) (w' : World) : Prop := ∃ A c, e = .returned (.slice A bs.length c) ∧ Hid (OwnT w' w.heap.size (.slice A bs.length c) bs) ∧ Hid (Below w.heap.size w w') ∧ Hid (bs.length ≤ c)

theorem bit_T (m : Nat) (k a : Nat) (h : a / 2 ^ k = m) : Value.bool ((m : Int) % 2 == 1) = T (bitN a k) := by
  unfold T bitN
  rw [h]
  congr 1
  rw [Bool.eq_iff_iff]
  simp
  omega

theorem valB_drop {l : List Bool} {k : Nat} {b : Bool} (h : l[k]? = some b) : valB (l.drop k) = (if b then 1 else 0) + 2 * valB (l.drop (k + 1)) := by
  obtain ⟨hk, hv⟩ := List.getElem?_eq_some_iff.1 h
  rw [List.drop_eq_getElem_cons hk, hv, valB]

end Go.Proofs.YtnfaaiifbiobiaaDoor
