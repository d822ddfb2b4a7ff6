/-
  A law's arguments, as the rows read them, in the words of our own (Reads).
-/
import Derived.Test.YtnfaaiifbiobiaaDoorMem
namespace Go.Proofs.YtnfaaiifbiobiaaDoor
open Go.RowKit

/-- what the row tells of a slice of integers that came in: it is nil; or it leads to a row of 'cap' cells, the numbers 'zs', each fitting its kind -/
def IsRow (k : IntKind) (w : World) (a : Option Addr) (len cap : Nat) (zs : List Int) : Prop :=
  (a = none ∧ len = 0 ∧ cap = 0 ∧ zs = []) ∨
  ∃ x, a = some x ∧ len ≤ cap ∧ cap ≤ maxLen ∧ zs.length = cap ∧ (∀ i, i < zs.length → w.cell? (x.add i) = some (.int k (zs.getD i 0))) ∧ ∀ n ∈ zs, (Lit.int k n).wf = true

theorem IsRow.ints {k : IntKind} {w : World} {a : Option Addr} {len cap : Nat} {zs : List Int} (h : IsRow k w a len cap zs) :
    ∃ ys : List Int, ys.length = len ∧ Reads w w.heap.size 1 a ys.length (ys.map (Value.int k)) ∧ len ≤ cap ∧ cap ≤ maxLen ∧ ∀ n ∈ ys, (Lit.int k n).wf = true := by
  rcases h with ⟨rfl, rfl, rfl, rfl⟩ | ⟨x, rfl, hl, hm, hz, hc, hw⟩
  · exact ⟨[], rfl, Reads.none_, Nat.le_refl _, by unfold maxLen; omega, by simp⟩
  · refine ⟨zs.take len, by rw [List.length_take]; omega, ⟨by simp, fun hn => ⟨x, rfl, ?_, fun j u hu => ?_⟩⟩, hl, hm, fun n hn => hw n (List.mem_of_mem_take hn)⟩
    · have h0 := hc 0 (by rw [List.length_take] at hn; omega)
      have := World.block_lt_of_cell? w _ h0
      rw [block_of_add] at this
      exact this
    · rw [List.getElem?_map, List.getElem?_take] at hu
      split at hu
      · rename_i hj
        have hjz : j < zs.length := by omega
        rw [hc j hjz]
        rw [List.getElem?_eq_getElem hjz] at hu
        rw [List.getD_eq_getElem?_getD, List.getElem?_eq_getElem hjz]
        exact hu
      · cases hu

theorem IsRow.bytes {w : World} {a : Option Addr} {len cap : Nat} {zs : List Int} (h : IsRow .u8 w a len cap zs) :
    ∃ bs : List UInt8, bs.length = len ∧ Reads w w.heap.size 1 a bs.length (bs.map B) ∧ bs.length ≤ cap ∧ cap ≤ maxLen := by
  obtain ⟨ys, hl, hr, h1, h2, h3⟩ := h.ints
  refine ⟨ys.map fun n => UInt8.ofNat n.toNat, by rw [List.length_map]; exact hl, ?_, by rw [List.length_map]; omega, h2⟩
  rw [List.length_map]
  have : (ys.map fun n => UInt8.ofNat n.toNat).map B = ys.map (Value.int .u8) := by
    rw [List.map_map]
    refine List.map_congr_left fun n hn => ?_
    have hb := h3 n hn
    have hb2 : 0 ≤ n ∧ n ≤ 255 := by simpa [Lit.wf, IntKind.min, IntKind.max, IntKind.signed, IntKind.bits] using hb
    have := B_ofNat n.toNat (by omega)
    rw [show ((n.toNat : Nat) : Int) = n from by omega] at this
    exact this.symm
  rw [this]
  exact hr

theorem u64_bd {n : Int} (h : (Lit.int .u64 n).wf = true) : ∃ m : Nat, n = m ∧ m < 2 ^ 64 := by
  have hb2 : 0 ≤ n ∧ n ≤ 18446744073709551615 := by simpa [Lit.wf, IntKind.min, IntKind.max, IntKind.signed, IntKind.bits] using h
  refine ⟨n.toNat, by omega, ?_⟩
  simp only [Nat.reducePow]
  omega
theorem i64_bd {n : Int} (h : (Lit.int .i64 n).wf = true) : -9223372036854775808 ≤ n ∧ n ≤ 9223372036854775807 := by
  simpa [Lit.wf, IntKind.min, IntKind.max, IntKind.signed, IntKind.bits] using h
end Go.Proofs.YtnfaaiifbiobiaaDoor
