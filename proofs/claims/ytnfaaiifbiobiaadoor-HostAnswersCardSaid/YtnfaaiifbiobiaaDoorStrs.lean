/-
  Strings as lists of bytes: pieces, bytes, joins, tests: as facts for a walk.
-/
import Derived.Test.YtnfaaiifbiobiaaDoorWords
import Derived.Laws.Strings2
import Derived.Laws.Strings3
import Derived.Lib.Strings
namespace Go.Proofs.YtnfaaiifbiobiaaDoor
open Go.RowKit
set_option linter.unusedVariables false

theorem ba_ext {s : ByteArray} {l : List UInt8} (h : s.data.toList = l) : s = ⟨l.toArray⟩ := by
  subst h
  rfl
theorem ext_mk (l : List UInt8) (a b : Nat) : (⟨l.toArray⟩ : ByteArray).extract a b = ⟨((l.drop a).take (b - a)).toArray⟩ := ba_ext (by rw [Lib.extract_data])
theorem str_from (l : List UInt8) (k : Nat) (kd : IntKind) (hk : k ≤ l.length) (W : World) : (Instr.slice 9 (.string ⟨l.toArray⟩) (some (.int kd k)) none none).run Tryd.prog W = .ok (.string ⟨(l.drop k).toArray⟩) W := by
  have hs : (⟨l.toArray⟩ : ByteArray).size = l.length := rfl
  rw [run_slice_string_from_if _ _ _ _ _ Tryd.underlying9, if_pos ⟨by omega, by rw [hs]; omega⟩]
  have e : ((k : Int)).toNat = k := by omega
  rw [e, hs, ext_mk, List.take_of_length_le (by rw [List.length_drop]; omega)]
theorem str_upto (l : List UInt8) (k : Nat) (kd : IntKind) (hk : k ≤ l.length) (W : World) : (Instr.slice 9 (.string ⟨l.toArray⟩) none (some (.int kd k)) none).run Tryd.prog W = .ok (.string ⟨(l.take k).toArray⟩) W := by
  have hs : (⟨l.toArray⟩ : ByteArray).size = l.length := rfl
  rw [run_slice_string_to_if _ _ _ _ _ Tryd.underlying9, if_pos ⟨by omega, by rw [hs]; omega⟩]
  have e : ((k : Int)).toNat = k := by omega
  rw [e, ext_mk, List.drop_zero, Nat.sub_zero]
theorem str_mid (l : List UInt8) (i j : Nat) (kd ke : IntKind) (hi : i ≤ j) (hj : j ≤ l.length) (W : World) : (Instr.slice 9 (.string ⟨l.toArray⟩) (some (.int kd i)) (some (.int ke j)) none).run Tryd.prog W = .ok (.string ⟨((l.drop i).take (j - i)).toArray⟩) W := by
  have hs : (⟨l.toArray⟩ : ByteArray).size = l.length := rfl
  rw [run_slice_string _ _ _ _ _ _ _ Tryd.underlying9 (by omega) (by omega) (by rw [hs]; omega)]
  have e : ((i : Int)).toNat = i := by omega
  have e2 : ((j : Int)).toNat = j := by omega
  rw [e, e2, ext_mk]
theorem str_at (l : List UInt8) (k : Nat) (kd : IntKind) {c : UInt8} (hk : l[k]? = some c) (W : World) : (Instr.index 9 (.string ⟨l.toArray⟩) (.int kd k)).run Tryd.prog W = .ok (.int .u8 (c.toNat : Int)) W := by
  obtain ⟨h1, h2⟩ := List.getElem?_eq_some_iff.1 hk
  have hs : (⟨l.toArray⟩ : ByteArray).size = l.length := rfl
  rw [run_index_string W 9 ⟨l.toArray⟩ kd _ Tryd.underlying9, dif_pos ⟨by omega, by rw [hs]; omega⟩]
  have e : ((k : Int)).toNat = k := by omega
  simp only [e]
  subst h2
  rfl
end Go.Proofs.YtnfaaiifbiobiaaDoor
