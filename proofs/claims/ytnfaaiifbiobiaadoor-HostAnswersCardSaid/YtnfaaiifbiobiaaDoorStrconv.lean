/-
  strconv: numbers told in tens and by 16: contracts.
-/
import Derived.Test.YtnfaaiifbiobiaaDoorRows
import Derived.Test.YtnfaaiifbiobiaaDoorMem
import Derived.Test.YtnfaaiifbiobiaaDoorShelf
import Derived.Test.YtnfaaiifbiobiaaDoorNumTxt
import Derived.Lib.ItoaMem
import Derived.Lib.AppendIntMem
import Derived.Lib.ItoaWalk
import Derived.Lib.Walk
import Derived.Maps.RangeWalk
import Derived.BigCall
import Derived.BigGuard
import Derived.CellFam
import Derived.Outline
namespace Go.Proofs.YtnfaaiifbiobiaaDoor
open Go.RowKit Go.Sort
set_option linter.unusedVariables false

abbrev Tab (w : World) : Prop := Lib.TabIs Tryd.prog w "internal/strconv.uint64pow10" .u64 Lib.pow10Tab
def dB64 : List Int := [0, 1, 56, 2, 57, 49, 28, 3, 61, 58, 42, 50, 38, 29, 17, 4, 62, 47, 59, 36, 45, 43, 51, 22, 53, 39, 33, 30, 24, 18, 12, 5, 63, 55, 48, 27, 60, 41, 37, 16, 46, 35, 44, 21, 52, 32, 23, 11, 54, 26, 40, 15, 34, 20, 31, 10, 25, 14, 19, 9, 13, 8, 7, 6]
abbrev Tab2 (w : World) : Prop := Lib.TabIs Tryd.prog w "math/bits.deBruijn64tab" .u8 dB64
/-- what the variables hold that this code reads -/
structure LaidC (w : World) : Prop where
  p10 : Tab w
  db : Tab2 w
  syn : ∃ tp p, w.cell? ⟨3, 0, none⟩ = some (.iface tp p)
  rng : ∃ tp p, w.cell? ⟨4, 0, none⟩ = some (.iface tp p)

theorem tab_below_any {P : Program} {name : String} {k : IntKind} {zs : List Int} {w w' : World} (h : Lib.TabIs P w name k zs) (hb : Below w.heap.size w w') : Lib.TabIs P w' name k zs := by
  unfold Lib.TabIs World.var? at *
  revert h
  cases hg : P.globalNamed name with
  | none => intro h; simp at h
  | some g =>
    intro h
    simp only [Option.bind_some] at h ⊢
    have hlt : g < w.heap.size := by
      apply Decidable.byContradiction
      intro hn
      rw [Array.getElem?_eq_none (by omega)] at h
      simp at h
    rw [hb.block g hlt]
    exact h
theorem tab_below {w w' : World} (h : Tab w) (hb : Below w.heap.size w w') : Tab w' := tab_below_any h hb
theorem LaidC.below {w w' : World} (h : LaidC w) (hb : Below w.heap.size w w') : LaidC w' := by
  refine ⟨tab_below_any h.p10 hb, tab_below_any h.db hb, ?_, ?_⟩
  · obtain ⟨tp, p, e⟩ := h.syn
    exact ⟨tp, p, (hb.cell (World.block_lt_of_cell? w _ e)).trans e⟩
  · obtain ⟨tp, p, e⟩ := h.rng
    exact ⟨tp, p, (hb.cell (World.block_lt_of_cell? w _ e)).trans e⟩

/-- a string that a call answers, new blocks aside -/
def SaysP (w : World) (l : List UInt8) (e : Ending) (w' : World) : Prop := e = .returned (.string ⟨l.toArray⟩) ∧ Below w.heap.size w w'

set_option maxHeartbeats 1600000 in
set_option maxRecDepth 100000 in
theorem formatUint10_small (u : Nat) (w : World) (hu : u < 100) : Calls Tryd.prog 66 #[.int .u64 u, .int .i64 10] w (SaysP w (Lib.decDigits u)) := by
  have H := hide (Tryd.internal_strconv_small u hu w)
  go_enter Tryd.func66, Tryd.ntmps66
  go_wp2_with fail
  refine H.out.mono ?_; rintro e w' ⟨rfl, rfl⟩
  go_wp2_with fail
  go_ret
  exact ⟨rfl, Below.refl _ _⟩

set_option maxHeartbeats 6400000 in
set_option maxRecDepth 100000 in
theorem formatUint10_big (u : Nat) (w : World) (hu : 100 ≤ u) (hu64 : u < 18446744073709551616) (ht : Hid (Tab w)) : Calls Tryd.prog 66 #[.int .u64 u, .int .i64 10] w (SaysP w (Lib.decDigits u)) := by
  have hu1 : 1 ≤ u := by omega
  have hnd20 : Lib.nDigits u ≤ 20 := by have := Lib.numDigits_eq u hu1 hu64; split at this <;> omega
  have hal : Tryd.prog.arrayLen 126 = 24 := by kernel_rfl
  have hun : Tryd.prog.underlying 126 = some (.array (Tryd.prog.arrayLen 126) (Tryd.prog.elem 126)) := by rw [Tryd.underlying126]; kernel_rfl
  have hsl : ∀ W, (Instr.sliceAt 126 (.pointer (some ⟨w.heap.size, 0, none⟩)) none (some (.int .i64 (Lib.nDigits u : Int))) none).run Tryd.prog W = .ok (.slice (some ⟨w.heap.size, 0, none⟩) (Lib.nDigits u) 24) W := fun W => by
    rw [run_sliceAt_array_h W 126 ⟨w.heap.size, 0, none⟩ hun .i64 (Lib.nDigits u : Int) (by omega) (by rw [hal]; omega)]
    clear hun hal
    go_simp
  have hH0 := Lib.holds_zero0 w 126 (Lib.nDigits u) (by omega)
  have hfmt := Tryd.internal_strconv_formatBase10 w.heap.size 0 24 u (Array.replicate (Lib.nDigits u) 0) (w.alloc (.cells Lib.zeros24 126)) hH0 (by rw [Array.size_replicate]; exact Lib.lt_pow_nDigits u) hu64 (by rw [Array.size_replicate]; omega)
  rw [Array.size_replicate] at hfmt
  have HF := hide hfmt
  have HN := hide (Tryd.internal_strconv_numDigits u hu1 hu64 (w.alloc (.cells Lib.zeros24 126)) (Lib.tabIs_alloc ht.out _))
  have HH0 := hide hH0
  have iu : (100 : Int) ≤ (u : Int) := by omega
  clear hH0 hal hun hfmt
  go_enter Tryd.func66, Tryd.ntmps66
  go_wp2_with fail
  refine HN.out.mono ?_; rintro e w' ⟨rfl, rfl⟩
  go_wp2_with fail
  refine HF.out.mono ?_
  rintro e w' ⟨rfl, k, v', dk, rfl, hF⟩
  have hread : Reads ((putRow (fun (b : UInt8) => Value.int .u8 (b.toNat : Int)) (w.alloc (.cells Lib.zeros24 126)) w.heap.size 0 dk).drewN k) (w.heap.size + 1) 1 (some ⟨w.heap.size, 0, none⟩) (Lib.nDigits u) ((Lib.decDigits u).map B) := by
    refine ⟨by rw [List.length_map, Lib.decDigits_length]; omega, fun _ => ⟨_, rfl, by simp, fun j u' hj => ?_⟩⟩
    have hjl : j < (Lib.decDigits u).length := by
      have h5 := (List.getElem?_eq_some_iff.1 hj).1
      rwa [List.length_map] at h5
    rw [List.getElem?_map, List.getElem?_eq_getElem hjl] at hj
    simp only [Option.map_some, Option.some.injEq] at hj
    subst hj
    rw [Lib.row_is_numeral hF j hjl, Lib.add_plain, World.cell?_drewN]
    exact cell?_putRow (fun (b : UInt8) => Value.int .u8 (b.toNat : Int)) _ w.heap.size 0 _ dk HH0.out (by rw [hF.size, Array.size_replicate]) j (by rw [hF.size]; rw [Lib.decDigits_length] at hjl; exact hjl)
  obtain ⟨os, eo⟩ := Lib.fin_at w (.cells Lib.zeros24 126) dk k 0
  have hnx2 : Below w.heap.size w ((putRow (fun (b : UInt8) => Value.int .u8 (b.toNat : Int)) (w.alloc (.cells Lib.zeros24 126)) w.heap.size 0 dk).drewN k) := by rw [eo]; exact Lib.below_grow w.heap.size w (Nat.le_refl _) k os
  generalize (putRow (fun (b : UInt8) => Value.int .u8 (b.toNat : Int)) (w.alloc (.cells Lib.zeros24 126)) w.heap.size 0 dk).drewN k = W2 at hread hnx2 ⊢
  clear eo HH0 HF HN
  have hread' : Reads W2 (w.heap.size + 1) 1 (some ⟨w.heap.size, 0, none⟩) (Lib.decDigits u).length ((Lib.decDigits u).map B) := by rw [Lib.decDigits_length]; exact hread
  have hcv := run_string_reads (P := Tryd.prog) 36 9 5 24 Tryd.underlying36 Tryd.underlying5 Tryd.underlying9 hread'
  rw [Lib.decDigits_length] at hcv
  have HNX := hide hnx2
  clear hread hread' hnx2
  go_wp2_with fail
  go_ret
  exact ⟨rfl, HNX.out⟩

theorem formatUint10 (u : Nat) (w : World) (hu64 : u < 18446744073709551616) (ht : Hid (Tab w)) : Calls Tryd.prog 66 #[.int .u64 u, .int .i64 10] w (SaysP w (Lib.decDigits u)) := by
  by_cases h : u < 100
  · exact formatUint10_small u w h
  · exact formatUint10_big u w (by omega) hu64 ht
end Go.Proofs.YtnfaaiifbiobiaaDoor
