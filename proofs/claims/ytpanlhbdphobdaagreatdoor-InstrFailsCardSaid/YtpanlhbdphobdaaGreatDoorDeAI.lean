/-
  op: a row's info: contract.
  A law's arguments, as the rows read them, in the words of our own (Reads).
  op: Foreign, Numeric: contracts; what a code is, plainly.
-/
import Derived.Test.YtpanlhbdphobdaaGreatDoorDeAG
import Derived.Test.YtpanlhbdphobdaaGreatDoorDeAH
import Derived.Deep.QuietTactic
import Derived.BigQuiet
import Derived.Test.YtpanlhbdphobdaaGreatDoorDeAC
namespace Go.Proofs.YtpanlhbdphobdaaGreatDoor
open Go.RowKit
set_option linter.unusedVariables false

/-- what is in a row's letters -/
structure OpRow.Ok (r : OpRow) : Prop where
  ta : ∀ i (h : i < r.takes.size), (r.takes[i]).toNat < 128
  tl : r.takes.size ≤ 3
  ga : ∀ i (h : i < r.gives.size), (r.gives[i]).toNat < 128
  gl : r.gives.size ≤ 1

/-- an op's info, as it comes back -/
def InfoPost (r : OpRow) (w : World) (e : Ending) (w' : World) : Prop :=
  ∃ A1 c1 A2 c2, e = .returned (.agg #[.int .i64 r.code, .string r.name, .int .i64 r.form, .slice A1 r.takes.size c1, .slice A2 r.gives.size c2]) ∧
    Hid (w'.ownsRow w.heap.size 121 1 (.slice A1 r.takes.size c1) r.takes.size ((typesL r.takes).map B)) ∧ Hid (w'.ownsRow w.heap.size 121 1 (.slice A2 r.gives.size c2) r.gives.size ((typesL r.gives).map B)) ∧ Hid (Below w.heap.size w w')

set_option maxRecDepth 100000 in
set_option maxHeartbeats 1600000 in
theorem info_any (r : OpRow) (hr : Hid r.Ok) (w : World) :
    Calls Tryz.prog 63 #[.agg #[.int .i64 r.code, .string r.name, .int .i64 r.form, .string r.takes, .string r.gives]] w (InfoPost r w) := by
  have H1 : Hid (∀ i (h : i < r.takes.size), (r.takes[i]).toNat < 128) := hr.out.ta
  have H2 : Hid (∀ i (h : i < r.gives.size), (r.gives[i]).toNat < 128) := hr.out.ga
  have hl1 : r.takes.size ≤ 1000 := by have := hr.out.tl; omega
  have hl2 : r.gives.size ≤ 1000 := by have := hr.out.gl; omega
  go_enter Tryz.func63, Tryz.ntmps63
  go_wp2_with fail
  obtain ⟨W, hW⟩ : ∃ W, ((w.alloc (.cells #[.int .i64 r.code, .string r.name, .int .i64 r.form, .string r.takes, .string r.gives] 109)).alloc (.cells #[.int .i64 0, .string ⟨#[]⟩, .int .i64 0, .slice none 0 0, .slice none 0 0] 63)) = W := ⟨_, rfl⟩
  have hbW : Below w.heap.size w W := by rw [← hW]; exact ((Below.refl _ _).alloc (Nat.le_refl _) _).alloc (by simp) _
  obtain ⟨gb, hgb⟩ : ∃ gb, w.heap.size = gb := ⟨_, rfl⟩
  have hblk : W.heap[gb]? = some (.cells #[.int .i64 r.code, .string r.name, .int .i64 r.form, .string r.takes, .string r.gives] 109 (0, 0)) := by
    rw [← hW, ← hgb, Below.heap_alloc _ _ _ (by simp)]
    exact heap_alloc_new w _
  have hblk2 : W.heap[gb + 1]? = some (.cells #[.int .i64 0, .string ⟨#[]⟩, .int .i64 0, .slice none 0 0, .slice none 0 0] 63 (0, 0)) := by
    rw [← hW, ← hgb]
    have := heap_alloc_new (w.alloc (.cells #[.int .i64 r.code, .string r.name, .int .i64 r.form, .string r.takes, .string r.gives] 109)) (.cells #[.int .i64 0, .string ⟨#[]⟩, .int .i64 0, .slice none 0 0, .slice none 0 0] 63)
    simpa using this
  have hsz : W.heap.size = gb + 2 := by rw [← hW, ← hgb]; simp
  rw [hW, hgb]
  rw [hgb] at hbW
  have HB := hide hbW
  have HG := hide hgb
  have HSZ := hide hsz
  have HCC : CellsOf W (gb + 2) gb _ := CellsOf.of hblk (by omega)
  have HK2 := hide hblk2
  clear hbW hW hgb hsz hblk hblk2
  --REGIONA
  refine wp_region_last (l := [_, _, _, _, _, _, _, _, _, _, _, _, _]) (o := _) grew_ext (factsOf [fun yy _ => yy = .pointer (some ⟨gb, 0, none⟩),
    fun yy _ => yy = .int .i64 r.code,
    fun yy _ => yy = .pointer (some ⟨gb, 1, none⟩),
    fun yy _ => yy = .string r.name,
    fun yy _ => yy = .pointer (some ⟨gb, 2, none⟩),
    fun yy _ => yy = .int .i64 r.form,
    fun yy _ => yy = .pointer (some ⟨gb, 3, none⟩),
    fun yy _ => yy = .string r.takes,
    fun yy WW => ∃ A1 c1, yy = .slice A1 r.takes.size c1 ∧ WW.ownsRow (gb + 2) 121 1 (.slice A1 r.takes.size c1) r.takes.size ((typesL r.takes).map B),
    fun yy _ => yy = .pointer (some ⟨gb, 4, none⟩),
    fun yy _ => yy = .string r.gives,
    fun yy WW => ∃ A1 c1, yy = .slice A1 r.gives.size c1 ∧ WW.ownsRow (gb + 2) 121 1 (.slice A1 r.gives.size c1) r.gives.size ((typesL r.gives).map B),
    fun yy WW => ∃ A1 c1 A2 c2, yy = .agg #[.int .i64 r.code, .string r.name, .int .i64 r.form, .slice A1 r.takes.size c1, .slice A2 r.gives.size c2] ∧ WW.ownsRow (gb + 2) 121 1 (.slice A1 r.takes.size c1) r.takes.size ((typesL r.takes).map B) ∧ WW.ownsRow (gb + 2) 121 1 (.slice A2 r.gives.size c2) r.gives.size ((typesL r.gives).map B)]) (by kernel_rfl) (by kernel_rfl) (by kernel_rfl) ?_ ?_
  · refine ⟨?_, ?_, ?_, ?_, ?_, ?_, ?_, ?_, ?_, ?_, ?_, ?_, ?_, trivial⟩
    · refine ⟨fun ρ W hk => ?_⟩
      have o1 : ρ (.tmp 1) = .pointer (some ⟨gb, 0, none⟩) := hk.old 1 (by decide)
      exact OpOut.fieldAddr (x := .tmp 1) rfl o1 (by go_simp) ⟨Below.refl _ _, rfl⟩
    · refine ⟨fun ρ W hk => ?_⟩
      have h0 := (hk.fact 0 3 (by decide) rfl).pure
      have hc := HCC.out W hk.below 0 (.int .i64 r.code) rfl
      exact OpOut.load (x := .tmp 3) rfl h0 (by go_simp) ⟨Below.refl _ _, rfl⟩
    · refine ⟨fun ρ W hk => ?_⟩
      have o1 : ρ (.tmp 1) = .pointer (some ⟨gb, 0, none⟩) := hk.old 1 (by decide)
      exact OpOut.fieldAddr (x := .tmp 1) rfl o1 (by go_simp) ⟨Below.refl _ _, rfl⟩
    · refine ⟨fun ρ W hk => ?_⟩
      have h2 := (hk.fact 2 5 (by decide) rfl).pure
      have hc := HCC.out W hk.below 1 (.string r.name) rfl
      exact OpOut.load (x := .tmp 5) rfl h2 (by go_simp) ⟨Below.refl _ _, rfl⟩
    · refine ⟨fun ρ W hk => ?_⟩
      have o1 : ρ (.tmp 1) = .pointer (some ⟨gb, 0, none⟩) := hk.old 1 (by decide)
      exact OpOut.fieldAddr (x := .tmp 1) rfl o1 (by go_simp) ⟨Below.refl _ _, rfl⟩
    · refine ⟨fun ρ W hk => ?_⟩
      have h4 := (hk.fact 4 7 (by decide) rfl).pure
      have hc := HCC.out W hk.below 2 (.int .i64 r.form) rfl
      exact OpOut.load (x := .tmp 7) rfl h4 (by go_simp) ⟨Below.refl _ _, rfl⟩
    · refine ⟨fun ρ W hk => ?_⟩
      have o1 : ρ (.tmp 1) = .pointer (some ⟨gb, 0, none⟩) := hk.old 1 (by decide)
      exact OpOut.fieldAddr (x := .tmp 1) rfl o1 (by go_simp) ⟨Below.refl _ _, rfl⟩
    · refine ⟨fun ρ W hk => ?_⟩
      have h6 := (hk.fact 6 9 (by decide) rfl).pure
      have hc := HCC.out W hk.below 3 (.string r.takes) rfl
      exact OpOut.load (x := .tmp 9) rfl h6 (by go_simp) ⟨Below.refl _ _, rfl⟩
    · refine ⟨fun ρ W hk => ?_⟩
      have h7 := (hk.fact 7 10 (by decide) rfl).pure
      refine OpOut.fn (args := #[.string r.takes]) rfl (hk.func _) (by simp [h7]) Tryz.func95 (by kernel_rfl) rfl ?_
      have hz := HCC.size W hk.below
      refine (opTypes_any r.takes W H1 hl1).mono ?_; rintro e w5 ⟨A5, c5, rfl, ho5, hb5⟩
      exact ⟨_, rfl, hb5.out, A5, c5, rfl, own_base ho5.out (fun q hq => by have := own_ge ho5.out q hq; omega)⟩
    · refine ⟨fun ρ W hk => ?_⟩
      have o1 : ρ (.tmp 1) = .pointer (some ⟨gb, 0, none⟩) := hk.old 1 (by decide)
      exact OpOut.fieldAddr (x := .tmp 1) rfl o1 (by go_simp) ⟨Below.refl _ _, rfl⟩
    · refine ⟨fun ρ W hk => ?_⟩
      have h9 := (hk.fact 9 12 (by decide) rfl).pure
      have hc := HCC.out W hk.below 4 (.string r.gives) rfl
      exact OpOut.load (x := .tmp 12) rfl h9 (by go_simp) ⟨Below.refl _ _, rfl⟩
    · refine ⟨fun ρ W hk => ?_⟩
      have h10 := (hk.fact 10 13 (by decide) rfl).pure
      refine OpOut.fn (args := #[.string r.gives]) rfl (hk.func _) (by simp [h10]) Tryz.func95 (by kernel_rfl) rfl ?_
      have hz := HCC.size W hk.below
      refine (opTypes_any r.gives W H2 hl2).mono ?_; rintro e w5 ⟨A5, c5, rfl, ho5, hb5⟩
      exact ⟨_, rfl, hb5.out, A5, c5, rfl, own_base ho5.out (fun q hq => by have := own_ge ho5.out q hq; omega)⟩
    · refine ⟨fun ρ W hk => ?_⟩
      have h1 := (hk.fact 1 4 (by decide) rfl).pure
      have h3 := (hk.fact 3 6 (by decide) rfl).pure
      have h5 := (hk.fact 5 8 (by decide) rfl).pure
      obtain ⟨w8, hw8, A8, c8, h8, ho8⟩ := hk.fact 8 11 (by decide) rfl
      obtain ⟨w11, hw11, A11, c11, h11, ho11⟩ := hk.fact 11 14 (by decide) rfl
      exact OpOut.build (us := #[(0, .int .i64 r.code), (1, .string r.name), (2, .int .i64 r.form), (3, .slice A8 r.takes.size c8), (4, .slice A11 r.gives.size c11)]) rfl (by simp [h1, h3, h5, h8, h11]) (by go_simp) ⟨Below.refl _ _, A8, c8, A11, c11, rfl, own_only3 (S := []) ho8 (Only.of_below hw8) (by simp), own_only3 (S := []) ho11 (Only.of_below hw11) (by simp)⟩
  · intro vs W2 hb hf
    obtain ⟨w12, hw12, A1, c1, A2, c2, h12, ho1, ho2⟩ := hf 12 (by decide)
    clear hf
    simp only [fillL]
    rw [h12]
    generalize vs 0 = v0, vs 1 = v1, vs 2 = v2, vs 3 = v3, vs 4 = v4, vs 5 = v5, vs 6 = v6, vs 7 = v7, vs 8 = v8, vs 9 = v9, vs 10 = v10, vs 11 = v11
  --ENDA
    have hown1 := hide (own_only3 (S := []) ho1 (Only.of_below hw12) (by simp))
    have hown2 := hide (own_only3 (S := []) ho2 (Only.of_below hw12) (by simp))
    clear hw12 ho1 ho2
    have hsz2 := hb.size
    rw [HSZ.out] at hsz2
    have hblk3 := (hb.block (gb + 1) (by rw [HSZ.out]; omega)).trans HK2.out
    have e0 : W2.cell? ⟨gb + 1, 0, none⟩ = some (.int .i64 0) := cell_blk hblk3 0
    have e1 : W2.cell? ⟨gb + 1, 1, none⟩ = some (.string ⟨#[]⟩) := cell_blk hblk3 1
    have e2 : W2.cell? ⟨gb + 1, 2, none⟩ = some (.int .i64 0) := cell_blk hblk3 2
    have e3 : W2.cell? ⟨gb + 1, 3, none⟩ = some (.slice none 0 0) := cell_blk hblk3 3
    have e4 : W2.cell? ⟨gb + 1, 4, none⟩ = some (.slice none 0 0) := cell_blk hblk3 4
    have z0 := frozen_blk hblk3 0
    have z1 := frozen_blk hblk3 1
    have z2 := frozen_blk hblk3 2
    have z3 := frozen_blk hblk3 3
    have z4 := frozen_blk hblk3 4
    clear hblk3 h12
    go_frame
    go_wp2_with fail
    have hs5 : ∀ (V : World) (i : Nat) (x : Value), Only [gb + 1] V (V.setCell ⟨gb + 1, i, none⟩ x) := fun V i x => Only.setCell V (p := ⟨gb + 1, i, none⟩) (by simp) x
    have ho5 := (((((hs5 W2 0 (.int .i64 r.code))).trans (hs5 _ 1 (.string r.name))).trans (hs5 _ 2 (.int .i64 r.form))).trans (hs5 _ 3 (.slice A1 r.takes.size c1))).trans (hs5 _ 4 (.slice A2 r.gives.size c2))
    have hblk4 := (hb.block (gb + 1) (by rw [HSZ.out]; omega)).trans HK2.out
    have hbF := setCell_blk (setCell_blk (setCell_blk (setCell_blk (setCell_blk hblk4 0 (.int .i64 r.code)) 1 (.string r.name)) 2 (.int .i64 r.form)) 3 (.slice A1 r.takes.size c1)) 4 (.slice A2 r.gives.size c2)
    generalize ((((W2.setCell ⟨gb + 1, 0, none⟩ (.int .i64 r.code)).setCell ⟨gb + 1, 1, none⟩ (.string r.name)).setCell ⟨gb + 1, 2, none⟩ (.int .i64 r.form)).setCell ⟨gb + 1, 3, none⟩ (.slice A1 r.takes.size c1)).setCell ⟨gb + 1, 4, none⟩ (.slice A2 r.gives.size c2) = Wf at ho5 hbF ⊢
    clear e0 e1 e2 e3 e4 z0 z1 z2 z3 z4
    have f0 : Wf.cell? ⟨gb + 1, 0, none⟩ = some (.int .i64 r.code) := cell_blk hbF 0
    have f1 : Wf.cell? ⟨gb + 1, 1, none⟩ = some (.string r.name) := cell_blk hbF 1
    have f2 : Wf.cell? ⟨gb + 1, 2, none⟩ = some (.int .i64 r.form) := cell_blk hbF 2
    have f3 : Wf.cell? ⟨gb + 1, 3, none⟩ = some (.slice A1 r.takes.size c1) := cell_blk hbF 3
    have f4 : Wf.cell? ⟨gb + 1, 4, none⟩ = some (.slice A2 r.gives.size c2) := cell_blk hbF 4
    refine bodyPost_ret (v := .agg #[.int .i64 r.code, .string r.name, .int .i64 r.form, .slice A1 r.takes.size c1, .slice A2 r.gives.size c2]) (by simp [results, Tryz.results63, go_sem, f0, f1, f2, f3, f4]) rfl ?_
    have hl : ∀ {v : Value} {n : Nat} {xs : List Value}, W2.ownsRow (gb + 2) 121 1 v n xs → Wf.ownsRow w.heap.size 121 1 v n xs := fun h => by
      have h9 := own_only3 h ho5 (fun g hg => by have := own_ge h g hg; simp; omega)
      exact own_base h9 (fun g hg => by have := own_ge h g hg; rw [HG.out]; omega)
    refine ⟨A1, c1, A2, c2, rfl, hl hown1.out, hl hown2.out, ?_⟩
    have h9 : Below gb w W2 := HB.out.trans (hb.mono (by rw [HSZ.out]; omega))
    have h10 := h9.size
    rw [HG.out] at h10 ⊢
    exact h9.trans (ho5.below h10 (by simp))
end Go.Proofs.YtpanlhbdphobdaaGreatDoor

namespace Go.Proofs.YtpanlhbdphobdaaGreatDoor
open Go.RowKit

/-- what the row tells of a slice of integers that came in: it is nil; or it leads to a row of 'cap' cells, the numbers 'zs', each fitting its kind -/
def IsRow (k : IntKind) (w : World) (a : Option Addr) (len cap : Nat) (zs : List Int) : Prop :=
  (a = none ∧ len = 0 ∧ cap = 0 ∧ zs = []) ∨
  ∃ x, a = some x ∧ len ≤ cap ∧ cap ≤ maxLen ∧ zs.length = cap ∧ (∀ i, i < zs.length → w.cell? (x.add i) = some (.int k (zs.getD i 0))) ∧ ∀ n ∈ zs, (Lit.int k n).wf = true

theorem IsRow.ints {k : IntKind} {w : World} {a : Option Addr} {len cap : Nat} {zs : List Int} (h : IsRow k w a len cap zs) :
    ∃ ys : List Int, ys.length = len ∧ Reads w w.heap.size 1 a ys.length (ys.map (Value.int k)) ∧ len ≤ cap ∧ cap ≤ maxLen ∧ ∀ n ∈ ys, (Lit.int k n).wf = true := by
  rcases h with ⟨rfl, rfl, rfl, rfl⟩ | ⟨x, rfl, hl, hm, hz, hc, hw⟩
  · exact ⟨[], rfl, Reads.none_, Nat.le_refl _, by unfold maxLen; omega, by simp⟩
  · refine ⟨zs.take len, by rw [List.length_take]; omega, ⟨by simp, fun hn => ⟨x, rfl, ?_, fun j u hu => ?_⟩⟩, hl, hm, fun n hn => hw n (List.mem_of_mem_take hn)⟩
    · have h0 := hc 0 (by rw [List.length_take] at hn; omega)
      have := World.block_lt_of_cell? w _ h0
      rw [block_of_add] at this
      exact this
    · rw [List.getElem?_map, List.getElem?_take] at hu
      split at hu
      · rename_i hj
        have hjz : j < zs.length := by omega
        rw [hc j hjz]
        rw [List.getElem?_eq_getElem hjz] at hu
        rw [List.getD_eq_getElem?_getD, List.getElem?_eq_getElem hjz]
        exact hu
      · cases hu

theorem IsRow.bytes {w : World} {a : Option Addr} {len cap : Nat} {zs : List Int} (h : IsRow .u8 w a len cap zs) :
    ∃ bs : List UInt8, bs.length = len ∧ Reads w w.heap.size 1 a bs.length (bs.map B) ∧ bs.length ≤ cap ∧ cap ≤ maxLen := by
  obtain ⟨ys, hl, hr, h1, h2, h3⟩ := h.ints
  refine ⟨ys.map fun n => UInt8.ofNat n.toNat, by rw [List.length_map]; exact hl, ?_, by rw [List.length_map]; omega, h2⟩
  rw [List.length_map]
  have : (ys.map fun n => UInt8.ofNat n.toNat).map B = ys.map (Value.int .u8) := by
    rw [List.map_map]
    refine List.map_congr_left fun n hn => ?_
    have hb := h3 n hn
    have hb2 : 0 ≤ n ∧ n ≤ 255 := by simpa [Lit.wf, IntKind.min, IntKind.max, IntKind.signed, IntKind.bits] using hb
    have := B_ofNat n.toNat (by omega)
    rw [show ((n.toNat : Nat) : Int) = n from by omega] at this
    exact this.symm
  rw [this]
  exact hr

theorem u64_bd {n : Int} (h : (Lit.int .u64 n).wf = true) : ∃ m : Nat, n = m ∧ m < 2 ^ 64 := by
  have hb2 : 0 ≤ n ∧ n ≤ 18446744073709551615 := by simpa [Lit.wf, IntKind.min, IntKind.max, IntKind.signed, IntKind.bits] using h
  refine ⟨n.toNat, by omega, ?_⟩
  simp only [Nat.reducePow]
  omega
theorem i64_bd {n : Int} (h : (Lit.int .i64 n).wf = true) : -9223372036854775808 ≤ n ∧ n ≤ 9223372036854775807 := by
  simpa [Lit.wf, IntKind.min, IntKind.max, IntKind.signed, IntKind.bits] using h
end Go.Proofs.YtpanlhbdphobdaaGreatDoor

namespace Go.Proofs.YtpanlhbdphobdaaGreatDoor
open Go.RowKit
set_option linter.unusedVariables false

/-- is a code outside the profile -/
def foreignL (c : Int) : Bool := opFor.any (fun x => decide (x.1 ≤ c) && decide (c ≤ x.2))

set_option maxHeartbeats 1600000 in
theorem foreign_any (c : Int) (w : World) (h1 : -9223372036854775808 ≤ c) (h2 : c ≤ 9223372036854775807) :
    Calls Tryz.prog 84 #[.int .i64 c] w fun e w' => e = .returned (.bool (foreignL c)) ∧ Hid (Below w.heap.size w w') := by
  obtain ⟨v, hv⟩ : ∃ v, foreignL c = v := ⟨_, rfl⟩
  rw [hv]
  obtain ⟨C, hC⟩ : ∃ C, (opFor.flatMap forD).toArray = C := ⟨_, rfl⟩
  have HFT := hide (fun w => foreign_tab w)
  rw [hC] at HFT
  have HV := hide hv; clear hv
  have HC := hide hC; clear hC
  go_enter Tryz.func84, Tryz.ntmps84
  go_wp2_with fail
  refine (HFT.out w).mono ?_; rintro e w1 ⟨rfl, hb1⟩
  go_wp2_with fail
  go_loopw [6] (fun i w2 => ∃ k : Nat, i = .int .i64 k ∧ k ≤ 15 ∧ Hid ((opFor.drop k).any (fun x => decide (x.1 ≤ c) && decide (c ≤ x.2)) = v) ∧ Hid (Below w.heap.size w w2)) (fun i _ => 15 - (intOf i).toNat)
  case atStart => exact ⟨0, rfl, by omega, HV, hb1⟩
  case round =>
    obtain ⟨k, rfl, hk, hv, hb⟩ := hrel
    by_cases hlt : k < 15
    · obtain ⟨r, hr⟩ : ∃ r, opFor[k]? = some r := ⟨_, List.getElem?_eq_getElem (by simpa [opFor] using hlt)⟩
      have hix : ∀ W, (Instr.index 179 (.agg C) (.int .i64 k)).run Tryz.prog W = .ok (.agg #[.int .i64 r.1, .int .i64 r.2]) W := fun W => by
        rw [← HC.out]; exact run_index_row opFor_tab forD (fun _ => rfl) opFor rfl k r hr W
      have hd : opFor.drop k = r :: opFor.drop (k + 1) := by
        obtain ⟨a, b⟩ := List.getElem?_eq_some_iff.1 hr
        rw [List.drop_eq_getElem_cons a, b]
      have hv' := hv.out
      rw [hd, List.any_cons] at hv'
      clear hd hr hv
      have hb' : Hid (Below w.heap.size w (wr.alloc (.cells #[.int .i64 r.1, .int .i64 r.2] 178))) := hb.out.alloc hb.out.size _
      by_cases hin : r.1 ≤ c
      · by_cases hin2 : c ≤ r.2
        · have : v = true := by rw [← hv']; simp [hin, hin2]
          subst this
          clear hv'
          go_wp2_with fail
          go_ret
          exact ⟨rfl, hb'⟩
        · have f2 : decide (c ≤ r.2) = false := by simpa using hin2
          have HV2 : Hid ((opFor.drop (k + 1)).any (fun x => decide (x.1 ≤ c) && decide (c ≤ x.2)) = v) := by
            show _ = _; rw [f2, Bool.and_false, Bool.false_or] at hv'; exact hv'
          clear hv' hin2
          go_wp2_with fail
          go_roundw
          case rel => exact ⟨k + 1, by go_num, by omega, HV2, hb'⟩
          case measure => simp [intOf] <;> omega
      · have f1 : decide (r.1 ≤ c) = false := by simpa using hin
        have HV2 : Hid ((opFor.drop (k + 1)).any (fun x => decide (x.1 ≤ c) && decide (c ≤ x.2)) = v) := by
          show _ = _; rw [f1, Bool.false_and, Bool.false_or] at hv'; exact hv'
        clear hv' hin
        go_wp2_with fail
        go_roundw
        case rel => exact ⟨k + 1, by go_num, by omega, HV2, hb'⟩
        case measure => simp [intOf] <;> omega
    · have hk15 : k = 15 := by omega
      subst hk15
      have : v = false := by rw [← hv.out]; rfl
      subst this
      clear hv
      go_wp2_with fail
      go_ret
      exact ⟨rfl, hb⟩

/-- the numeric span of a code -/
def inSpan (c : Int) (s : OpSpan) : Bool := decide (s.first ≤ c) && decide (c < s.first + s.many)
def numSpan (c : Int) : Option OpSpan := opSpans.find? (inSpan c)
def numN (s : OpSpan) (c : Int) : Nat := (s.base + c - s.first).toNat
theorem opSpans_bd : ∀ s ∈ opSpans, 0 ≤ s.first ∧ s.first ≤ 200 ∧ 0 ≤ s.many ∧ s.many ≤ 20 ∧ 0 ≤ s.base ∧ s.base ≤ 3 ∧ 0 ≤ s.group ∧ s.group ≤ 2 ∧ 0 ≤ s.bits ∧ s.bits ≤ 64 := by decide
def numV (c : Int) : Option OpSpan → Ending
  | none => .returned (.tuple #[.int .i64 0, .int .i64 0, .int .i64 0, .bool false])
  | some s => .returned (.tuple #[.int .i64 s.group, .int .i64 (numN s c : Int), .int .i64 s.bits, .bool true])
def NumericPost (c : Int) (v : Option OpSpan) (w : World) (e : Ending) (w' : World) : Prop := e = numV c v ∧ Hid (Below w.heap.size w w')

set_option maxHeartbeats 1600000 in
theorem numeric_any (c : Int) (w : World) (h1 : -9223372036854775808 ≤ c) (h2 : c ≤ 9223372036854775807) :
    Calls Tryz.prog 119 #[.int .i64 c] w (NumericPost c (numSpan c) w) := by
  obtain ⟨v, hv⟩ : ∃ v, numSpan c = v := ⟨_, rfl⟩
  rw [hv]
  obtain ⟨C, hC⟩ : ∃ C, (opSpans.flatMap OpSpan.D).toArray = C := ⟨_, rfl⟩
  have HFT := hide (fun w => spans_tab w)
  rw [hC] at HFT
  have HV : Hid ((opSpans.drop 0).find? (inSpan c) = v) := hv
  clear hv
  have HC := hide hC; clear hC
  go_enter Tryz.func119, Tryz.ntmps119
  go_wp2_with fail
  refine (HFT.out w).mono ?_; rintro e w1 ⟨rfl, hb1⟩
  go_wp2_with fail
  go_loopw [9] (fun i w2 => ∃ k : Nat, i = .int .i64 k ∧ k ≤ 8 ∧ Hid ((opSpans.drop k).find? (inSpan c) = v) ∧ Hid (Below w.heap.size w w2)) (fun i _ => 8 - (intOf i).toNat)
  case atStart => exact ⟨0, rfl, by omega, HV, hb1⟩
  case round =>
    obtain ⟨k, rfl, hk, hv, hb⟩ := hrel
    by_cases hlt : k < 8
    · obtain ⟨r, hr⟩ : ∃ r, opSpans[k]? = some r := ⟨_, List.getElem?_eq_getElem (by simpa [opSpans] using hlt)⟩
      have hix : ∀ W, (Instr.index 163 (.agg C) (.int .i64 k)).run Tryz.prog W = .ok (.agg #[.int .i64 r.first, .int .i64 r.many, .int .i64 r.group, .int .i64 r.bits, .int .i64 r.base]) W := fun W => by
        rw [← HC.out]; exact run_index_row opSpans_tab OpSpan.D (fun _ => rfl) opSpans rfl k r hr W
      have hd : opSpans.drop k = r :: opSpans.drop (k + 1) := by
        obtain ⟨a, b⟩ := List.getElem?_eq_some_iff.1 hr
        rw [List.drop_eq_getElem_cons a, b]
      obtain ⟨b1, b2, b3, b4, b5, b6, b7, b8, b9, b10⟩ := opSpans_bd r (List.mem_of_getElem? hr)
      have hv' := hv.out
      rw [hd, List.find?_cons] at hv'
      clear hd hr hv
      have hb' : Hid (Below w.heap.size w (wr.alloc (.cells #[.int .i64 r.first, .int .i64 r.many, .int .i64 r.group, .int .i64 r.bits, .int .i64 r.base] 162))) := hb.out.alloc hb.out.size _
      by_cases hin : r.first ≤ c
      · by_cases hin2 : c < r.first + r.many
        · have : v = some r := by rw [← hv']; simp [inSpan, hin, hin2]
          subst this
          have HN : Hid (r.base + c - r.first = (numN r c : Int)) := by show _ = _; unfold numN; omega
          have s1 : IntKind.i64.wrap (r.base + c) = r.base + c := IntWalk.i64_in _ (by omega)
          have s2 : IntKind.i64.wrap (r.base + c - r.first) = r.base + c - r.first := IntWalk.i64_in _ (by omega)
          clear hv'
          go_wp2_with fail
          go_quiet (fail)
          rename_i nq
          have hb'' : Hid (Below w.heap.size w ((wr.alloc (.cells #[.int .i64 r.first, .int .i64 r.many, .int .i64 r.group, .int .i64 r.bits, .int .i64 r.base] 162)).drewN nq)) := hb'.out.trans ((Only.drewN [] _ nq).below hb'.out.size (by simp))
          rw [HN.out]
          go_wp2_with fail
          exact bodyPost_ret (results_tmp4 rfl _ _ _) rfl ⟨rfl, hb''⟩
        · have f2 : decide (c < r.first + r.many) = false := by simpa using hin2
          have HV2 : Hid ((opSpans.drop (k + 1)).find? (inSpan c) = v) := by
            show _ = _; rw [show inSpan c r = false from by unfold inSpan; rw [f2, Bool.and_false]] at hv'; exact hv'
          clear hv' hin2
          go_wp2_with fail
          go_roundw
          case rel => exact ⟨k + 1, by go_num, by omega, HV2, hb'⟩
          case measure => simp [intOf] <;> omega
      · have f1 : decide (r.first ≤ c) = false := by simpa using hin
        have HV2 : Hid ((opSpans.drop (k + 1)).find? (inSpan c) = v) := by
          show _ = _; rw [show inSpan c r = false from by unfold inSpan; rw [f1, Bool.false_and]] at hv'; exact hv'
        clear hv' hin
        go_wp2_with fail
        go_roundw
        case rel => exact ⟨k + 1, by go_num, by omega, HV2, hb'⟩
        case measure => simp [intOf] <;> omega
    · have hk8 : k = 8 := by omega
      subst hk8
      have : v = none := by rw [← hv.out]; rfl
      subst this
      clear hv
      go_wp2_with fail
      exact bodyPost_ret (results_tmp4 rfl _ _ _) rfl ⟨rfl, hb⟩
end Go.Proofs.YtpanlhbdphobdaaGreatDoor
