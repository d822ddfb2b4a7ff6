/-
  flash: of no flash, and no cursor, nothing comes: contracts; FlashNone's walk.
  instr: Decode of no cursor: contract.
-/
import Derived.Test.YtpanlhbdphobdaaGreatDoorDeAN
import Derived.Laws.MakeOwn
import Derived.Test.YtpanlhbdphobdaaGreatDoorDeAI
import Derived.Test.YtpanlhbdphobdaaGreatDoorFaAU
namespace Go.Proofs.YtpanlhbdphobdaaGreatDoor
open Go.RowKit
set_option linter.unusedVariables false

theorem run_make_n {P : Program} {t e : TypeId} {size bytes : Nat} (hE : IsElem P t e size bytes) (W : World) (n : Nat) (hb : bytes * n ≤ 1000000000) (hn : n ≤ 1000000000) :
    ∃ o, (Instr.makeSlice t (.int .i64 (n : Int)) (.int .i64 (n : Int))).run P W = .ok (.slice (some ⟨W.heap.size, 0, none⟩) n n) (W.alloc o) := by
  obtain ⟨ht, i, z, hi, hz, hsize, hby, hzs, hsz⟩ := hE
  have h := run_make (P := P) W t e i z ht hi hz .i64 .i64 n n (by omega) (by omega) (by rw [hby]; rw [← Int.natCast_mul]; omega) (by omega)
  rw [Int.toNat_natCast] at h
  exact ⟨_, h⟩

set_option maxHeartbeats 400000 in
theorem nil_left (w : World) : Calls Tryz.prog 26 #[.pointer none] w fun e w' => e = .returned (.int .i64 0) ∧ w = w' := by
  go_enter Tryz.func26, Tryz.ntmps26
  go_wp2_with fail
  go_ret
  exact ⟨rfl, rfl⟩
set_option maxHeartbeats 400000 in
theorem nil_at (w : World) : Calls Tryz.prog 21 #[.pointer none] w fun e w' => e = .returned (.int .i64 0) ∧ w = w' := by
  go_enter Tryz.func21, Tryz.ntmps21
  go_wp2_with fail
  go_ret
  exact ⟨rfl, rfl⟩
set_option maxHeartbeats 400000 in
theorem nil_reads (w : World) : Calls Tryz.prog 23 #[.pointer none] w fun e w' => e = .returned (.int .i64 0) ∧ w = w' := by
  go_enter Tryz.func23, Tryz.ntmps23
  go_wp2_with fail
  go_ret
  exact ⟨rfl, rfl⟩
set_option maxHeartbeats 400000 in
theorem nil_failAt (n : Int) (w : World) : Calls Tryz.prog 19 #[.pointer none, .int .i64 n] w fun e w' => e = .returned (.tuple #[]) ∧ w = w' := by
  go_enter Tryz.func19, Tryz.ntmps19
  go_wp2_with fail
  go_end0
  exact ⟨rfl, rfl⟩
set_option maxHeartbeats 400000 in
theorem nil_go (n : Int) (w : World) : Calls Tryz.prog 27 #[.pointer none, .int .i64 n] w fun e w' => e = .returned (.int .i64 12) ∧ w = w' := by
  go_enter Tryz.func27, Tryz.ntmps27
  go_wp2_with fail
  go_ret
  exact ⟨rfl, rfl⟩
set_option maxHeartbeats 400000 in
theorem nil_wrong (n : Int) (w : World) : Calls Tryz.prog 173 #[.pointer none, .int .i64 n] w fun e w' => e = .returned (.int .i64 12) ∧ w = w' := by
  go_enter Tryz.func173, Tryz.ntmps173
  go_wp2_with fail
  go_ret
  exact ⟨rfl, rfl⟩
set_option maxHeartbeats 400000 in
theorem nil_take (n : Int) (w : World) : Calls Tryz.prog 145 #[.pointer none, .int .i64 n] w fun e w' => e = .returned (.tuple #[.slice none 0 0, .int .i64 12]) ∧ w = w' := by
  go_enter Tryz.func145, Tryz.ntmps145
  go_wp2_with fail
  refine (nil_wrong n _).mono ?_; rintro e w' ⟨rfl, rfl⟩
  go_wp2_with fail
  go_ret2
  exact ⟨rfl, rfl⟩
set_option maxHeartbeats 400000 in
theorem nil_byte (w : World) : Calls Tryz.prog 114 #[.pointer none] w fun e w' => e = .returned (.tuple #[.int .u8 0, .int .i64 12]) ∧ w = w' := by
  go_enter Tryz.func114, Tryz.ntmps114
  go_wp2_with fail
  refine (nil_take 1 _).mono ?_; rintro e w' ⟨rfl, rfl⟩
  go_wp2_with fail
  go_ret2
  exact ⟨rfl, rfl⟩
set_option maxHeartbeats 400000 in
theorem nil_number (v : Value) (w : World) : Calls Tryz.prog 146 #[.pointer none, v] w fun e w' => e = .returned (.int .i64 12) ∧ w = w' := by
  go_enter Tryz.func146, Tryz.ntmps146
  go_wp2_with fail
  go_ret
  exact ⟨rfl, rfl⟩
set_option maxHeartbeats 400000 in
theorem nil_unsigned (n : Int) (w : World) : Calls Tryz.prog 115 #[.pointer none, .int .i64 n] w fun e w' => e = .returned (.tuple #[.int .u64 0, .int .i64 12]) ∧ Below w.heap.size w w' := by
  go_enter Tryz.func115, Tryz.ntmps115
  go_wp2_with fail
  refine (nil_number _ _).mono ?_; rintro e w' ⟨rfl, rfl⟩
  go_wp2_with fail
  go_ret2
  exact ⟨rfl, ((Below.refl _ _).alloc (Nat.le_refl _) _).alloc (by simp) _⟩
set_option maxHeartbeats 400000 in
theorem nil_bytes (a n : Int) (w : World) : Calls Tryz.prog 191 #[.pointer none, .int .i64 a, .int .i64 n] w fun e w' => e = .returned (.tuple #[.slice none 0 0, .int .i64 12]) ∧ w = w' := by
  go_enter Tryz.func191, Tryz.ntmps191
  go_wp2_with fail
  go_ret2
  exact ⟨rfl, rfl⟩
set_option maxHeartbeats 400000 in
theorem nil_cursor (a b : Int) (w : World) : Calls Tryz.prog 20 #[.pointer none, .int .i64 a, .int .i64 b] w fun e w' => e = .returned (.tuple #[.pointer none, .int .i64 12]) ∧ w = w' := by
  go_enter Tryz.func20, Tryz.ntmps20
  go_wp2_with fail
  go_ret2
  exact ⟨rfl, rfl⟩

end Go.Proofs.YtpanlhbdphobdaaGreatDoor

namespace Go.Proofs.YtpanlhbdphobdaaGreatDoor
open Go.RowKit
set_option linter.unusedVariables false

theorem rbyte_nil (rb : Nat) (w : World) (h : Hid (w.heap[rb]? = some (.cells #[.pointer none, .int .i64 0] 94 (0, 0)))) :
    Calls Tryz.prog 81 #[.pointer (some ⟨rb, 0, none⟩)] w fun e w' => e = .returned (.int .u8 0) ∧ Hid (w'.heap[rb]? = some (.cells #[.pointer none, .int .i64 12] 94 (0, 0))) ∧ Hid (Only [rb] w w') := by
  have c0 := cell_blk h.out 0
  have c1 := cell_blk h.out 1
  simp at c0 c1
  have z1 := frozen_blk h.out 1
  have HN := hide (nil_byte w)
  go_enter Tryz.func81, Tryz.ntmps81
  go_wp2_with fail
  refine HN.out.mono ?_; rintro en w1 ⟨rfl, rfl⟩
  go_wp2_with fail
  go_ret
  exact ⟨rfl, by show _ = _; rw [setCell_blk h.out]; rfl, Only.setCell w (p := ⟨rb, 1, none⟩) (by simp) _⟩

theorem rfail_nil (rb : Nat) (is : Bool) (k : Int) (w : World) (h : Hid (w.heap[rb]? = some (.cells #[.pointer none, .int .i64 12] 94 (0, 0)))) :
    Calls Tryz.prog 83 #[.pointer (some ⟨rb, 0, none⟩), .bool is, .int .i64 k] w fun en w' => en = .returned (.tuple #[]) ∧ w = w' := by
  have c0 := cell_blk h.out 0
  have c1 := cell_blk h.out 1
  simp at c0 c1
  go_enter Tryz.func83, Tryz.ntmps83
  go_wp2_with fail
  go_end0
  exact ⟨rfl, rfl⟩

theorem rcode_nil (rb : Nat) (w : World) (h : Hid (w.heap[rb]? = some (.cells #[.pointer none, .int .i64 0] 94 (0, 0)))) :
    Calls Tryz.prog 49 #[.pointer (some ⟨rb, 0, none⟩)] w fun e w' => e = .returned (.int .i64 0) ∧ Hid (w'.heap[rb]? = some (.cells #[.pointer none, .int .i64 12] 94 (0, 0))) ∧ Hid (Only [rb] w w') := by
  have HB := hide (rbyte_nil rb w h)
  obtain ⟨q, hq⟩ : ∃ q, (opRow (0 : Int)).isSome = q := ⟨_, rfl⟩
  have HF : Hid (∀ W, Calls Tryz.prog 31 #[.int .i64 0] W fun e W' => ∃ u0 u1 u2 A3 n3 c3 A4 n4 c4, e = .returned (.tuple #[.agg #[.int .i64 u0, .string u1, .int .i64 u2, .slice A3 n3 c3, .slice A4 n4 c4], .bool q]) ∧ Hid (Below W.heap.size W W')) := by
    show ∀ W, _
    intro W
    cases ho : opRow (0 : Int) with
    | none =>
      rw [ho] at hq
      subst hq
      exact (find_none 0 W (by omega) (by omega) ho).mono fun e W' ⟨he, hb⟩ => ⟨_, _, _, _, _, _, _, _, _, he, hb⟩
    | some row =>
      rw [ho] at hq
      subst hq
      exact (find_some 0 row W (by omega) (by omega) ho).mono fun e W' ⟨A1, c1, A2, c2, he, _, _, hb⟩ => ⟨_, _, _, _, _, _, _, _, _, he, hb⟩
  have HFO := hide (fun W => foreign_any (0 : Int) W (by omega) (by omega))
  clear hq
  go_enter Tryz.func49, Tryz.ntmps49
  go_wp2_with fail
  refine HB.out.mono ?_; rintro e w1 ⟨rfl, h1, o1⟩
  have hrb := blk_lt h1.out
  go_wp2_with fail
  refine (HF.out _).mono ?_; rintro e w2 ⟨u0, u1, u2, A3, n3, c3, A4, n4, c4, rfl, hb2⟩
  obtain ⟨W2, hW2⟩ : ∃ W2, w2.alloc (.cells #[.int .i64 u0, .string u1, .int .i64 u2, .slice A3 n3 c3, .slice A4 n4 c4] 63) = W2 := ⟨_, rfl⟩
  have hB2 : Hid (Below w1.heap.size w1 W2) := by rw [← hW2]; exact hb2.out.alloc hb2.out.size _
  have HW2 := hide hW2; clear hW2 hb2
  go_wp2_with fail
  rw [HW2.out]
  refine (HFO.out _).mono ?_; rintro e w3 ⟨rfl, hb3⟩
  have hB3 : Hid (Below w1.heap.size w1 w3) := hB2.out.trans (hb3.out.mono hB2.out.size)
  have h3 := hide ((hB3.out.block rb hrb).trans h1.out)
  have HF1 := hide (fun is k => rfail_nil rb is k w3 h3)
  go_wp2_with fail
  refine (HF1.out _ _).mono ?_; rintro e w4 ⟨rfl, rfl⟩
  go_wp2_with fail
  refine (HF1.out _ _).mono ?_; rintro e w5 ⟨rfl, rfl⟩
  go_wp2_with fail
  go_ret
  exact ⟨rfl, h3, o1.out.then_new hB3.out⟩

set_option maxRecDepth 100000 in
set_option maxHeartbeats 1600000 in
theorem decode_nil (w : World) : Calls Tryz.prog 22 #[.pointer none] w fun e w' => e = .returned (.tuple #[.agg #[.int .i64 0, .int .u64 0, .int .u64 0, .int .i64 0, .slice none 0 0], .int .i64 12]) ∧ Hid (Below w.heap.size w w') := by
  obtain ⟨gd, hgd⟩ : ∃ gd, w.heap.size = gd := ⟨_, rfl⟩
  obtain ⟨W, hW⟩ : ∃ W, (w.alloc (.cells #[.int .i64 0, .int .u64 0, .int .u64 0, .int .i64 0, .slice none 0 0] 28)) = W := ⟨_, rfl⟩
  have hblkW : W.heap[gd]? = some (.cells #[.int .i64 0, .int .u64 0, .int .u64 0, .int .i64 0, .slice none 0 0] 28 (0, 0)) := by rw [← hW, ← hgd]; exact heap_alloc_new w _
  have hszW : W.heap.size = gd + 1 := by rw [← hW, ← hgd]; simp
  have hbW : Below gd w W := by rw [← hW, ← hgd]; exact (Below.refl _ _).alloc (Nat.le_refl _) _
  obtain ⟨W1, hW1⟩ : ∃ W1, W.alloc (.cells #[.pointer none, .int .i64 0] 94) = W1 := ⟨_, rfl⟩
  have hbW1 : Below (gd + 1) W W1 := by rw [← hW1, ← hszW]; exact (Below.refl _ _).alloc (Nat.le_refl _) _
  have hb1 : Hid (W1.heap[gd + 1]? = some (.cells #[.pointer none, .int .i64 0] 94 (0, 0))) := by show _ = _; rw [← hW1, ← hszW]; exact heap_alloc_new W _
  have hblk1 : Hid (W1.heap[gd]? = some (.cells #[.int .i64 0, .int .u64 0, .int .u64 0, .int .i64 0, .slice none 0 0] 28 (0, 0))) := (hbW1.block gd (by omega)).trans hblkW
  have hB1 : Hid (Below gd w W1) := hbW.trans (hbW1.mono (by omega))
  have hs1 : gd + 1 < W1.heap.size := blk_lt hb1.out
  have HAT := hide (nil_at W)
  have HCO := hide (rcode_nil (gd + 1) W1 hb1)
  have HGD := hide hgd; have HW := hide hW; have HW1 := hide hW1; have HSZ := hide hszW
  clear hgd hW hW1 hbW hbW1 hblkW hszW
  go_enter Tryz.func22, Tryz.ntmps22
  go_wp2_with fail
  rw [HW.out, HGD.out]
  refine HAT.out.mono ?_; rintro e w' ⟨rfl, rfl⟩
  go_wp2_with fail
  rw [HW1.out, HSZ.out]
  refine HCO.out.mono ?_; rintro en w2 ⟨rfl, h2, o2⟩
  obtain ⟨xb, hxb⟩ : ∃ xb, w2.heap.size = xb := ⟨_, rfl⟩
  obtain ⟨W3, hW3⟩ : ∃ W3, w2.alloc (.cells #[.int .i64 0, .int .u64 0, .int .u64 0, .int .i64 0, .slice none 0 0] 28) = W3 := ⟨_, rfl⟩
  have hb3 : Below xb w2 W3 := by rw [← hW3, ← hxb]; exact (Below.refl _ _).alloc (Nat.le_refl _) _
  have hs2 := o2.out.size
  have hR3 := hide ((hb3.block (gd + 1) (by omega)).trans h2.out)
  have hblk3 := hide ((hb3.block gd (by omega)).trans ((o2.out.block gd (by omega) (by simp)).trans hblk1.out))
  have hB3 : Hid (Below gd w W3) := (hB1.out.trans (o2.out.below (by omega) (by simp))).trans (hb3.mono (by omega))
  have hs3 : gd < W3.heap.size := blk_lt hblk3.out
  have HXB := hide hxb; have HW3 := hide hW3
  have d0 := cell_blk hR3.out 0
  have d1 := cell_blk hR3.out 1
  simp at d0 d1
  have e0 : W3.cell? ⟨gd, 0, none⟩ = some (.int .i64 0) := cell_blk hblk3.out 0
  have e1 : W3.cell? ⟨gd, 1, none⟩ = some (.int .u64 0) := cell_blk hblk3.out 1
  have e2 : W3.cell? ⟨gd, 2, none⟩ = some (.int .u64 0) := cell_blk hblk3.out 2
  have e3 : W3.cell? ⟨gd, 3, none⟩ = some (.int .i64 0) := cell_blk hblk3.out 3
  have e4 : W3.cell? ⟨gd, 4, none⟩ = some (.slice none 0 0) := cell_blk hblk3.out 4
  have z0 := frozen_blk hblk3.out 0
  have z1 := frozen_blk hblk3.out 1
  have z2 := frozen_blk hblk3.out 2
  have z3 := frozen_blk hblk3.out 3
  have z4 := frozen_blk hblk3.out 4
  have HGO := hide (nil_go 0 W3)
  clear hxb hW3 hb3 hs2 hs1
  go_upto_region 4 with fail
  rw [HW3.out, HXB.out]
  go_wp2_with fail
  refine HGO.out.mono ?_; rintro e w4 ⟨rfl, rfl⟩
  go_upto_region 8 with fail
  go_region
  go_wp2_with fail
  refine bodyPost_ret (v := .tuple #[.agg #[.int .i64 0, .int .u64 0, .int .u64 0, .int .i64 0, .slice none 0 0], .int .i64 12]) (by simp [results, Tryz.results22, go_sem, e0, e1, e2, e3, e4]) rfl ?_
  have hs : ∀ (V : World) (i : Nat) (x : Value), Only [gd] V (V.setCell ⟨gd, i, none⟩ x) := fun V i x => Only.setCell V (p := ⟨gd, i, none⟩) (by simp) x
  have ho := (((((hs W3 0 (.int .i64 0)).trans (hs _ 1 (.int .u64 0))).trans (hs _ 2 (.int .u64 0))).trans (hs _ 3 (.int .i64 0))).trans (hs _ 4 (.slice none 0 0))).trans (Only.drew [gd] _)
  exact ⟨rfl, by rw [HGD.out]; exact hB3.out.trans (ho.below (by omega) (by simp))⟩
end Go.Proofs.YtpanlhbdphobdaaGreatDoor
