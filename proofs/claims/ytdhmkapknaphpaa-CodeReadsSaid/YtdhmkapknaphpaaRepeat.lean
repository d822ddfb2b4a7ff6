/-
  slices.Repeat of one type: contract.
-/
import Derived.Test.YtdhmkapknaphpaaCRead
import Derived.Test.YtdhmkapknaphpaaShelf
import Derived.Laws.MakeOwn
import Derived.Laws.CopyOwn
import Derived.Deep.RegionLaw
import Derived.IntWalk
namespace Go.Proofs.Ytdhmkapknaphpaa
open Go.RowKit
set_option linter.unusedVariables false

theorem type_elem : IsElem Try.prog 32 78 1 1 := IsElem.mk' Try.underlying32 (z := .int .u8 0) (by kernel_rfl) rfl (by omega)
/-- a row so far laid: k of n -/
def repV (t : UInt8) (n k : Nat) : List Value := List.replicate k (.int .u8 (t.toNat : Int)) ++ List.replicate (n - k) (.int .u8 0)
theorem repV_len (t : UInt8) (n k : Nat) (h : k ≤ n) : (repV t n k).length = n := by simp [repV]; omega
theorem repV_splice (t : UInt8) (n k m : Nat) (h : k + m ≤ n) : splice (repV t n k) k (List.replicate m (.int .u8 (t.toNat : Int))) = repV t n (k + m) := by
  unfold splice repV
  rw [List.take_left' (by simp), List.length_replicate, List.drop_append, List.length_replicate, List.drop_of_length_le (by simp), List.nil_append, List.drop_replicate, ← List.append_assoc, List.replicate_append_replicate]
  first | done | (congr 2; omega)
theorem repV_full (t : UInt8) (n : Nat) : repV t n n = List.replicate n (.int .u8 (t.toNat : Int)) := by simp [repV]
theorem run_make_z {P : Program} {t e : TypeId} {bytes : Nat} {z : Value} (ht : P.underlying t = some (.slice e)) (hi : (P.info? e).map (fun i => (i.zero, i.size, i.bytes)) = some (some z, 1, bytes)) (hz : z.cells = #[z]) (W : World) (n : Nat) (hb : bytes * n ≤ 1000000000) (hn : n ≤ 1000000000) :
    (Instr.makeSlice t (.int .i64 (n : Int)) (.int .i64 (n : Int))).run P W = .ok (.slice (some ⟨W.heap.size, 0, none⟩) n n) (W.alloc (.cells (List.replicate n z).toArray e)) := by
  obtain ⟨i, h1, h2⟩ := Option.map_eq_some_iff.1 hi
  simp only [Prod.mk.injEq] at h2
  obtain ⟨h2, h3, h4⟩ := h2
  have h := run_make (P := P) W t e i z ht h1 h2 .i64 .i64 n n (by omega) (by omega) (by rw [h4]; rw [← Int.natCast_mul]; omega) (by omega)
  rw [Int.toNat_natCast, h3, Nat.mul_one, hz] at h
  rw [h]
  congr 3
  unfold madeCells
  apply Array.ext
  · simp
  · intro j h1 h2
    simp [Nat.mod_one]

/-- what Repeat leaves -/
def RepPost (w : World) (t : UInt8) (n : Nat) (e : Ending) (w' : World) : Prop :=
  ∃ v, e = .returned v ∧ Hid (w'.ownsRow w.heap.size 78 1 v n (List.replicate n (.int .u8 (t.toNat : Int)))) ∧ Hid (Below w.heap.size w w')

set_option maxRecDepth 100000 in
set_option maxHeartbeats 1600000 in
theorem repeat_any (g : Nat) (t : UInt8) (n : Nat) (hn : n ≤ 100) (w : World) (h : Hid (w.heap[g]? = some (.cells #[.int .u8 (t.toNat : Int)] 78 (0, 0)))) :
    Calls Try.prog 32 #[.slice (some ⟨g, 0, none⟩) 1 1, .int .i64 (n : Int)] w (RepPost w t n) := by
  have HM : Hid (∀ w : World, Calls Try.prog 54 #[.int .u64 1, .int .u64 (n : Int)] w fun e w' => e = .returned (.tuple #[.int .u64 0, .int .u64 (n : Int)]) ∧ w = w') := by
    show ∀ w, _
    intro w
    have h1 := Try.bits_Mul 1 n (by omega) (by omega) w
    rw [show 1 * n / 18446744073709551616 = 0 from by omega, show 1 * n % 18446744073709551616 = n from by omega] at h1
    exact h1.mono (by rintro e w' ⟨rfl, rfl⟩; exact ⟨rfl, rfl⟩)
  obtain ⟨G, hG⟩ : ∃ G, w.heap.size = G := ⟨_, rfl⟩
  have hgG : g < G := by rw [← hG]; exact blk_lt h.out
  have hmk : (Instr.makeSlice 32 (.int .i64 (n : Int)) (.int .i64 (n : Int))).run Try.prog w = .ok (.slice (some ⟨w.heap.size, 0, none⟩) n n) (w.alloc (.cells (List.replicate n (.int .u8 0)).toArray 78)) := run_make_z (bytes := 1) Try.underlying32 (by kernel_rfl) rfl w n (by omega) (by omega)
  obtain ⟨W, hW⟩ : ∃ W, w.alloc (.cells (List.replicate n (.int .u8 0)).toArray 78) = W := ⟨_, rfl⟩
  have hWG : W.heap[G]? = some (.cells (repV t n 0).toArray 78 (0, 0)) := by rw [← hW, ← hG]; simpa [repV] using heap_alloc_new w (.cells (List.replicate n (.int .u8 0)).toArray 78)
  have hbW : Below G w W := by rw [← hW, ← hG]; exact (Below.refl _ _).alloc (Nat.le_refl _) _
  have hWg := (hbW.block g hgG).trans h.out
  rw [hW, hG] at hmk
  have HG := hide hG
  have HWG := hide hWG; have HB := hide hbW; have HWg := hide hWg
  have hcell : W.cell? ⟨g, 0, none⟩ = some (.int .u8 (t.toNat : Int)) := by have := cell_blk hWg 0; simpa using this
  have HC := hide hcell
  clear hW hG hWG hbW hWg hcell
  by_cases h0 : n = 0
  · subst h0
    rw [show ((0 : Nat) : Int) = 0 from rfl] at hmk
    go_enter Try.func32, Try.ntmps32
    go_wp2_with fail
    refine (HM.out _).mono ?_; rintro e w' ⟨rfl, rfl⟩
    go_wp2_with (refine wpList_copy_splice (o := ⟨some 33, _, _, _, _, _⟩) rfl (.tmp 31) (.tmp 32) 32 32 rfl 78 Try.underlying32 (by kernel_rfl) (some ⟨G, 0, none⟩) (some ⟨g, 0, none⟩) 0 0 1 1 rfl rfl G 0 (repV t 0 0) 78 HWG.out [] rfl (by simp) (by simp) (by simp) G w HB.out (by omega) ?_; intro w2 HG2 hb2)
    have HZ : Hid (w2.ownsRow G 78 1 (.slice (some ⟨G, 0, none⟩) 0 0) 0 []) := ⟨rfl, .inr ⟨G, 0, _, rfl, Nat.le_refl _, HG2.out, Nat.le_refl _, by unfold maxLen; omega, rfl, rfl⟩⟩
    go_loopw [8] (fun i wr => i = .int .i64 0 ∧ Hid (wr.ownsRow G 78 1 (.slice (some ⟨G, 0, none⟩) 0 0) 0 []) ∧ Hid (Below G w wr)) (fun i _ => 0)
    case atStart => exact ⟨rfl, HZ, hb2⟩
    case round =>
      clear HG2 hb2 HZ
      obtain ⟨rfl, ho, hb⟩ := hrel
      go_wp2_with fail
      go_ret
      refine ⟨_, rfl, ?_, ?_⟩
      · rw [HG.out]; exact ho
      · rw [HG.out]; exact hb
  · have hn0 : 0 < n := by omega
    have HCP : Hid (∀ j v, ([.int .u8 (t.toNat : Int)] : List Value)[j]? = some v → W.cell? ((⟨g, 0, none⟩ : Addr).add j) = some v) := by
      show ∀ j v, _
      intro j v hj
      cases j with
      | zero => simp at hj; subst hj; exact HC.out
      | succ j => simp at hj
    have HN1 : Hid (1 = Nat.min 1 n) := by show 1 = min 1 n; omega
    have HS1 : Hid (splice (repV t n 0) 0 [.int .u8 (t.toNat : Int)] = repV t n 1) := repV_splice t n 0 1 (by omega)
    have HL0 := hide (repV_len t n 0 (by omega))
    have fb1 : decide ((n : Int) < 0) = false := by simp
    have fb2 : decide ((9223372036854775807 : Int) < (n : Int)) = false := by simp; omega
    go_enter Try.func32, Try.ntmps32
    go_wp2_with fail
    refine (HM.out _).mono ?_; rintro e w' ⟨rfl, rfl⟩
    go_wp2_with (refine wpList_copy_splice (o := ⟨some 33, _, _, _, _, _⟩) rfl (.tmp 31) (.tmp 32) 32 32 rfl 78 Try.underlying32 (by kernel_rfl) (some ⟨G, 0, none⟩) (some ⟨g, 0, none⟩) n n 1 1 rfl rfl G 0 (repV t n 0) 78 HWG.out [.int .u8 (t.toNat : Int)] HN1.out (fun _ => ⟨rfl, ⟨g, 0, none⟩, rfl, HCP.out⟩) (by rw [HL0.out]; simp; omega) (by simp [Value.oneCell']) G w HB.out (by omega) ?_; intro w2 HG2 hb2)
    rw [HS1.out] at HG2
    go_loopw [8] (fun i wr => ∃ k : Nat, i = .int .i64 k ∧ 1 ≤ k ∧ k ≤ n ∧ Hid (wr.heap[G]? = some (.cells (repV t n k).toArray 78 (0, 0))) ∧ Hid (Below G w wr)) (fun i _ => n - (intOf i).toNat)
    case atStart => exact ⟨1, rfl, by omega, by omega, HG2, hb2⟩
    case round =>
      clear HG2 hb2
      obtain ⟨k, rfl, hk1, hk2, hg, hb⟩ := hrel
      by_cases hlt : k < n
      · obtain ⟨m, hm⟩ : ∃ m, min k (n - k) = m := ⟨_, rfl⟩
        have hm1 : 1 ≤ m := by omega
        have hm2 : k + m ≤ n := by omega
        have hm3 : m ≤ k := by omega
        have HMN : Hid ((List.replicate m (.int .u8 (t.toNat : Int)) : List Value).length = Nat.min k (n - k)) := by show _ = min k (n - k); rw [List.length_replicate, hm]
        have HSP : Hid (splice (repV t n k) k (List.replicate m (.int .u8 (t.toNat : Int))) = repV t n (k + m)) := repV_splice t n k m hm2
        have HLK := hide (repV_len t n k hk2)
        have HSRC : Hid (∀ j v, (List.replicate m (.int .u8 (t.toNat : Int)) : List Value)[j]? = some v → wr.cell? ((⟨G, 0, none⟩ : Addr).add j) = some v) := by
          show ∀ j v, _
          intro j v hj
          have hjm : j < m := by
            apply Decidable.byContradiction
            intro hx
            rw [List.getElem?_eq_none (by simp; omega)] at hj
            cases hj
          rw [List.getElem?_replicate, if_pos hjm] at hj
          rw [show (⟨G, 0, none⟩ : Addr).add j = ⟨G, j, none⟩ from by unfold Addr.add; split <;> simp_all]
          have := cell_blk hg.out j
          rw [this]
          simp only [repV, List.getElem?_toArray]
          rw [List.getElem?_append_left (by simp; omega), List.getElem?_replicate, if_pos (by omega)]
          exact hj
        have hnk : ¬ n = k := by omega
        clear hm
        have HBD : Hid (Below G w wr.drew) := ⟨hb.out.os, hb.out.tape, hb.out.output, hb.out.size, hb.out.block⟩
        have HGD : Hid (wr.drew.heap[G]? = some (.cells (repV t n k).toArray 78 (0, 0))) := hg.out
        have HSD : Hid (∀ j v, (List.replicate m (.int .u8 (t.toNat : Int)) : List Value)[j]? = some v → wr.drew.cell? ((⟨G, 0, none⟩ : Addr).add j) = some v) := HSRC.out
        go_wp2_with fail
        go_region_law (refine step_copy_splice rfl (.tmp 41) (.tmp 44) 32 32 rfl 78 Try.underlying32 (by kernel_rfl) (some ⟨G, k, none⟩) (some ⟨G, 0, none⟩) (n - k) (n - k) k n (by simp [Act.eval, Act.put]) (by simp [Act.eval, Act.put]) G k (repV t n k) 78 HGD.out (List.replicate m (.int .u8 (t.toNat : Int))) HMN.out (fun _ => ⟨rfl, ⟨G, 0, none⟩, rfl, HSD.out⟩) (by rw [HLK.out]; simp; omega) (by simp [Value.oneCell']) G w HBD.out (by omega) ?_; intro w3 HG3 hb3)
        rw [HSP.out] at HG3
        have hs : Hid (IntKind.i64.wrap ((k : Int) + (m : Int)) = ((k + m : Nat) : Int)) := by show _ = _; rw [IntWalk.i64_in _ (by omega)]; omega
        go_simp
        rw [hs.out]
        go_roundw
        case rel => exact ⟨_, _, _, _, _, _, _, _, _, _, _, _, _, _, ⟨k + m, rfl, by omega, hm2, HG3, hb3⟩, rfl⟩
        case measure => simp [intOf] <;> omega
      · have hkn : k = n := by omega
        subst hkn
        have ho : Hid (wr.ownsRow G 78 1 (.slice (some ⟨G, 0, none⟩) k k) k (List.replicate k (.int .u8 (t.toNat : Int)))) := ⟨by simp, .inr ⟨G, k, _, rfl, Nat.le_refl _, hg.out, Nat.le_refl _, by unfold maxLen; omega, by simp [repV], by simp [repV]⟩⟩
        clear hlt
        go_wp2_with fail
        go_ret
        refine ⟨_, rfl, ?_, ?_⟩
        · rw [HG.out]; exact ho
        · rw [HG.out]; exact hb
end Go.Proofs.Ytdhmkapknaphpaa
