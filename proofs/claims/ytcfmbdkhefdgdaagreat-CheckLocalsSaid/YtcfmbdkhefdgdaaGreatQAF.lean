import Derived.Test.YtcfmbdkhefdgdaaGreatQAA
import Derived.Test.YtcfmbdkhefdgdaaGreatQAE
set_option linter.unusedVariables false
namespace Go.Proofs.YtcfmbdkhefdgdaaGreat
open Go.RowKit
def IsRow (k : IntKind) (w : World) (a : Option Addr) (len cap : Nat) (zs : List Int) : Prop :=
  (a = none ∧ len = 0 ∧ cap = 0 ∧ zs = []) ∨
  ∃ x, a = some x ∧ len ≤ cap ∧ cap ≤ maxLen ∧ zs.length = cap ∧ (∀ i, i < zs.length → w.cell? (x.add i) = some (.int k (zs.getD i 0))) ∧ ∀ n ∈ zs, (Lit.int k n).wf = true
theorem IsRow.ints {k : IntKind} {w : World} {a : Option Addr} {len cap : Nat} {zs : List Int} (h : IsRow k w a len cap zs) :
    ∃ ys : List Int, ys.length = len ∧ Reads w w.heap.size 1 a ys.length (ys.map (Value.int k)) ∧ len ≤ cap ∧ cap ≤ maxLen ∧ ∀ n ∈ ys, (Lit.int k n).wf = true := by
  rcases h with ⟨rfl, rfl, rfl, rfl⟩ | ⟨x, rfl, hl, hm, hz, hc, hw⟩
  · exact ⟨[], rfl, Reads.none_, Nat.le_refl _, by unfold maxLen; omega, by simp⟩
  · refine ⟨zs.take len, by rw [List.length_take]; omega, ⟨by simp, fun hn => ⟨x, rfl, ?_, fun j u hu => ?_⟩⟩, hl, hm, fun n hn => hw n (List.mem_of_mem_take hn)⟩
    · have h0 := hc 0 (by rw [List.length_take] at hn; omega)
      have := World.block_lt_of_cell? w _ h0
      rw [block_of_add] at this
      exact this
    · rw [List.getElem?_map, List.getElem?_take] at hu
      split at hu
      · rename_i hj
        have hjz : j < zs.length := by omega
        rw [hc j hjz]
        rw [List.getElem?_eq_getElem hjz] at hu
        rw [List.getD_eq_getElem?_getD, List.getElem?_eq_getElem hjz]
        exact hu
      · cases hu
theorem IsRow.bytes {w : World} {a : Option Addr} {len cap : Nat} {zs : List Int} (h : IsRow .u8 w a len cap zs) :
    ∃ bs : List UInt8, bs.length = len ∧ Reads w w.heap.size 1 a bs.length (bs.map B) ∧ bs.length ≤ cap ∧ cap ≤ maxLen := by
  obtain ⟨ys, hl, hr, h1, h2, h3⟩ := h.ints
  refine ⟨ys.map fun n => UInt8.ofNat n.toNat, by rw [List.length_map]; exact hl, ?_, by rw [List.length_map]; omega, h2⟩
  rw [List.length_map]
  have : (ys.map fun n => UInt8.ofNat n.toNat).map B = ys.map (Value.int .u8) := by
    rw [List.map_map]
    refine List.map_congr_left fun n hn => ?_
    have hb := h3 n hn
    have hb2 : 0 ≤ n ∧ n ≤ 255 := by simpa [Lit.wf, IntKind.min, IntKind.max, IntKind.signed, IntKind.bits] using hb
    have := B_ofNat n.toNat (by omega)
    rw [show ((n.toNat : Nat) : Int) = n from by omega] at this
    exact this.symm
  rw [this]
  exact hr
end Go.Proofs.YtcfmbdkhefdgdaaGreat
namespace Go.Proofs.YtcfmbdkhefdgdaaGreat
open Go.RowKit
def foreignL (c : Int) : Bool := opFor.any (fun x => decide (x.1 ≤ c) && decide (c ≤ x.2))
def inSpan (c : Int) (s : OpSpan) : Bool := decide (s.first ≤ c) && decide (c < s.first + s.many)
def numSpan (c : Int) : Option OpSpan := opSpans.find? (inSpan c)
def numN (s : OpSpan) (c : Int) : Nat := (s.base + c - s.first).toNat
theorem opSpans_bd : ∀ s ∈ opSpans, 0 ≤ s.first ∧ s.first ≤ 200 ∧ 0 ≤ s.many ∧ s.many ≤ 20 ∧ 0 ≤ s.base ∧ s.base ≤ 3 ∧ 0 ≤ s.group ∧ s.group ≤ 2 ∧ 0 ≤ s.bits ∧ s.bits ≤ 64 := by decide
def numV (c : Int) : Option OpSpan → Ending
  | none => .returned (.tuple #[.int .i64 0, .int .i64 0, .int .i64 0, .bool false])
  | some s => .returned (.tuple #[.int .i64 s.group, .int .i64 (numN s c : Int), .int .i64 s.bits, .bool true])
def NumericPost (c : Int) (v : Option OpSpan) (w : World) (e : Ending) (w' : World) : Prop := e = numV c v ∧ Hid (Below w.heap.size w w')
set_option maxHeartbeats 1600000 in
theorem numeric_any (c : Int) (w : World) (h1 : -9223372036854775808 ≤ c) (h2 : c ≤ 9223372036854775807) :
    Calls Tryz.prog 164 #[.int .i64 c] w (NumericPost c (numSpan c) w) := by
  obtain ⟨v, hv⟩ : ∃ v, numSpan c = v := ⟨_, rfl⟩
  rw [hv]
  obtain ⟨C, hC⟩ : ∃ C, (opSpans.flatMap OpSpan.D).toArray = C := ⟨_, rfl⟩
  have HFT := hide (fun w => spans_tab w)
  rw [hC] at HFT
  have HV : Hid ((opSpans.drop 0).find? (inSpan c) = v) := hv
  clear hv
  have HC := hide hC; clear hC
  go_enter Tryz.func164, Tryz.ntmps164
  go_wp2_with fail
  refine (HFT.out w).mono ?_; rintro e w1 ⟨rfl, hb1⟩
  go_wp2_with fail
  go_loopw [9] (fun i w2 => ∃ k : Nat, i = .int .i64 k ∧ k ≤ 8 ∧ Hid ((opSpans.drop k).find? (inSpan c) = v) ∧ Hid (Below w.heap.size w w2)) (fun i _ => 8 - (intOf i).toNat)
  case atStart => exact ⟨0, rfl, by omega, HV, hb1⟩
  case round =>
    obtain ⟨k, rfl, hk, hv, hb⟩ := hrel
    by_cases hlt : k < 8
    · obtain ⟨r, hr⟩ : ∃ r, opSpans[k]? = some r := ⟨_, List.getElem?_eq_getElem (by simpa [opSpans] using hlt)⟩
      have hix : ∀ W, (Instr.index 264 (.agg C) (.int .i64 k)).run Tryz.prog W = .ok (.agg #[.int .i64 r.first, .int .i64 r.many, .int .i64 r.group, .int .i64 r.bits, .int .i64 r.base]) W := fun W => by
        rw [← HC.out]; exact run_index_row opSpans_tab OpSpan.D (fun _ => rfl) opSpans rfl k r hr W
      have hd : opSpans.drop k = r :: opSpans.drop (k + 1) := by
        obtain ⟨a, b⟩ := List.getElem?_eq_some_iff.1 hr
        rw [List.drop_eq_getElem_cons a, b]
      obtain ⟨b1, b2, b3, b4, b5, b6, b7, b8, b9, b10⟩ := opSpans_bd r (List.mem_of_getElem? hr)
      have hv' := hv.out
      rw [hd, List.find?_cons] at hv'
      clear hd hr hv
      have hb' : Hid (Below w.heap.size w (wr.alloc (.cells #[.int .i64 r.first, .int .i64 r.many, .int .i64 r.group, .int .i64 r.bits, .int .i64 r.base] 263))) := hb.out.alloc hb.out.size _
      by_cases hin : r.first ≤ c
      · by_cases hin2 : c < r.first + r.many
        · have : v = some r := by rw [← hv']; simp [inSpan, hin, hin2]
          subst this
          have HN : Hid (r.base + c - r.first = (numN r c : Int)) := by show _ = _; unfold numN; omega
          have s1 : IntKind.i64.wrap (r.base + c) = r.base + c := IntWalk.i64_in _ (by omega)
          have s2 : IntKind.i64.wrap (r.base + c - r.first) = r.base + c - r.first := IntWalk.i64_in _ (by omega)
          clear hv'
          go_wp2_with fail
          go_quiet (fail)
          rename_i nq
          have hb'' : Hid (Below w.heap.size w ((wr.alloc (.cells #[.int .i64 r.first, .int .i64 r.many, .int .i64 r.group, .int .i64 r.bits, .int .i64 r.base] 263)).drewN nq)) := hb'.out.trans ((Only.drewN [] _ nq).below hb'.out.size (by simp))
          rw [HN.out]
          go_wp2_with fail
          exact bodyPost_ret (results_tmp4 rfl _ _ _) rfl ⟨rfl, hb''⟩
        · have f2 : decide (c < r.first + r.many) = false := by simpa using hin2
          have HV2 : Hid ((opSpans.drop (k + 1)).find? (inSpan c) = v) := by
            show _ = _; rw [show inSpan c r = false from by unfold inSpan; rw [f2, Bool.and_false]] at hv'; exact hv'
          clear hv' hin2
          go_wp2_with fail
          go_roundw
          case rel => exact ⟨k + 1, by go_num, by omega, HV2, hb'⟩
          case measure => simp [intOf] <;> omega
      · have f1 : decide (r.first ≤ c) = false := by simpa using hin
        have HV2 : Hid ((opSpans.drop (k + 1)).find? (inSpan c) = v) := by
          show _ = _; rw [show inSpan c r = false from by unfold inSpan; rw [f1, Bool.false_and]] at hv'; exact hv'
        clear hv' hin
        go_wp2_with fail
        go_roundw
        case rel => exact ⟨k + 1, by go_num, by omega, HV2, hb'⟩
        case measure => simp [intOf] <;> omega
    · have hk8 : k = 8 := by omega
      subst hk8
      have : v = none := by rw [← hv.out]; rfl
      subst this
      clear hv
      go_wp2_with fail
      exact bodyPost_ret (results_tmp4 rfl _ _ _) rfl ⟨rfl, hb⟩
end Go.Proofs.YtcfmbdkhefdgdaaGreat
