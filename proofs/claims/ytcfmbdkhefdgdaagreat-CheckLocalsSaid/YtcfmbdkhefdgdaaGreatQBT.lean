import Derived.Test.YtcfmbdkhefdgdaaGreatQAN
import Derived.Test.YtcfmbdkhefdgdaaGreatQAS
import Derived.BigQuiet
set_option linter.unusedVariables false
namespace Go.Proofs.YtcfmbdkhefdgdaaGreat
open Go.RowKit
set_option maxHeartbeats 800000 in
theorem lnamed_any (s : List UInt8) (w : World) (hl : s.length ≤ 9223372036854775807) :
    Calls Tryz.prog 22 #[.string ⟨s.toArray⟩] w fun e w' => e = .returned (.bool (nmB s)) ∧ w = w' := by
  have hsz : (⟨s.toArray⟩ : ByteArray).size = s.length := rfl
  go_enter Tryz.func22, Tryz.ntmps22
  go_wp2_with fail
  go_loop [2, 3] (fun r i => ∃ k : Nat, r = .bool false ∧ i = .int .i64 k ∧ k ≤ s.length ∧ Hid ((s.take k).all nmC = true)) (fun _ i => s.length - (intOf i).toNat)
  case atStart => exact ⟨0, rfl, rfl, by omega, by show _ = _; simp⟩
  case round =>
    obtain ⟨k, rfl, rfl, hk, hin⟩ := hrel
    by_cases hlt : k < s.length
    · obtain ⟨c, hc⟩ : ∃ c, s[k]? = some c := ⟨_, List.getElem?_eq_getElem hlt⟩
      have hat := str_at s k .i64 hc w
      have hst : s.take (k + 1) = s.take k ++ [c] := by rw [List.take_add_one, hc]; rfl
      have HST := hide hst; have HC := hide hc
      have hc255 := c.toNat_lt
      clear hst hc
      by_cases h1 : c.toNat < 33
      · have hno : Hid (nmB s = false) := by
          show _ = _
          have : s.all nmC = false := by
            rw [List.all_eq_false]
            exact ⟨c, List.mem_of_getElem? HC.out, by unfold nmC; simp; omega⟩
          rw [nmB_eq, this]; rfl
        have g1 : decide ((c.toNat : Int) < 33) = true := by simp; omega
        clear h1
        go_wp2_with fail
        go_ret
        exact ⟨by rw [hno.out]; rfl, rfl⟩
      · have g1 : decide ((c.toNat : Int) < 33) = false := by simp; omega
        by_cases h2 : 126 < c.toNat
        · have hno : Hid (nmB s = false) := by
            show _ = _
            have : s.all nmC = false := by
              rw [List.all_eq_false]
              exact ⟨c, List.mem_of_getElem? HC.out, by unfold nmC; simp; omega⟩
            rw [nmB_eq, this]; rfl
          have g2 : decide ((126 : Int) < (c.toNat : Int)) = true := by simp; omega
          clear h1 h2
          go_wp2_with fail
          go_ret
          exact ⟨by rw [hno.out]; rfl, rfl⟩
        · have g2 : decide ((126 : Int) < (c.toNat : Int)) = false := by simp; omega
          have hnx : Hid ((s.take (k + 1)).all nmC = true) := by
            show _ = _
            rw [HST.out, List.all_append, hin.out]
            simp [nmC]
            omega
          clear h1 h2
          go_wp2_with fail
          go_round
          case rel => exact ⟨k + 1, rfl, by go_num, by omega, hnx⟩
          case measure => simp [intOf] <;> omega
    · have hk2 : k = s.length := by omega
      have hall := hin.out
      rw [List.take_of_length_le (by omega)] at hall
      have hlt3 : (s.length : Int) ≤ (k : Int) := by omega
      clear hlt
      by_cases h0 : 0 < s.length
      · have hN : Hid (nmB s = decide ((s.length : Int) ≤ 30)) := by show _ = _; rw [nmB_eq, hall, decide_eq_true h0]; simp; omega
        have f1 : decide ((0 : Int) < (s.length : Int)) = true := decide_eq_true (by omega)
        clear hall
        go_wp2_with fail
        go_ret
        exact ⟨by rw [hN.out]; rfl, rfl⟩
      · have hN : Hid (nmB s = false) := by show _ = _; rw [nmB_eq, decide_eq_false h0]; simp
        have f1 : decide ((0 : Int) < (s.length : Int)) = false := decide_eq_false (by omega)
        clear hall
        go_wp2_with fail
        go_ret
        exact ⟨by rw [hN.out]; rfl, rfl⟩
set_option maxHeartbeats 800000 in
theorem ltyped_any (s : Sl UInt8) (w : World) (h : Hid (Row w 1 bD s)) :
    Calls Tryz.prog 21 #[.slice s.at_ s.l.length s.cap] w fun e w' => e = .returned (.bool (typedB s.l)) ∧ w = w' := by
  have hlen := sl_len h.out
  have HR := hide h.out.bytes
  go_enter Tryz.func21, Tryz.ntmps21
  go_wp2_with fail
  go_loop [2, 3] (fun r i => ∃ k : Nat, r = .bool false ∧ i = .int .i64 k ∧ k ≤ s.l.length ∧ Hid ((s.l.take k).all goodT8 = true)) (fun _ i => s.l.length - (intOf i).toNat)
  case atStart => exact ⟨0, rfl, rfl, by omega, by show _ = _; simp⟩
  case round =>
    obtain ⟨k, rfl, rfl, hk, hin⟩ := hrel
    by_cases hlt : k < s.l.length
    · obtain ⟨ad, c, ha, hc, hcell, hc0, hc1⟩ := HR.out.byte (k := k) hlt
      have hst : s.l.take (k + 1) = s.l.take k ++ [c] := by rw [List.take_add_one, hc.out]; rfl
      have HST := hide hst
      rw [ha]
      clear hst ha
      by_cases h6 : c.toNat = 126
      · have g1 : ((c.toNat : Int) != 126) = false := by simp; omega
        have hnx : Hid ((s.l.take (k + 1)).all goodT8 = true) := by
          show _ = _
          rw [HST.out, List.all_append, hin.out]
          have : c = 126 := by rw [← UInt8.toNat_inj]; exact h6
          simp [goodT8, this]
        clear h6
        go_wp2_with fail
        go_round
        case rel => exact ⟨k + 1, rfl, by go_num, by omega, hnx⟩
        case measure => simp [intOf] <;> omega
      · have g1 : ((c.toNat : Int) != 126) = true := by simp; omega
        by_cases h7 : c.toNat = 127
        · have g2 : ((c.toNat : Int) != 127) = false := by simp; omega
          have hnx : Hid ((s.l.take (k + 1)).all goodT8 = true) := by
            show _ = _
            rw [HST.out, List.all_append, hin.out]
            have : c = 127 := by rw [← UInt8.toNat_inj]; exact h7
            simp [goodT8, this]
          clear h6 h7
          go_wp2_with fail
          go_round
          case rel => exact ⟨k + 1, rfl, by go_num, by omega, hnx⟩
          case measure => simp [intOf] <;> omega
        · have g2 : ((c.toNat : Int) != 127) = true := by simp; omega
          have hno : Hid (typedB s.l = false) := by
            show _ = _
            have : s.l.all goodT8 = false := by
              rw [List.all_eq_false]
              refine ⟨c, List.mem_of_getElem? hc.out, ?_⟩
              have e6 : ¬ c = 126 := fun e => h6 (by rw [e]; rfl)
              have e7 : ¬ c = 127 := fun e => h7 (by rw [e]; rfl)
              simp [goodT8, e6, e7]
            unfold typedB
            rw [this, Bool.and_false]
          clear h6 h7
          go_wp2_with fail
          go_ret
          exact ⟨by rw [hno.out]; rfl, rfl⟩
    · have hall := hin.out
      rw [List.take_of_length_le (by omega)] at hall
      have hN : Hid (typedB s.l = decide ((s.l.length : Int) ≤ 20)) := by
        show _ = _
        unfold typedB
        rw [hall, Bool.and_true]
        exact decide_eq_decide.2 (by omega)
      have hlt3 : (s.l.length : Int) ≤ (k : Int) := by omega
      clear hlt hall
      go_wp2_with fail
      go_ret
      exact ⟨by rw [hN.out]; rfl, rfl⟩
theorem lin_any (n : Int) (many : Nat) (w : World) :
    Calls Tryz.prog 23 #[.int .i64 n, .int .i64 (many : Int)] w fun e w' => e = .returned (.bool (inB n many)) ∧ w = w' := by
  by_cases h0 : 0 ≤ n
  · have g1 : decide ((0 : Int) ≤ n) = true := decide_eq_true h0
    have hN : Hid (inB n many = decide (n < (many : Int))) := by show _ = _; unfold inB; rw [g1, Bool.true_and]
    go_enter Tryz.func23, Tryz.ntmps23
    go_wp2_with fail
    go_ret
    exact ⟨by rw [hN.out]; rfl, rfl⟩
  · have g1 : decide ((0 : Int) ≤ n) = false := decide_eq_false h0
    have hN : Hid (inB n many = false) := by show _ = _; unfold inB; rw [g1, Bool.false_and]
    have h1 : n < 0 := by omega
    clear h0
    go_enter Tryz.func23, Tryz.ntmps23
    go_wp2_with fail
    go_ret
    exact ⟨by rw [hN.out]; rfl, rfl⟩
set_option maxRecDepth 100000 in
set_option maxHeartbeats 1600000 in
theorem lsig_any (m : MoL) (f : Nat) (s : SgL) (w : World) (h : Hid (MoIn w m)) (hl : m.imps.l.length + m.funcs.l.length ≤ 100000) (hz : m.sigs.l.length ≤ 100000) (hs : sigL m (f : Int) = some s) :
    Calls Tryz.prog 24 #[.agg m.cs.toArray, .int .i64 (f : Int)] w fun e w' => e = .returned (.agg #[.slice s.p.at_ s.p.l.length s.p.cap, .slice s.r.at_ s.r.l.length s.r.cap]) ∧ Hid (Below w.heap.size w w') := by
  obtain ⟨W1, hW1, hb1, hx1, hs1⟩ := box_new w m.cs.toArray 31
  obtain ⟨W, hW, hb2, hx2, hs2⟩ := box_new W1 #[.slice none 0 0, .slice none 0 0] 81
  obtain ⟨xg, hxg⟩ : ∃ xg, w.heap.size = xg := ⟨_, rfl⟩
  rw [hxg] at hx1 hs1
  rw [hs1] at hx2 hs2
  have hb : Below w.heap.size w W := hb1.trans (hb2.mono hb1.size)
  have hx1W := (hb2.block xg (by omega)).trans hx1
  have c0 : W.cell? ⟨xg, 0, none⟩ = some (.slice m.sigs.at_ m.sigs.l.length m.sigs.cap) := cell_blk hx1W 0
  have c1 : W.cell? ⟨xg, 1, none⟩ = some (.slice m.imps.at_ m.imps.l.length m.imps.cap) := cell_blk hx1W 1
  have c2 : W.cell? ⟨xg, 2, none⟩ = some (.slice m.funcs.at_ m.funcs.l.length m.funcs.cap) := cell_blk hx1W 2
  have r0 : W.cell? ⟨xg + 1, 0, none⟩ = some (.slice none 0 0) := cell_blk hx2 0
  have r1 : W.cell? ⟨xg + 1, 1, none⟩ = some (.slice none 0 0) := cell_blk hx2 1
  have z0 := frozen_blk hx2 0
  have z1 := frozen_blk hx2 1
  obtain ⟨WE, hWE, hOE, hBE⟩ := set_two_only hx2 (.slice s.p.at_ s.p.l.length s.p.cap) (.slice s.r.at_ s.r.l.length s.r.cap)
  have hM := h.out.below hb
  have hfin : Below w.heap.size w WE := hb.trans (hOE.below (by omega) (by simp; omega))
  unfold sigL mnumL at hs
  have HW1 := hide hW1; have HW := hide hW; have HXG := hide hxg; have HS1 := hide hs1; have HWE := hide hWE; have HBE := hide hBE; have HFIN := hide hfin
  have t0 : WE.cell? ⟨xg + 1, 0, none⟩ = some (.slice s.p.at_ s.p.l.length s.p.cap) := cell_blk hBE 0
  have t1 : WE.cell? ⟨xg + 1, 1, none⟩ = some (.slice s.r.at_ s.r.l.length s.r.cap) := cell_blk hBE 1
  split at hs
  · rename_i hff
    have hff2 : f < m.imps.l.length + m.funcs.l.length := by omega
    simp only [Option.bind_some, Int.toNat_natCast] at hs
    split at hs
    · rename_i hin
      obtain ⟨n1, n2⟩ := inB_iff.1 hin
      obtain ⟨n, hn⟩ : ∃ n : Nat, sigN m.g f = (n : Int) := ⟨(sigN m.g f).toNat, by omega⟩
      rw [hn] at hs n2
      simp only [Int.toNat_natCast] at hs
      have n3 : (n : Int) < (m.sigs.l.length : Int) := n2
      have n4 : n ≤ 100000 := by omega
      obtain ⟨ads, has, _, k0, kj⟩ := hM.sigs.at_ (fun _ => rfl) hs
      have q0 : W.cell? (ads.add (n * 2)) = some (.slice s.p.at_ s.p.l.length s.p.cap) := k0 _ rfl (by omega)
      have q1 : W.cell? ⟨(ads.add (n * 2)).block, (ads.add (n * 2)).off + 1, none⟩ = some (.slice s.r.at_ s.r.l.length s.r.cap) := kj 1 (by omega) (by omega) _ rfl
      rw [has] at c0
      unfold sigN at hn
      unfold MoL.cs Sl.val at HW1 ⊢
      rw [show m.g.imps = m.imps.l from rfl] at hn
      have HAS := hide has
      clear hW1 hW hb1 hb2 hb hx1 hx2 hs1 hs2 hx1W hWE hOE hBE hfin k0 kj hs hin n1 n2 has hff
      by_cases hlt : f < m.imps.l.length
      · rw [if_pos hlt] at hn
        obtain ⟨y, hy⟩ : ∃ y, m.imps.l[f]? = some y := ⟨_, List.getElem?_eq_getElem hlt⟩
        rw [getD_some hy] at hn
        obtain ⟨adi, hai, _, _, kj⟩ := hM.imps.at_ (fun _ => rfl) hy
        have u2 : W.cell? ⟨(adi.add (f * 3)).block, (adi.add (f * 3)).off + 2, none⟩ = some (.int .i64 y.sig) := kj 2 (by omega) (by omega) _ rfl
        rw [hn] at u2
        rw [hai] at c1
        have hlt3 : (f : Int) < (m.imps.l.length : Int) := by omega
        clear hlt hy hai kj hn hM
        go_enter Tryz.func24, Tryz.ntmps24
        go_upto_region 1 with fail
        rw [HW1.out]
        try rw [HXG.out]
        rw [HW.out]
        go_upto_region 2 with fail
        go_region
        go_wp2_with fail
        rw [HWE.out]
        clear c0 c1 c2 r0 r1 z0 z1 q0 q1 u2
        refine bodyPost_ret (v := .agg #[.slice s.p.at_ s.p.l.length s.p.cap, .slice s.r.at_ s.r.l.length s.r.cap]) (by simp [results, Tryz.results24, go_sem, t0, t1]) rfl ?_
        exact ⟨rfl, below_dr HFIN.out 1⟩
      · rw [if_neg hlt] at hn
        obtain ⟨fj, hfj⟩ : ∃ fj, f - m.imps.l.length = fj := ⟨_, rfl⟩
        have hle : m.imps.l.length ≤ f := by omega
        have s1 : (f : Int) - (m.imps.l.length : Int) = (fj : Int) := by omega
        have s2 : fj < m.funcs.l.length := by omega
        obtain ⟨y, hy⟩ : ∃ y, m.funcs.l[fj]? = some y := ⟨_, List.getElem?_eq_getElem s2⟩
        rw [hfj, show m.g.funcs.getD fj noFu = y.g from getD_some (by simp [MoL.g, hy])] at hn
        have hn2 : y.sig = (n : Int) := hn
        obtain ⟨adi, hai, _, k0, _⟩ := hM.funcs.at_ (fun _ => rfl) hy
        have u2 : W.cell? (adi.add (fj * 3)) = some (.int .i64 y.sig) := k0 _ rfl (by omega)
        rw [hn2] at u2
        rw [hai] at c2
        have hlt3 : (m.imps.l.length : Int) ≤ (f : Int) := by omega
        have hlt4 : (fj : Int) < (m.funcs.l.length : Int) := by omega
        have hf5 : f ≤ 100000 := by omega
        have hi5 : m.imps.l.length ≤ 100000 := by omega
        clear hlt hy hai k0 hn hn2 hM hfj hle
        go_enter Tryz.func24, Tryz.ntmps24
        go_upto_region 1 with fail
        rw [HW1.out]
        try rw [HXG.out]
        rw [HW.out]
        go_upto_region 3 with fail
        go_region
        go_wp2_with fail
        rw [HWE.out]
        clear c0 c1 c2 r0 r1 z0 z1 q0 q1 u2
        refine bodyPost_ret (v := .agg #[.slice s.p.at_ s.p.l.length s.p.cap, .slice s.r.at_ s.r.l.length s.r.cap]) (by simp [results, Tryz.results24, go_sem, t0, t1]) rfl ?_
        exact ⟨rfl, below_dr HFIN.out 1⟩
    · cases hs
  · cases hs
end Go.Proofs.YtcfmbdkhefdgdaaGreat
