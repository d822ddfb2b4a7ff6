/-
  CodeReads: the law's walk.
-/
import Derived.Test.YtdhmkapknaphpaaRRead
import Derived.Test.YtdhmkapknaphpaaLawRead
namespace Go.Proofs.Ytdhmkapknaphpaa
open Go.RowKit
set_option linter.unusedVariables false

theorem insL_err (bs : List UInt8) : ∀ (f at_ : Nat) (s : NS) (xs : List DI), (insL bs f at_ s xs).1 ≠ 0 → (insL bs f at_ s xs).2.2 = [] := by
  intro f
  induction f with
  | zero => intro at_ s xs _; rfl
  | succ f ih =>
    intro at_ s xs h
    rw [insL] at h ⊢
    split at h
    · split at h
      · exact absurd rfl h
      · rename_i h1 h2; rw [if_pos h1, if_neg h2]
    · rename_i h1
      rw [if_neg h1]
      split at h
      · rename_i h2; rw [if_pos h2]
      · rename_i h2
        rw [if_neg h2]
        split at h
        · rename_i h3; rw [if_pos h3]
        · rename_i h3
          rw [if_neg h3]
          split at h
          · rename_i h4; rw [if_pos h4]
          · rename_i h4
            rw [if_neg h4]
            exact ih _ _ _ h
theorem readR_err (bs : List UInt8) (h : (readR bs).1 ≠ 0) : (readR bs).2.2.1 = [] ∧ (readR bs).2.2.2 = [] := by
  unfold readR at h ⊢
  simp only at h ⊢
  split at h
  · rename_i h1; rw [if_pos h1]; exact ⟨rfl, rfl⟩
  · rename_i h1
    rw [if_neg h1]
    split at h
    · rename_i h2; rw [if_pos h2]; exact ⟨rfl, rfl⟩
    · rename_i h2
      rw [if_neg h2]
      split at h
      · rename_i h3; rw [if_pos h3]; exact ⟨rfl, rfl⟩
      · exact absurd rfl h

theorem run_loadB {w : World} {b : Nat} {u v : Value} (h0 : w.cell? ⟨b, 0, none⟩ = some u) (h1 : w.cell? ⟨b, 1, none⟩ = some v) : (Instr.loadAt 34 (.pointer (some ⟨b, 0, none⟩))).run Try.prog w = .ok (.agg #[u, v]) w := by
  go_simp
theorem run_loadRB {w : World} {b : Nat} {u v : Value} (h0 : w.cell? ⟨b, 0, none⟩ = some u) (h1 : w.cell? ⟨b, 1, none⟩ = some v) : (Instr.loadAt 44 (.pointer (some ⟨b, 0, none⟩))).run Try.prog w = .ok (.agg #[u, v]) w := by
  go_simp

set_option maxRecDepth 100000 in
set_option maxHeartbeats 3200000 in
theorem CodeReads_walk (A : Option Addr) (cap : Nat) (bs : List UInt8) (w : World) (hr : Reads w w.heap.size 1 A bs.length (bs.map B)) (hc : bs.length ≤ cap) (hm : cap ≤ maxLen) :
    Calls Try.prog 4 #[.slice A bs.length cap] w fun e w' => e = .returned (.bool true) ∧ Below w.heap.size w w' := by
  have HR := hide hr; have HM := hide hm
  have HAW := hide awakeN
  clear hr hm
  by_cases hbig : 300 < bs.length
  · have fb : decide ((300 : Int) < (bs.length : Int)) = true := by simp; omega
    clear hbig
    go_enter Try.func4, Try.ntmps4
    go_wp2_with fail
    refine (HAW.out w).mono ?_; rintro e w1 ⟨rfl, hb1⟩
    go_wp2_with fail
    go_ret
    exact ⟨rfl, hb1⟩
  · have fb : decide ((300 : Int) < (bs.length : Int)) = false := by simp; omega
    have hlen : bs.length ≤ 300 := by omega
    have herr := readR_err bs
    obtain ⟨res, hres⟩ : ∃ res, readR bs = res := ⟨_, rfl⟩
    rw [hres] at herr
    have HRES := hide hres; have HERR := hide herr
    obtain ⟨rE, rP, rL, rI⟩ := res
    simp only at HERR
    clear hbig hres herr
    go_enter Try.func4, Try.ntmps4
    go_wp2_with fail
    refine (HAW.out w).mono ?_; rintro e w1 ⟨rfl, hb1'⟩
    have hb1 := hide hb1'
    clear hb1'
    have HRD := hide (cread_any A cap w.heap.size bs w1 (hide (HR.out.below hb1.out)) hb1.out.size (by omega))
    rw [HRES.out] at HRD
    go_wp2_with fail
    refine HRD.out.mono ?_; rintro e w2 ⟨lv, iv, vs, vo, ys, rfl, k1, k2, k3, k4, k5, k6, k7⟩
    simp only at k2 k4 k7
    obtain ⟨Lv, cv, rfl, _, _⟩ := own_form k2.out
    obtain ⟨Iv, civ, rfl, _, _⟩ := own_form k3.out.row
    obtain ⟨W2, hW2⟩ : ∃ W2, w2.alloc (.cells #[.slice Lv rL.length cv, .slice Iv ys.length civ] 34) = W2 := ⟨_, rfl⟩
    obtain ⟨g1, hg1⟩ : ∃ g1, w2.heap.size = g1 := ⟨_, rfl⟩
    have hx1 : Hid (W2.heap[g1]? = some (.cells #[.slice Lv rL.length cv, .slice Iv ys.length civ] 34 (0, 0))) := by show _ = _; rw [← hW2, ← hg1]; exact heap_alloc_new w2 _
    have hbW2 : Below w2.heap.size w2 W2 := by rw [← hW2]; exact (Below.refl _ _).alloc (Nat.le_refl _) _
    have hb2 : Hid (Below w1.heap.size w1 W2) := k1.out.trans (hbW2.mono k1.out.size)
    have hb02 : Hid (Below w.heap.size w W2) := hb1.out.trans (hb2.out.mono hb1.out.size)
    have hl2 := hide (own_only3 (S := []) k2.out (Only.of_below hbW2) (by simp))
    have hi2 := hide (k3.out.keep (S := []) (Only.of_below hbW2) (by simp))
    have HRR := hide (refRead_any2 A cap w.heap.size bs W2 (hide ⟨HR.out.below hb02.out, hc⟩) hb02.out.size (by omega) HM.out)
    rw [HRES.out] at HRR
    have HW2 := hide hW2; have HG1 := hide hg1
    clear hW2 hg1 hbW2 k2 k3
    go_upto_region 4 with fail
    rw [HW2.out, HG1.out]
    go_wp2_with fail
    refine HRR.out.mono ?_; rintro e w3 ⟨lv3, iv3, vs3, vo3, zs, rfl, m1, m2, m3, m4, m5, m6, m7⟩
    simp only at m2 m4 m7
    obtain ⟨L3, c3, rfl, _, _⟩ := own_form m2.out
    obtain ⟨I3, ci3, rfl, _, _⟩ := own_form m3.out.row
    obtain ⟨W3, hW3⟩ : ∃ W3, w3.alloc (.cells #[.slice L3 rL.length c3, .slice I3 zs.length ci3] 44) = W3 := ⟨_, rfl⟩
    obtain ⟨g2, hg2⟩ : ∃ g2, w3.heap.size = g2 := ⟨_, rfl⟩
    have hx2 : Hid (W3.heap[g2]? = some (.cells #[.slice L3 rL.length c3, .slice I3 zs.length ci3] 44 (0, 0))) := by show _ = _; rw [← hW3, ← hg2]; exact heap_alloc_new w3 _
    have hbW3 : Below w3.heap.size w3 W3 := by rw [← hW3]; exact (Below.refl _ _).alloc (Nat.le_refl _) _
    have hb3 : Hid (Below W2.heap.size W2 W3) := m1.out.trans (hbW3.mono m1.out.size)
    have hb03 : Hid (Below w.heap.size w W3) := hb02.out.trans (hb3.out.mono hb02.out.size)
    have hx13 := hide ((hb3.out.block g1 (blk_lt hx1.out)).trans hx1.out)
    have hl3 := hide (own_only3 (S := []) hl2.out (Only.of_below hb3.out) (by simp))
    have hi3 := hide (hi2.out.keep (S := []) (Only.of_below hb3.out) (by simp))
    have hl4 := hide (own_only3 (S := []) m2.out (Only.of_below hbW3) (by simp))
    have hi4 := hide (m3.out.keep (S := []) (Only.of_below hbW3) (by simp))
    have HW3 := hide hW3; have HG2 := hide hg2
    clear hW3 hg2 hbW3 m2 m3
    go_upto_region 5 with fail
    rw [HW3.out, HG2.out]
    have hzy : zs.length = ys.length := by
      have h1 := congrArg List.length (k4.out.trans m4.out.symm)
      rw [dis_len, dis_len] at h1
      exact h1.symm
    rw [hzy] at hx2
    have HZY := hide hzy
    have hdz := hide (k4.out.trans m4.out.symm)
    clear hzy HRD HRR HAW
    by_cases hz : rE = 0
    · subst hz
      go_upto_region 9 with fail
      have is3 := hide (hi3.out.is rfl)
      have is4 := hide (hi4.out.is (n := zs.length) rfl)
      have rd3 := hide (Reads.of_own hl3.out)
      have rd4 := hide (Reads.of_own hl4.out)
      refine wp_region_factsR grew_ext (factsOf [fun v _ => v = .agg #[.slice Lv rL.length cv, .slice Iv ys.length civ],
        fun v _ => v = .agg #[.slice L3 rL.length c3, .slice I3 ys.length ci3],
        fun v W => ∃ A2 A3 c2 c4 us, v = .agg #[.slice A2 rL.length c2, .slice A3 ys.length c4] ∧ Hid (Reads W W.heap.size 1 A2 rL.length (rL.map B)) ∧ Hid (IS W A3 us) ∧ Hid (dis us = dis zs) ∧ Hid (us.length = ys.length),
        fun v _ => v = .bool true,
        fun v _ => v = .bool true]) (by kernel_rfl) (by kernel_rfl) ?_ ?_
      · refine ⟨?_, ?_, ?_, ?_, ?_, trivial⟩
        · refine ⟨fun ρ W hk => ?_⟩
          have o3 : ρ (.tmp 3) = .pointer (some ⟨g1, 0, none⟩) := hk.old 3 (by decide)
          have hb := (hk.below.block g1 (blk_lt hx13.out)).trans hx13.out
          exact OpOut.load (x := .tmp 3) rfl o3 (run_loadB (by rw [cell_blk hb 0]; rfl) (by rw [cell_blk hb 1]; rfl)) ⟨Below.refl _ _, rfl⟩
        · refine ⟨fun ρ W hk => ?_⟩
          have o6 : ρ (.tmp 6) = .pointer (some ⟨g2, 0, none⟩) := hk.old 6 (by decide)
          have hb := (hk.below.block g2 (blk_lt hx2.out)).trans hx2.out
          exact OpOut.load (x := .tmp 6) rfl o6 (run_loadRB (by rw [cell_blk hb 0]; rfl) (by rw [cell_blk hb 1]; rfl)) ⟨Below.refl _ _, rfl⟩
        · refine ⟨fun ρ W hk => ?_⟩
          have h1 := (hk.fact 1 50 (by decide) rfl).pure
          refine OpOut.fn (args := #[.agg #[.slice L3 rL.length c3, .slice I3 ys.length ci3]]) rfl (hk.func _) (by simp [h1]) Try.func11 (by kernel_rfl) rfl ?_
          refine (bodyTo_any L3 I3 c3 ci3 rL.length ys.length rL zs W (hide ((rd4.out.below hk.below).more hk.below.size)) rfl m7 (hide (is4.out.below hk.below)) HZY.out k5 m6).mono ?_; rintro e w5 ⟨A2, A3, c2, c4, us, rfl, s1, s2, s3, s4, s5⟩
          exact ⟨_, rfl, s5.out, ⟨A2, A3, c2, c4, us, rfl, s1, s2, s3, s4⟩⟩
        · refine ⟨fun ρ W hk => ?_⟩
          have h0 := (hk.fact 0 49 (by decide) rfl).pure
          obtain ⟨w2', hw2, A2, A3, c2, c4, us, h2, s1, s2, s3, s4⟩ := hk.fact 2 51 (by decide) rfl
          refine OpOut.fn (args := #[.agg #[.slice Lv rL.length cv, .slice Iv ys.length civ], .agg #[.slice A2 rL.length c2, .slice A3 ys.length c4]]) rfl (hk.func _) (by simp [h0, h2]) Try.func10 (by kernel_rfl) rfl ?_
          refine (csame_any Iv A3 Lv A2 civ c4 cv c2 ys.length rL.length rL ys us W (hide ((rd3.out.below hk.below).more hk.below.size)) (hide ((s1.out.below hw2).more hw2.size)) rfl k7 (hide (is3.out.below hk.below)) (hide (s2.out.below hw2)) (hide (hdz.out.trans s3.out.symm)) rfl s4.out k6 k5).mono ?_; rintro e w5 ⟨rfl, hb5⟩
          exact ⟨_, rfl, hb5.out, rfl⟩
        · refine ⟨fun ρ W hk => ?_⟩
          have h3 := (hk.fact 3 52 (by decide) rfl).pure
          exact OpOut.assign (.tmp 52) rfl ⟨Below.refl _ _, h3⟩
      · intro vs W hb hf
        have h4 := (hf 4 (by decide)).pure
        clear hf
        simp only [fillL]
        go_frame
        rw [h4]
        have HF := hide (hb03.out.trans (hb.mono hb03.out.size))
        clear hb
        go_wp2_with fail
        go_ret
        exact ⟨rfl, HF.out⟩
    · obtain ⟨h1, h2⟩ := HERR.out hz
      subst h1
      have hy0 : ys = [] := by
        have h3 := congrArg List.length (k4.out.trans h2)
        rw [dis_len] at h3
        exact List.eq_nil_of_length_eq_zero h3
      subst hy0
      have fz : ((rE : Int) != 0) = true := by simp; omega
      have p0 := cell_blk hx13.out 0
      have p1 := cell_blk hx13.out 1
      simp at p0 p1
      clear hz h2
      go_wp2_with fail
      go_ret
      exact ⟨rfl, hb03.out⟩
end Go.Proofs.Ytdhmkapknaphpaa
