/-
  The document's instructions: Decode: contract.
-/
import Derived.Test.YtpanlhbdphobdaaGreatDoorDeBT
namespace Go.Proofs.YtpanlhbdphobdaaGreatDoor
open Go.RowKit
set_option linter.unusedVariables false

/-- the step behind the code's bytes -/
structure D0 (w0 w : World) (b at0 : Nat) (l : List UInt8) (v6 v7 : Value) : Prop where
  out : ∃ code at_, v6 = .pointer (some ⟨b + 2, 0, none⟩) ∧ v7 = .pointer (some ⟨b + 3, 0, none⟩) ∧ Hid (DS w0 w b code 0 0 0 none 0 [] at_ 0) ∧ Hid (codeL0 l = (code, at_ - at0, 0)) ∧ at0 ≤ at_ ∧ at_ ≤ at0 + l.length ∧ code ≤ 200000

set_option maxRecDepth 100000 in
set_option maxHeartbeats 6400000 in
theorem refDecode_any (A : Option Addr) (c Bk : Nat) (bs : List UInt8) (at0 : Nat) (w : World) (hb : Hid (BY w A c Bk bs)) (hB : Bk ≤ w.heap.size) (hl : bs.length ≤ 400) (hat : at0 < bs.length) (hcm : c ≤ maxLen) :
    Calls Tryz.prog 28 #[.slice A bs.length c, .int .i64 (at0 : Int)] w (RDec w at0 (decodeR (bs.drop at0))) := by
  obtain ⟨ad, b0, rfl, hb0, hcell0, hb1, hb2⟩ := hb.out.row.byte hat
  have hb00 := hb0.out
  obtain ⟨l, hll⟩ : ∃ l, bs.drop at0 = l := ⟨_, rfl⟩
  rw [hll]
  have hlen : l.length = bs.length - at0 := by rw [← hll]; simp
  have hlc : l = b0 :: bs.drop (at0 + 1) := by
    obtain ⟨h1, h2⟩ := List.getElem?_eq_some_iff.1 hb00
    rw [← hll, List.drop_eq_getElem_cons h1, h2]
  obtain ⟨b, hbb⟩ : ∃ b, w.heap.size = b := ⟨_, rfl⟩
  obtain ⟨at1, hat1⟩ : ∃ at1, at0 + 1 = at1 := ⟨_, rfl⟩
  have hds := DS.start w b0.toNat at1
  rw [hbb] at hds
  have HL := hide hll; have HLC := hide hlc; have HBB := hide hbb
  clear hll hlc hbb hb00
  have hlt0 := b0.toNat_lt
  obtain ⟨n0, hn0⟩ : ∃ n0, b0.toNat = n0 := ⟨_, rfl⟩
  rw [hn0] at hcell0 hb1 hb2 hlt0 hds
  have HN0 := hide hn0; clear hn0
  have hrow : Hid (∀ W : World, Below Bk w W → W.cell? (ad.add at0) = some (.int .u8 (n0 : Int))) := fun W h => by
    obtain ⟨ad', b', he, hb', hc', _, _⟩ := (hb.out.row.below h).byte hat
    injection he with he
    subst he
    have : b' = b0 := by have h1 := hb'.out; have h2 := hb0.out; rw [h1] at h2; injection h2
    subst this
    rw [hc', HN0.out]
  generalize hW : (((w.alloc (.cells #[.int .i64 0, .int .u64 0, .int .u64 0, .int .i64 0, .slice none 0 0] 25)).alloc (.cells #[.int .i64 0, .int .i64 0] 55)).alloc (.cells #[.int .i64 (n0 : Int), .int .u64 0, .int .u64 0, .int .i64 0, .slice none 0 0] 25)).alloc (.cells #[.int .i64 (at1 : Int), .int .i64 0] 55) = W at hds
  have HW := hide hW; clear hW
  have H1 : Hid ((at0 : Int) + 1 = (at1 : Int)) := by show _ = _; omega
  have HAT1 := hide hat1
  have hat1' : at0 + 1 ≤ at1 := by omega
  have hat1'' : at1 ≤ at0 + 1 := by omega
  clear hat1
  have HDS := hide hds; clear hds
  have hcW := hrow.out W (HDS.out.bel.mono (by rw [← HBB.out]; exact hB))
  have hc2 := hrow.out ((w.alloc (.cells #[.int .i64 0, .int .u64 0, .int .u64 0, .int .i64 0, .slice none 0 0] 25)).alloc (.cells #[.int .i64 0, .int .i64 0] 55)) (((Below.refl _ _).alloc hB _).alloc (by simp; omega) _)
  go_enter Tryz.func28, Tryz.ntmps28
  go_upto_region 6 with fail
  rw [H1.out, HW.out, HBB.out, show b + 1 + 1 + 1 = b + 3 from by omega, show b + 1 + 1 = b + 2 from by omega]
  clear hc2 hcell0
  have x0 := cell_blk HDS.out.h6 0
  have x1 := cell_blk HDS.out.h6 1
  have x2 := cell_blk HDS.out.h6 2
  have x3 := cell_blk HDS.out.h6 3
  have x4 := cell_blk HDS.out.h6 4
  simp at x0 x1 x2 x3 x4
  have zx0 := frozen_blk HDS.out.h6 0
  have zx1 := frozen_blk HDS.out.h6 1
  have zx2 := frozen_blk HDS.out.h6 2
  have zx3 := frozen_blk HDS.out.h6 3
  have zx4 := frozen_blk HDS.out.h6 4
  have y0 := cell_blk HDS.out.h7 0
  have y1 := cell_blk HDS.out.h7 1
  simp at y0 y1
  have zy0 := frozen_blk HDS.out.h7 0
  have zy1 := frozen_blk HDS.out.h7 1
  go_upto_if 36 with fail
  go_cut [8] (fun x8 wx => ∃ code at_ : Nat, Hid (DS w wx b code 0 0 0 none 0 [] at_ 0) ∧ Hid (codeL0 l = (code, at_ - at0, 0)) ∧ at0 + 1 ≤ at_ ∧ at_ ≤ bs.length ∧ code ≤ 200000)
  case first =>
    by_cases h252 : n0 = 252
    · subst h252
      obtain ⟨q0, at2, q2, hr⟩ : ∃ q0 at2 q2, refNumR bs at1 0 32 = (q0, at2, q2) := ⟨_, _, _, rfl⟩
      have hrl := refNumR_le bs at1 0 32 (by omega)
      have hq64 := unsignedL_lt (bs.drop at1) 32
      have hr' := hr
      unfold refNumR at hr'
      rw [if_neg (fun x => x rfl)] at hr'
      simp only [Prod.mk.injEq] at hr'
      obtain ⟨ha, hb', hc'⟩ := hr'
      rw [ha] at hq64
      have hcl : codeL0 l = (64512 + min q0 65535, 1 + (at2 - at1), q2) := by
        rw [HLC.out]; unfold codeL0; simp only; rw [HN0.out, if_pos rfl, HAT1.out, ha, hc', show (unsignedL (bs.drop at1) 32).2.1 = at2 - at1 from by omega]
      rw [hr] at hrl
      simp only at hrl
      obtain ⟨hat12, hat2n⟩ := hrl
      have HNU := hide (refNumber_any (some ad) c Bk bs at1 0 32 W (hide (hb.out.below (HDS.out.bel.mono (by rw [← HBB.out]; exact hB)))) (by have := HDS.out.size; have := HBB.out; omega) hl (by omega) hcm _ hr)
      have HCL := hide hcl
      clear hr ha hb' hc' hcl
      go_wp2_with fail
      refine HNU.out.mono ?_; rintro e w2 ⟨rfl, hb2'⟩
      have HD2 := hide (HDS.out.below hb2'.out)
      clear x0 x1 x2 x3 x4 zx0 zx1 zx2 zx3 zx4 y0 y1 zy0 zy1
      have y0 := cell_blk HD2.out.h7 0
      have y1 := cell_blk HD2.out.h7 1
      simp at y0 y1
      have zy0 := frozen_blk HD2.out.h7 0
      have zy1 := frozen_blk HD2.out.h7 1
      have HD3 := hide (HD2.out.put7 at2 q2)
      generalize hw3 : (w2.setCell ⟨b + 3, 0, none⟩ (.int .i64 (at2 : Int))).setCell ⟨b + 3, 1, none⟩ (.int .i64 (q2 : Int)) = w3 at HD3
      have HW3 := hide hw3; clear hw3
      go_upto_region 8 with fail
      rw [HW3.out]
      clear y0 y1 zy0 zy1
      have x0 := cell_blk HD3.out.h6 0
      have x1 := cell_blk HD3.out.h6 1
      have x2 := cell_blk HD3.out.h6 2
      have x3 := cell_blk HD3.out.h6 3
      have x4 := cell_blk HD3.out.h6 4
      simp at x0 x1 x2 x3 x4
      have zx0 := frozen_blk HD3.out.h6 0
      have zx1 := frozen_blk HD3.out.h6 1
      have zx2 := frozen_blk HD3.out.h6 2
      have zx3 := frozen_blk HD3.out.h6 3
      have zx4 := frozen_blk HD3.out.h6 4
      have y0 := cell_blk HD3.out.h7 0
      have y1 := cell_blk HD3.out.h7 1
      simp at y0 y1
      have zy0 := frozen_blk HD3.out.h7 0
      have zy1 := frozen_blk HD3.out.h7 1
      by_cases hz : q2 = 0
      · subst hz
        obtain ⟨m, hm⟩ : ∃ m, min q0 65535 = m := ⟨_, rfl⟩
        have hm' : min (q0 : Int) 65535 = (m : Int) := by omega
        have hmb : m ≤ 65535 := by omega
        have hx := hide (HD3.out.put6.1 (64512 + m))
        have HM := hide hm; clear hm
        go_wp2_with fail
        go_meet
        exact ⟨64512 + m, at2, (by first | exact hx | simpa using hx | exact hide (by simpa using hx.out)), by show _ = _; rw [HCL.out, HM.out, show 1 + (at2 - at1) = at2 - at0 from by omega], by omega, hat2n, by omega⟩
      · have fz : ((q2 : Int) == 0) = false := by simp; omega
        have fz1 : ((q2 : Int) != 0) = true := by simp; omega
        have HZ := hide hz; clear hz
        clear x0 x1 x2 x3 x4 zx0 zx1 zx2 zx3 zx4 y0 y1 zy0 zy1
        obtain ⟨WE, hWE, hOE, hE4, hE5⟩ := HD3.out.err (.int .i64 0) (.int .u64 0) (.int .u64 0) (.int .i64 0) (.slice none 0 0) (at2 : Int) (q2 : Int)
        have HWE := hide hWE; have HOE := hide hOE; have HE4 := hide hE4; have HE5 := hide hE5
        clear hWE hOE hE4 hE5
        have x40 := cell_blk HD3.out.h4 0
        have x41 := cell_blk HD3.out.h4 1
        have x42 := cell_blk HD3.out.h4 2
        have x43 := cell_blk HD3.out.h4 3
        have x44 := cell_blk HD3.out.h4 4
        have x50 := cell_blk HD3.out.h5 0
        have x51 := cell_blk HD3.out.h5 1
        simp at x40 x41 x42 x43 x44 x50 x51
        have z40 := frozen_blk HD3.out.h4 0
        have z41 := frozen_blk HD3.out.h4 1
        have z42 := frozen_blk HD3.out.h4 2
        have z43 := frozen_blk HD3.out.h4 3
        have z44 := frozen_blk HD3.out.h4 4
        have z50 := frozen_blk HD3.out.h5 0
        have z51 := frozen_blk HD3.out.h5 1
        have y0 := cell_blk HD3.out.h7 0
        have y1 := cell_blk HD3.out.h7 1
        simp at y0 y1
        go_upto_region 9 with fail
        go_region
        rw [HWE.out]
        clear x40 x41 x42 x43 x44 x50 x51 z40 z41 z42 z43 z44 z50 z51 y0 y1
        have x40 := cell_blk HE4.out 0
        have x41 := cell_blk HE4.out 1
        have x42 := cell_blk HE4.out 2
        have x43 := cell_blk HE4.out 3
        have x44 := cell_blk HE4.out 4
        have x50 := cell_blk HE5.out 0
        have x51 := cell_blk HE5.out 1
        simp at x40 x41 x42 x43 x44 x50 x51
        go_wp2_with fail
        refine bodyPost_ret (v := .tuple #[.agg #[.int .i64 0, .int .u64 0, .int .u64 0, .int .i64 0, .slice none 0 0], .agg #[.int .i64 (at2 : Int), .int .i64 (q2 : Int)]]) (by simp [results, Tryz.results28, go_sem, x40, x41, x42, x43, x44, x50, x51]) rfl ?_
        exact HD3.out.fin_err HBB.out (HOE.out.trans (Only.drew _ _)) _ at0 at2 q2 (HZ.out) (by unfold decodeR; simp only; rw [HCL.out]; simp only; rw [if_pos (by unfold codeE; rw [if_pos HZ.out]; exact HZ.out)]; unfold codeE; rw [if_pos HZ.out]; rfl)
    · have fn : ((n0 : Int) == 252) = false := by simp; omega
      go_wp2_with fail
      go_meet
      exact ⟨n0, at1, HDS, by show _ = _; rw [HLC.out]; unfold codeL0; simp only; rw [HN0.out, if_neg h252, show 1 = at1 - at0 from by omega], by omega, by omega, by omega⟩
  case rest =>
    obtain ⟨code, at1, HD, HCL, hat1, hat1n, hcode⟩ := hcut
    have HDROP : Hid (l.drop (at1 - at0) = bs.drop at1) := by show _ = _; rw [← HL.out, List.drop_drop, show at0 + (at1 - at0) = at1 from by omega]
    clear hat1' hat1'' hlt0 hcW x0 x1 x2 x3 x4 zx0 zx1 zx2 zx3 zx4 y0 y1 zy0 zy1
    have x0 := cell_blk HD.out.h6 0
    have x1 := cell_blk HD.out.h6 1
    have x2 := cell_blk HD.out.h6 2
    have x3 := cell_blk HD.out.h6 3
    have x4 := cell_blk HD.out.h6 4
    simp at x0 x1 x2 x3 x4
    have zx0 := frozen_blk HD.out.h6 0
    have zx1 := frozen_blk HD.out.h6 1
    have zx2 := frozen_blk HD.out.h6 2
    have zx3 := frozen_blk HD.out.h6 3
    have zx4 := frozen_blk HD.out.h6 4
    have y0 := cell_blk HD.out.h7 0
    have y1 := cell_blk HD.out.h7 1
    simp at y0 y1
    have zy0 := frozen_blk HD.out.h7 0
    have zy1 := frozen_blk HD.out.h7 1
    have HF1 := hide (refForeign_any (code : Int) wc (by omega) (by omega))
    obtain ⟨fo, hfo⟩ : ∃ f, refForeign (code : Int) = f := ⟨_, rfl⟩
    rw [hfo] at HF1
    cases fo with
    | true =>
      obtain ⟨WE, hWE, hOE, hE4, hE5⟩ := HD.out.err (.int .i64 0) (.int .u64 0) (.int .u64 0) (.int .i64 0) (.slice none 0 0) (at0 : Int) (6 : Int)
      have HWE := hide hWE; have HOE := hide hOE; have HE4 := hide hE4; have HE5 := hide hE5
      clear hWE hOE hE4 hE5
      have x40 := cell_blk HD.out.h4 0
      have x41 := cell_blk HD.out.h4 1
      have x42 := cell_blk HD.out.h4 2
      have x43 := cell_blk HD.out.h4 3
      have x44 := cell_blk HD.out.h4 4
      have x50 := cell_blk HD.out.h5 0
      have x51 := cell_blk HD.out.h5 1
      simp at x40 x41 x42 x43 x44 x50 x51
      have z40 := frozen_blk HD.out.h4 0
      have z41 := frozen_blk HD.out.h4 1
      have z42 := frozen_blk HD.out.h4 2
      have z43 := frozen_blk HD.out.h4 3
      have z44 := frozen_blk HD.out.h4 4
      have z50 := frozen_blk HD.out.h5 0
      have z51 := frozen_blk HD.out.h5 1
      go_wp2_with fail
      refine HF1.out.mono ?_; rintro e w2 ⟨rfl, rfl⟩
      go_wp2_with fail
      rw [HWE.out]
      clear x0 x1 x2 x3 x4 zx0 zx1 zx2 zx3 zx4 y0 y1 zy0 zy1 x40 x41 x42 x43 x44 x50 x51 z40 z41 z42 z43 z44 z50 z51
      have x40 := cell_blk HE4.out 0
      have x41 := cell_blk HE4.out 1
      have x42 := cell_blk HE4.out 2
      have x43 := cell_blk HE4.out 3
      have x44 := cell_blk HE4.out 4
      have x50 := cell_blk HE5.out 0
      have x51 := cell_blk HE5.out 1
      simp at x40 x41 x42 x43 x44 x50 x51
      refine bodyPost_ret (v := .tuple #[.agg #[.int .i64 0, .int .u64 0, .int .u64 0, .int .i64 0, .slice none 0 0], .agg #[.int .i64 (at0 : Int), .int .i64 6]]) (by simp [results, Tryz.results28, go_sem, x40, x41, x42, x43, x44, x50, x51]) rfl ?_
      exact HD.out.fin_err HBB.out HOE.out _ at0 at0 6 (by omega) (by exact decodeR_code HCL.out (codeE_foreign hfo) (by omega))
    | false =>
      obtain ⟨nm, hnm⟩ : ∃ f, refName (code : Int) = f := ⟨_, rfl⟩
      have HN1 := hide (refName_any (code : Int) wc (by omega) (by omega))
      rw [hnm] at HN1
      by_cases hn : nm = ⟨#[]⟩
      · subst hn
        go_wp2_with fail
        refine HF1.out.mono ?_; rintro e w2 ⟨rfl, rfl⟩
        go_wp2_with fail
        refine HN1.out.mono ?_; rintro e w2 ⟨rfl, hbn⟩
        have HD2 := hide (HD.out.below hbn.out)
        clear x0 x1 x2 x3 x4 zx0 zx1 zx2 zx3 zx4 y0 y1 zy0 zy1
        obtain ⟨WE, hWE, hOE, hE4, hE5⟩ := HD2.out.err (.int .i64 0) (.int .u64 0) (.int .u64 0) (.int .i64 0) (.slice none 0 0) (at0 : Int) (4 : Int)
        have HWE := hide hWE; have HOE := hide hOE; have HE4 := hide hE4; have HE5 := hide hE5
        clear hWE hOE hE4 hE5
        have x40 := cell_blk HD2.out.h4 0
        have x41 := cell_blk HD2.out.h4 1
        have x42 := cell_blk HD2.out.h4 2
        have x43 := cell_blk HD2.out.h4 3
        have x44 := cell_blk HD2.out.h4 4
        have x50 := cell_blk HD2.out.h5 0
        have x51 := cell_blk HD2.out.h5 1
        simp at x40 x41 x42 x43 x44 x50 x51
        have z40 := frozen_blk HD2.out.h4 0
        have z41 := frozen_blk HD2.out.h4 1
        have z42 := frozen_blk HD2.out.h4 2
        have z43 := frozen_blk HD2.out.h4 3
        have z44 := frozen_blk HD2.out.h4 4
        have z50 := frozen_blk HD2.out.h5 0
        have z51 := frozen_blk HD2.out.h5 1
        go_wp2_with fail
        rw [HWE.out]
        clear x40 x41 x42 x43 x44 x50 x51 z40 z41 z42 z43 z44 z50 z51
        have x40 := cell_blk HE4.out 0
        have x41 := cell_blk HE4.out 1
        have x42 := cell_blk HE4.out 2
        have x43 := cell_blk HE4.out 3
        have x44 := cell_blk HE4.out 4
        have x50 := cell_blk HE5.out 0
        have x51 := cell_blk HE5.out 1
        simp at x40 x41 x42 x43 x44 x50 x51
        refine bodyPost_ret (v := .tuple #[.agg #[.int .i64 0, .int .u64 0, .int .u64 0, .int .i64 0, .slice none 0 0], .agg #[.int .i64 (at0 : Int), .int .i64 4]]) (by simp [results, Tryz.results28, go_sem, x40, x41, x42, x43, x44, x50, x51]) rfl ?_
        exact HD2.out.fin_err HBB.out HOE.out _ at0 at0 4 (by omega) (by exact decodeR_code HCL.out (codeE_name hfo hnm) (by omega))
      · have fnm : nm.toList.isEmpty = false := by
          rw [ByteArray.toList_eq]
          cases hl : nm.data.toList with
          | nil => exact absurd (by cases nm with | mk d => exact congrArg ByteArray.mk (Array.toList_eq_nil_iff.1 hl)) hn
          | cons => rfl
        have HK := hide (codeE_zero hfo hnm hn)
        go_wp2_with fail
        refine HF1.out.mono ?_; rintro e w2 ⟨rfl, rfl⟩
        go_wp2_with fail
        refine HN1.out.mono ?_; rintro e w2 ⟨rfl, hbn⟩
        have HD2 := hide (HD.out.below hbn.out)
        have HF2 := hide (refForm_any (code : Int) w2 (by omega) (by omega))
        replace HD := HD2
        clear HD2
        clear x0 x1 x2 x3 x4 zx0 zx1 zx2 zx3 zx4 y0 y1 zy0 zy1
        have x0 := cell_blk HD.out.h6 0
        have x1 := cell_blk HD.out.h6 1
        have x2 := cell_blk HD.out.h6 2
        have x3 := cell_blk HD.out.h6 3
        have x4 := cell_blk HD.out.h6 4
        simp at x0 x1 x2 x3 x4
        have zx0 := frozen_blk HD.out.h6 0
        have zx1 := frozen_blk HD.out.h6 1
        have zx2 := frozen_blk HD.out.h6 2
        have zx3 := frozen_blk HD.out.h6 3
        have zx4 := frozen_blk HD.out.h6 4
        have y0 := cell_blk HD.out.h7 0
        have y1 := cell_blk HD.out.h7 1
        simp at y0 y1
        have zy0 := frozen_blk HD.out.h7 0
        have zy1 := frozen_blk HD.out.h7 1
        obtain ⟨f, hf⟩ : ∃ f, refForm (code : Int) = f := ⟨_, rfl⟩
        rw [hf] at HF2
        clear hn hnm HF1 HN1 hfo
        go_wp2_with fail
        refine HF2.out.mono ?_; rintro e w3 ⟨rfl, rfl⟩
        clear HF2 fnm
        go_upto_block 0 with fail
        go_cut [] (fun wy => D1 w wy b code at1 bs.length (numbersR code (bs.drop at1)))
        case first =>
          have hfc := refForm_cases (code : Int)
          have hgrp : f = 0 ∨ f = 1 ∨ f = 3 ∨ f = 8 ∨ f = 11 ∨ (f = 2 ∨ f = 4 ∨ f = 6 ∨ f = 7 ∨ f = 9) ∨ (f = 5 ∨ f = 10) := by omega
          clear hfc
          rcases hgrp with rfl | rfl | rfl | rfl | rfl | hh | hh
          · go_wp2_with fail
            go_meet
            exact ⟨0, 0, 0, none, 0, [], at1, 0, HD, Nat.le_refl _, hat1n, .inl ⟨rfl, by rw [numR_zero hf]; exact ⟨rfl, rfl, rfl, rfl, rfl, rfl⟩⟩⟩
          · all_goals
              by_cases hge : bs.length ≤ at1
              · obtain ⟨WE, hWE, hOE, hE4, hE5⟩ := HD.out.err (.int .i64 0) (.int .u64 0) (.int .u64 0) (.int .i64 0) (.slice none 0 0) (at0 : Int) (3 : Int)
                have HWE := hide hWE; have HOE := hide hOE; have HE4 := hide hE4; have HE5 := hide hE5
                clear hWE hOE hE4 hE5
                have x40 := cell_blk HD.out.h4 0
                have x41 := cell_blk HD.out.h4 1
                have x42 := cell_blk HD.out.h4 2
                have x43 := cell_blk HD.out.h4 3
                have x44 := cell_blk HD.out.h4 4
                have x50 := cell_blk HD.out.h5 0
                have x51 := cell_blk HD.out.h5 1
                simp at x40 x41 x42 x43 x44 x50 x51
                have z40 := frozen_blk HD.out.h4 0
                have z41 := frozen_blk HD.out.h4 1
                have z42 := frozen_blk HD.out.h4 2
                have z43 := frozen_blk HD.out.h4 3
                have z44 := frozen_blk HD.out.h4 4
                have z50 := frozen_blk HD.out.h5 0
                have z51 := frozen_blk HD.out.h5 1
                go_wp2_with fail
                rw [HWE.out]
                clear x0 x1 x2 x3 x4 zx0 zx1 zx2 zx3 zx4 y0 y1 zy0 zy1 x40 x41 x42 x43 x44 x50 x51 z40 z41 z42 z43 z44 z50 z51
                have x40 := cell_blk HE4.out 0
                have x41 := cell_blk HE4.out 1
                have x42 := cell_blk HE4.out 2
                have x43 := cell_blk HE4.out 3
                have x44 := cell_blk HE4.out 4
                have x50 := cell_blk HE5.out 0
                have x51 := cell_blk HE5.out 1
                simp at x40 x41 x42 x43 x44 x50 x51
                refine bodyPost_ret (v := .tuple #[.agg #[.int .i64 0, .int .u64 0, .int .u64 0, .int .i64 0, .slice none 0 0], .agg #[.int .i64 (at0 : Int), .int .i64 3]]) (by simp [results, Tryz.results28, go_sem, x40, x41, x42, x43, x44, x50, x51]) rfl ?_
                exact HD.out.fin_err HBB.out HOE.out _ at0 at0 3 (by omega) (by refine decodeR_num HCL.out HK.out ?_ (by omega); rw [HDROP.out, numR_block hf, List.drop_of_length_le hge]; rfl)
              · obtain ⟨ad', b1, he1, hb1', hcell1, hb11, hb12⟩ := (hb.out.row.below (HD.out.bel.mono (by rw [← HBB.out]; exact hB))).byte (show at1 < bs.length by omega)
                injection he1 with he1
                subst he1
                have hlt1 := b1.toNat_lt
                obtain ⟨n1, hn1⟩ : ∃ n1, b1.toNat = n1 := ⟨_, rfl⟩
                rw [hn1] at hcell1 hb11 hb12 hlt1
                have hbl : Hid (bs.drop at1 = b1 :: bs.drop (at1 + 1)) := by
                  show _ = _
                  obtain ⟨h1, h2⟩ := List.getElem?_eq_some_iff.1 hb1'.out
                  rw [List.drop_eq_getElem_cons h1, h2]
                have HN1 := hide hn1; clear hn1
                obtain ⟨at2, hat2⟩ : ∃ a, at1 + 1 = a := ⟨_, rfl⟩
                have H2 : Hid ((at1 : Int) + 1 = (at2 : Int)) := by show _ = _; omega
                have HAT2 := hide hat2; clear hat2
                have HDB := hide ((HD.out.put6.2.1 n1).putAt at2)
                generalize hwB : (w2.setCell ⟨b + 2, 1, none⟩ (.int .u64 (n1 : Int))).setCell ⟨b + 3, 0, none⟩ (.int .i64 (at2 : Int)) = wB at HDB
                have HWB := hide hwB; clear hwB
                go_upto_region 21 with fail
                rw [H2.out, HWB.out]
                clear hcell1 x0 x1 x2 x3 x4 zx0 zx1 zx2 zx3 zx4 y0 y1 zy0 zy1
                have x0 := cell_blk HDB.out.h6 0
                have x1 := cell_blk HDB.out.h6 1
                have x2 := cell_blk HDB.out.h6 2
                have x3 := cell_blk HDB.out.h6 3
                have x4 := cell_blk HDB.out.h6 4
                simp at x0 x1 x2 x3 x4
                have zx0 := frozen_blk HDB.out.h6 0
                have zx1 := frozen_blk HDB.out.h6 1
                have zx2 := frozen_blk HDB.out.h6 2
                have zx3 := frozen_blk HDB.out.h6 3
                have zx4 := frozen_blk HDB.out.h6 4
                have y0 := cell_blk HDB.out.h7 0
                have y1 := cell_blk HDB.out.h7 1
                simp at y0 y1
                have zy0 := frozen_blk HDB.out.h7 0
                have zy1 := frozen_blk HDB.out.h7 1
                by_cases hx : n1 = 64 ∨ n1 = 126 ∨ n1 = 127
                · rcases hx with rfl | rfl | rfl
                  all_goals as_aux_lemma =>
                    go_wp2_with fail
                    go_meet
                    rw [numR_block hf, hbl.out]
                    exact ⟨_, 0, 0, none, 0, [], at2, 0, HDB, by have := HAT2.out; omega, by have := HAT2.out; omega, .inl ⟨rfl, by unfold blockR byteL; simp [HN1.out], by have := HAT2.out; unfold blockR byteL; simp [HN1.out]; omega, by unfold blockR byteL; simp [HN1.out], by unfold blockR byteL; simp [HN1.out], by unfold blockR byteL; simp [HN1.out], by unfold blockR byteL; simp [HN1.out]⟩⟩
                · have g1 : ((n1 : Int) != 64) = true := by simp; omega
                  have g2 : ((n1 : Int) != 126) = true := by simp; omega
                  have g3 : ((n1 : Int) != 127) = true := by simp; omega
                  have HX := hide hx; clear hx
                  obtain ⟨WE, hWE, hOE, hE4, hE5⟩ := HDB.out.err (.int .i64 0) (.int .u64 0) (.int .u64 0) (.int .i64 0) (.slice none 0 0) (at0 : Int) (4 : Int)
                  have HWE := hide hWE; have HOE := hide hOE; have HE4 := hide hE4; have HE5 := hide hE5
                  clear hWE hOE hE4 hE5
                  have x40 := cell_blk HDB.out.h4 0
                  have x41 := cell_blk HDB.out.h4 1
                  have x42 := cell_blk HDB.out.h4 2
                  have x43 := cell_blk HDB.out.h4 3
                  have x44 := cell_blk HDB.out.h4 4
                  have x50 := cell_blk HDB.out.h5 0
                  have x51 := cell_blk HDB.out.h5 1
                  simp at x40 x41 x42 x43 x44 x50 x51
                  have z40 := frozen_blk HDB.out.h4 0
                  have z41 := frozen_blk HDB.out.h4 1
                  have z42 := frozen_blk HDB.out.h4 2
                  have z43 := frozen_blk HDB.out.h4 3
                  have z44 := frozen_blk HDB.out.h4 4
                  have z50 := frozen_blk HDB.out.h5 0
                  have z51 := frozen_blk HDB.out.h5 1
                  go_wp2_with fail
                  rw [HWE.out]
                  clear x0 x1 x2 x3 x4 zx0 zx1 zx2 zx3 zx4 y0 y1 zy0 zy1 x40 x41 x42 x43 x44 x50 x51 z40 z41 z42 z43 z44 z50 z51
                  have x40 := cell_blk HE4.out 0
                  have x41 := cell_blk HE4.out 1
                  have x42 := cell_blk HE4.out 2
                  have x43 := cell_blk HE4.out 3
                  have x44 := cell_blk HE4.out 4
                  have x50 := cell_blk HE5.out 0
                  have x51 := cell_blk HE5.out 1
                  simp at x40 x41 x42 x43 x44 x50 x51
                  refine bodyPost_ret (v := .tuple #[.agg #[.int .i64 0, .int .u64 0, .int .u64 0, .int .i64 0, .slice none 0 0], .agg #[.int .i64 (at0 : Int), .int .i64 4]]) (by simp [results, Tryz.results28, go_sem, x40, x41, x42, x43, x44, x50, x51]) rfl ?_
                  exact HDB.out.fin_err HBB.out HOE.out _ at0 at0 4 (by omega) (by refine decodeR_num HCL.out HK.out ?_ (by omega); rw [HDROP.out, numR_block hf, hbl.out]; unfold blockR byteL; simp only; rw [if_neg (fun x => x rfl), HN1.out, if_neg HX.out]; rfl)
          · all_goals
              obtain ⟨qA, atA, eA, hrA⟩ : ∃ q0 at2 q2, refNumR bs at1 0 32 = (q0, at2, q2) := ⟨_, _, _, rfl⟩
              have hrlA := refNumR_le bs at1 0 32 (by omega)
              rw [hrA] at hrlA
              simp only at hrlA
              obtain ⟨hlA, huA⟩ := hrlA
              have HNUA := hide (refNumber_any (some ad) c Bk bs at1 0 32 w2 (hide (hb.out.below (HD.out.bel.mono (by rw [← HBB.out]; exact hB)))) (by have := HD.out.size; have := HBB.out; omega) hl (by omega) hcm _ (hide hrA))
              have HRA := hide hrA; clear hrA
              go_wp2_with fail
              refine HNUA.out.mono ?_; rintro e wAa ⟨rfl, hbA⟩
              have HDAa := hide (HD.out.below hbA.out)
              clear x0 x1 x2 x3 x4 zx0 zx1 zx2 zx3 zx4 y0 y1 zy0 zy1
              have x0 := cell_blk HDAa.out.h6 0
              have x1 := cell_blk HDAa.out.h6 1
              have x2 := cell_blk HDAa.out.h6 2
              have x3 := cell_blk HDAa.out.h6 3
              have x4 := cell_blk HDAa.out.h6 4
              simp at x0 x1 x2 x3 x4
              have zx0 := frozen_blk HDAa.out.h6 0
              have zx1 := frozen_blk HDAa.out.h6 1
              have zx2 := frozen_blk HDAa.out.h6 2
              have zx3 := frozen_blk HDAa.out.h6 3
              have zx4 := frozen_blk HDAa.out.h6 4
              have y0 := cell_blk HDAa.out.h7 0
              have y1 := cell_blk HDAa.out.h7 1
              simp at y0 y1
              have zy0 := frozen_blk HDAa.out.h7 0
              have zy1 := frozen_blk HDAa.out.h7 1
              have HDA := hide (HDAa.out.put7 atA eA)
              generalize hwA : ((wAa).setCell ⟨b + 3, 0, none⟩ (.int .i64 (atA : Int))).setCell ⟨b + 3, 1, none⟩ (.int .i64 (eA : Int)) = wA at HDA
              have HWA := hide hwA; clear hwA
              go_upto_region 31 with fail
              rw [HWA.out]
              clear x0 x1 x2 x3 x4 zx0 zx1 zx2 zx3 zx4 y0 y1 zy0 zy1
              have x0 := cell_blk HDA.out.h6 0
              have x1 := cell_blk HDA.out.h6 1
              have x2 := cell_blk HDA.out.h6 2
              have x3 := cell_blk HDA.out.h6 3
              have x4 := cell_blk HDA.out.h6 4
              simp at x0 x1 x2 x3 x4
              have zx0 := frozen_blk HDA.out.h6 0
              have zx1 := frozen_blk HDA.out.h6 1
              have zx2 := frozen_blk HDA.out.h6 2
              have zx3 := frozen_blk HDA.out.h6 3
              have zx4 := frozen_blk HDA.out.h6 4
              have y0 := cell_blk HDA.out.h7 0
              have y1 := cell_blk HDA.out.h7 1
              simp at y0 y1
              have zy0 := frozen_blk HDA.out.h7 0
              have zy1 := frozen_blk HDA.out.h7 1
              have hql := refNumR_lt HRA.out
              by_cases hbig : 100 < qA
              · have heA : eA = 0 := by
                  apply Decidable.byContradiction
                  intro x
                  have := (refNumR_err HRA.out x).1
                  omega
                subst heA
                have HBIG := hide hbig; have fb : decide ((100 : Int) < (qA : Int)) = true := by simp; omega
                clear hbig hql
                obtain ⟨WE, hWE, hOE, hE4, hE5⟩ := HDA.out.err (.int .i64 0) (.int .u64 0) (.int .u64 0) (.int .i64 0) (.slice none 0 0) (at0 : Int) (15 : Int)
                have HWE := hide hWE; have HOE := hide hOE; have HE4 := hide hE4; have HE5 := hide hE5
                clear hWE hOE hE4 hE5
                have x40 := cell_blk HDA.out.h4 0
                have x41 := cell_blk HDA.out.h4 1
                have x42 := cell_blk HDA.out.h4 2
                have x43 := cell_blk HDA.out.h4 3
                have x44 := cell_blk HDA.out.h4 4
                have x50 := cell_blk HDA.out.h5 0
                have x51 := cell_blk HDA.out.h5 1
                simp at x40 x41 x42 x43 x44 x50 x51
                have z40 := frozen_blk HDA.out.h4 0
                have z41 := frozen_blk HDA.out.h4 1
                have z42 := frozen_blk HDA.out.h4 2
                have z43 := frozen_blk HDA.out.h4 3
                have z44 := frozen_blk HDA.out.h4 4
                have z50 := frozen_blk HDA.out.h5 0
                have z51 := frozen_blk HDA.out.h5 1
                go_wp2_with fail
                rw [HWE.out]
                clear x0 x1 x2 x3 x4 zx0 zx1 zx2 zx3 zx4 y0 y1 zy0 zy1 x40 x41 x42 x43 x44 x50 x51 z40 z41 z42 z43 z44 z50 z51
                have x40 := cell_blk HE4.out 0
                have x41 := cell_blk HE4.out 1
                have x42 := cell_blk HE4.out 2
                have x43 := cell_blk HE4.out 3
                have x44 := cell_blk HE4.out 4
                have x50 := cell_blk HE5.out 0
                have x51 := cell_blk HE5.out 1
                simp at x40 x41 x42 x43 x44 x50 x51
                refine bodyPost_ret (v := .tuple #[.agg #[.int .i64 0, .int .u64 0, .int .u64 0, .int .i64 0, .slice none 0 0], .agg #[.int .i64 (at0 : Int), .int .i64 15]]) (by simp [results, Tryz.results28, go_sem, x40, x41, x42, x43, x44, x50, x51]) rfl ?_
                exact HDA.out.fin_err HBB.out HOE.out _ at0 at0 15 (by omega) (by refine decodeR_num HCL.out HK.out ?_ (by omega); rw [HDROP.out, numR_table hf]; exact (tab_long HRA.out HBIG.out).symm)
              · have hq100 : qA ≤ 100 := by omega
                have fb : decide ((100 : Int) < (qA : Int)) = false := by simp; omega
                obtain ⟨d, hd⟩ : ∃ d, ((eA : Int) == 0) = d := ⟨_, rfl⟩
                have HST := hide (TabSt.start HDA HRA.out hq100 hlA huA)
                clear hbig hql
                go_wp2_with fail
                · as_aux_lemma =>
                    clear fb x0 x1 x2 x3 x4 zx0 zx1 zx2 zx3 zx4 y0 y1 zy0 zy1
                    go_loopw [9] (fun i wr => ∃ k : Nat, i = .int .u64 k ∧ k ≤ qA ∧ Hid (TabSt w wr b code at1 bs.length qA k (bs.drop at1))) (fun i _ => qA - (intOf i).toNat)
                    case atStart => exact ⟨0, rfl, by omega, HST⟩
                    case round =>
                      clear HST
                      obtain ⟨k, rfl, hk, hs⟩ := hrel
                      obtain ⟨Al, cl, xs, K, at', e', HDL, rfl, g1, g2, HALT⟩ := hs.out.out
                      clear hs
                      have x0 := cell_blk HDL.out.h6 0
                      have x1 := cell_blk HDL.out.h6 1
                      have x2 := cell_blk HDL.out.h6 2
                      have x3 := cell_blk HDL.out.h6 3
                      have x4 := cell_blk HDL.out.h6 4
                      simp at x0 x1 x2 x3 x4
                      have zx0 := frozen_blk HDL.out.h6 0
                      have zx1 := frozen_blk HDL.out.h6 1
                      have zx2 := frozen_blk HDL.out.h6 2
                      have zx3 := frozen_blk HDL.out.h6 3
                      have zx4 := frozen_blk HDL.out.h6 4
                      have y0 := cell_blk HDL.out.h7 0
                      have y1 := cell_blk HDL.out.h7 1
                      simp at y0 y1
                      have zy0 := frozen_blk HDL.out.h7 0
                      have zy1 := frozen_blk HDL.out.h7 1
                      by_cases hlt : xs.length < qA
                      · by_cases he : e' = 0
                        · subst he
                          have halt : at' = at1 + K ∧ labsR (bs.drop at1) = appL xs K (labelsL (qA - xs.length) ((bs.drop at1).drop K)) := by
                            rcases HALT.out with ⟨_, x, y⟩ | ⟨x, _⟩
                            · exact ⟨x, y⟩
                            · exact absurd rfl x
                          have HALT2 := hide halt
                          clear halt HALT
                          have hroom : Room xs.length 1 8 := room_of (by omega) (by omega)
                          obtain ⟨qS, atS, eS, hrS⟩ : ∃ q0 at2 q2, refNumR bs at' 0 32 = (q0, at2, q2) := ⟨_, _, _, rfl⟩
                          have hrlS := refNumR_le bs at' 0 32 (by omega)
                          rw [hrS] at hrlS
                          simp only at hrlS
                          obtain ⟨hlS, huS⟩ := hrlS
                          have HNUS := hide (refNumber_any (some ad) c Bk bs at' 0 32 wr (hide (hb.out.below (HDL.out.bel.mono (by rw [← HBB.out]; exact hB)))) (by have := HDL.out.size; have := HBB.out; omega) hl (by omega) hcm _ (hide hrS))
                          have HRS := hide hrS; clear hrS
                          go_wp2_with fail
                          refine HNUS.out.mono ?_; rintro e wSa ⟨rfl, hbS⟩
                          have HDSa := hide (HDL.out.below hbS.out)
                          clear x0 x1 x2 x3 x4 zx0 zx1 zx2 zx3 zx4 y0 y1 zy0 zy1
                          have HNX := hide (tab_next HALT2.out.2 HALT2.out.1 hlt HRS.out)
                          have x0 := cell_blk HDSa.out.h6 0
                          have x1 := cell_blk HDSa.out.h6 1
                          have x2 := cell_blk HDSa.out.h6 2
                          have x3 := cell_blk HDSa.out.h6 3
                          have x4 := cell_blk HDSa.out.h6 4
                          simp at x0 x1 x2 x3 x4
                          have zx0 := frozen_blk HDSa.out.h6 0
                          have zx1 := frozen_blk HDSa.out.h6 1
                          have zx2 := frozen_blk HDSa.out.h6 2
                          have zx3 := frozen_blk HDSa.out.h6 3
                          have zx4 := frozen_blk HDSa.out.h6 4
                          have y0 := cell_blk HDSa.out.h7 0
                          have y1 := cell_blk HDSa.out.h7 1
                          simp at y0 y1
                          have zy0 := frozen_blk HDSa.out.h7 0
                          have zy1 := frozen_blk HDSa.out.h7 1
                          have HDS := hide (HDSa.out.put7 atS eS)
                          generalize hwS : (wSa.setCell ⟨b + 3, 0, none⟩ (.int .i64 (atS : Int))).setCell ⟨b + 3, 1, none⟩ (.int .i64 (eS : Int)) = wS at HDS
                          have HWS := hide hwS; clear hwS
                          go_upto_region 38 with fail
                          rw [HWS.out]
                          clear x0 x1 x2 x3 x4 zx0 zx1 zx2 zx3 zx4 y0 y1 zy0 zy1
                          have x0 := cell_blk HDS.out.h6 0
                          have x1 := cell_blk HDS.out.h6 1
                          have x2 := cell_blk HDS.out.h6 2
                          have x3 := cell_blk HDS.out.h6 3
                          have x4 := cell_blk HDS.out.h6 4
                          simp at x0 x1 x2 x3 x4
                          have zx0 := frozen_blk HDS.out.h6 0
                          have zx1 := frozen_blk HDS.out.h6 1
                          have zx2 := frozen_blk HDS.out.h6 2
                          have zx3 := frozen_blk HDS.out.h6 3
                          have zx4 := frozen_blk HDS.out.h6 4
                          have y0 := cell_blk HDS.out.h7 0
                          have y1 := cell_blk HDS.out.h7 1
                          simp at y0 y1
                          have zy0 := frozen_blk HDS.out.h7 0
                          have zy1 := frozen_blk HDS.out.h7 1
                          have hszS := HDS.out.size
                          go_wp2_with (at_builtin; refine wpList_push rfl _ _ rfl (b + 4) nat_elem _ xs.length (xs.map U) rfl wS (.int .u64 (qS : Int)) 22 rfl HDS.out.own rfl rfl hroom hszS ?_; intro v' w4 ho4 hg4; have hb4 := hide (hg4.below hszS (own_ge HDS.out.own)); have hown4 : Hid (w4.ownsRow (b + 4) 22 1 v' (xs ++ [qS]).length ((xs ++ [qS]).map U)) := own_cast ho4 (by simp) (by simp [U]); clear hg4 ho4; obtain ⟨Al2, cl2, rfl, hcl1, hcl2⟩ := own_form hown4.out; have HD5 := hide (HDS.out.label (xs ++ [qS]) Al2 cl2 hown4.out hb4.out); have x4' := cell_blk ((hb4.out.block (b + 2) (by omega)).trans HDS.out.h6) 4; have zx4' := frozen_blk ((hb4.out.block (b + 2) (by omega)).trans HDS.out.h6) 4; simp at x4'; clear x0 x1 x2 x3 x4 zx0 zx1 zx2 zx3 zx4 y0 y1 zy0 zy1)
                          go_roundw
                          case rel =>
                            rw [show (xs ++ [qS]).length = xs.length + 1 from by simp] at HD5
                            refine ⟨xs.length + 1, by go_num, by omega, ⟨Al2, cl2, xs ++ [qS], K + (atS - at'), atS, eS, HD5, by simp, by omega, huS, HNX⟩⟩
                          case measure => simp [intOf] <;> omega
                        · have feq : ((e' : Int) == 0) = false := by simp; omega
                          have HE := hide he; clear he
                          obtain ⟨qS, atS, eS, hrS⟩ : ∃ q0 at2 q2, refNumR bs at' e' 32 = (q0, at2, q2) := ⟨_, _, _, rfl⟩
                          have hrlS := refNumR_le bs at' e' 32 (by omega)
                          rw [hrS] at hrlS
                          simp only at hrlS
                          obtain ⟨hlS, huS⟩ := hrlS
                          have HNUS := hide (refNumber_any (some ad) c Bk bs at' e' 32 wr (hide (hb.out.below (HDL.out.bel.mono (by rw [← HBB.out]; exact hB)))) (by have := HDL.out.size; have := HBB.out; omega) hl (by omega) hcm _ (hide hrS))
                          have HRS := hide hrS; clear hrS
                          go_wp2_with fail
                          refine HNUS.out.mono ?_; rintro e wSa ⟨rfl, hbS⟩
                          have HDSa := hide (HDL.out.below hbS.out)
                          clear x0 x1 x2 x3 x4 zx0 zx1 zx2 zx3 zx4 y0 y1 zy0 zy1
                          have x0 := cell_blk HDSa.out.h6 0
                          have x1 := cell_blk HDSa.out.h6 1
                          have x2 := cell_blk HDSa.out.h6 2
                          have x3 := cell_blk HDSa.out.h6 3
                          have x4 := cell_blk HDSa.out.h6 4
                          simp at x0 x1 x2 x3 x4
                          have zx0 := frozen_blk HDSa.out.h6 0
                          have zx1 := frozen_blk HDSa.out.h6 1
                          have zx2 := frozen_blk HDSa.out.h6 2
                          have zx3 := frozen_blk HDSa.out.h6 3
                          have zx4 := frozen_blk HDSa.out.h6 4
                          have y0 := cell_blk HDSa.out.h7 0
                          have y1 := cell_blk HDSa.out.h7 1
                          simp at y0 y1
                          have zy0 := frozen_blk HDSa.out.h7 0
                          have zy1 := frozen_blk HDSa.out.h7 1
                          have HDS := hide ((HDSa.out.put6.2.1 qS).put7 atS eS)
                          go_wp2_with fail
                          go_meet
                          rw [numR_table hf]
                          exact D1.table (e' := e') (K := K) (at' := at') HDS.out (.inr ⟨HE.out, by rcases HALT.out with ⟨x, _⟩ | ⟨_, x⟩; exact absurd x HE.out; exact x⟩) HRS.out (by omega) huS
                      · have hkv : xs.length = qA := by omega
                        subst hkv
                        clear hlt
                        obtain ⟨qS, atS, eS, hrS⟩ : ∃ q0 at2 q2, refNumR bs at' e' 32 = (q0, at2, q2) := ⟨_, _, _, rfl⟩
                        have hrlS := refNumR_le bs at' e' 32 (by omega)
                        rw [hrS] at hrlS
                        simp only at hrlS
                        obtain ⟨hlS, huS⟩ := hrlS
                        have HNUS := hide (refNumber_any (some ad) c Bk bs at' e' 32 wr (hide (hb.out.below (HDL.out.bel.mono (by rw [← HBB.out]; exact hB)))) (by have := HDL.out.size; have := HBB.out; omega) hl (by omega) hcm _ (hide hrS))
                        have HRS := hide hrS; clear hrS
                        go_wp2_with fail
                        refine HNUS.out.mono ?_; rintro e wSa ⟨rfl, hbS⟩
                        have HDSa := hide (HDL.out.below hbS.out)
                        clear x0 x1 x2 x3 x4 zx0 zx1 zx2 zx3 zx4 y0 y1 zy0 zy1
                        have x0 := cell_blk HDSa.out.h6 0
                        have x1 := cell_blk HDSa.out.h6 1
                        have x2 := cell_blk HDSa.out.h6 2
                        have x3 := cell_blk HDSa.out.h6 3
                        have x4 := cell_blk HDSa.out.h6 4
                        simp at x0 x1 x2 x3 x4
                        have zx0 := frozen_blk HDSa.out.h6 0
                        have zx1 := frozen_blk HDSa.out.h6 1
                        have zx2 := frozen_blk HDSa.out.h6 2
                        have zx3 := frozen_blk HDSa.out.h6 3
                        have zx4 := frozen_blk HDSa.out.h6 4
                        have y0 := cell_blk HDSa.out.h7 0
                        have y1 := cell_blk HDSa.out.h7 1
                        simp at y0 y1
                        have zy0 := frozen_blk HDSa.out.h7 0
                        have zy1 := frozen_blk HDSa.out.h7 1
                        have HDS := hide ((HDSa.out.put6.2.1 qS).put7 atS eS)
                        go_wp2_with fail
                        go_meet
                        rw [numR_table hf]
                        exact D1.table (e' := e') (K := K) (at' := at') HDS.out (tab_out HALT.out) HRS.out (by omega) huS
                · as_aux_lemma =>
                    clear fb x0 x1 x2 x3 x4 zx0 zx1 zx2 zx3 zx4 y0 y1 zy0 zy1
                    go_loopw [9] (fun i wr => ∃ k : Nat, i = .int .u64 k ∧ k ≤ qA ∧ Hid (TabSt w wr b code at1 bs.length qA k (bs.drop at1))) (fun i _ => qA - (intOf i).toNat)
                    case atStart => exact ⟨0, rfl, by omega, HST⟩
                    case round =>
                      clear HST
                      obtain ⟨k, rfl, hk, hs⟩ := hrel
                      obtain ⟨Al, cl, xs, K, at', e', HDL, rfl, g1, g2, HALT⟩ := hs.out.out
                      clear hs
                      have x0 := cell_blk HDL.out.h6 0
                      have x1 := cell_blk HDL.out.h6 1
                      have x2 := cell_blk HDL.out.h6 2
                      have x3 := cell_blk HDL.out.h6 3
                      have x4 := cell_blk HDL.out.h6 4
                      simp at x0 x1 x2 x3 x4
                      have zx0 := frozen_blk HDL.out.h6 0
                      have zx1 := frozen_blk HDL.out.h6 1
                      have zx2 := frozen_blk HDL.out.h6 2
                      have zx3 := frozen_blk HDL.out.h6 3
                      have zx4 := frozen_blk HDL.out.h6 4
                      have y0 := cell_blk HDL.out.h7 0
                      have y1 := cell_blk HDL.out.h7 1
                      simp at y0 y1
                      have zy0 := frozen_blk HDL.out.h7 0
                      have zy1 := frozen_blk HDL.out.h7 1
                      by_cases hlt : xs.length < qA
                      · by_cases he : e' = 0
                        · subst he
                          have halt : at' = at1 + K ∧ labsR (bs.drop at1) = appL xs K (labelsL (qA - xs.length) ((bs.drop at1).drop K)) := by
                            rcases HALT.out with ⟨_, x, y⟩ | ⟨x, _⟩
                            · exact ⟨x, y⟩
                            · exact absurd rfl x
                          have HALT2 := hide halt
                          clear halt HALT
                          have hroom : Room xs.length 1 8 := room_of (by omega) (by omega)
                          obtain ⟨qS, atS, eS, hrS⟩ : ∃ q0 at2 q2, refNumR bs at' 0 32 = (q0, at2, q2) := ⟨_, _, _, rfl⟩
                          have hrlS := refNumR_le bs at' 0 32 (by omega)
                          rw [hrS] at hrlS
                          simp only at hrlS
                          obtain ⟨hlS, huS⟩ := hrlS
                          have HNUS := hide (refNumber_any (some ad) c Bk bs at' 0 32 wr (hide (hb.out.below (HDL.out.bel.mono (by rw [← HBB.out]; exact hB)))) (by have := HDL.out.size; have := HBB.out; omega) hl (by omega) hcm _ (hide hrS))
                          have HRS := hide hrS; clear hrS
                          go_wp2_with fail
                          refine HNUS.out.mono ?_; rintro e wSa ⟨rfl, hbS⟩
                          have HDSa := hide (HDL.out.below hbS.out)
                          clear x0 x1 x2 x3 x4 zx0 zx1 zx2 zx3 zx4 y0 y1 zy0 zy1
                          have HNX := hide (tab_next HALT2.out.2 HALT2.out.1 hlt HRS.out)
                          have x0 := cell_blk HDSa.out.h6 0
                          have x1 := cell_blk HDSa.out.h6 1
                          have x2 := cell_blk HDSa.out.h6 2
                          have x3 := cell_blk HDSa.out.h6 3
                          have x4 := cell_blk HDSa.out.h6 4
                          simp at x0 x1 x2 x3 x4
                          have zx0 := frozen_blk HDSa.out.h6 0
                          have zx1 := frozen_blk HDSa.out.h6 1
                          have zx2 := frozen_blk HDSa.out.h6 2
                          have zx3 := frozen_blk HDSa.out.h6 3
                          have zx4 := frozen_blk HDSa.out.h6 4
                          have y0 := cell_blk HDSa.out.h7 0
                          have y1 := cell_blk HDSa.out.h7 1
                          simp at y0 y1
                          have zy0 := frozen_blk HDSa.out.h7 0
                          have zy1 := frozen_blk HDSa.out.h7 1
                          have HDS := hide (HDSa.out.put7 atS eS)
                          generalize hwS : (wSa.setCell ⟨b + 3, 0, none⟩ (.int .i64 (atS : Int))).setCell ⟨b + 3, 1, none⟩ (.int .i64 (eS : Int)) = wS at HDS
                          have HWS := hide hwS; clear hwS
                          go_upto_region 38 with fail
                          rw [HWS.out]
                          clear x0 x1 x2 x3 x4 zx0 zx1 zx2 zx3 zx4 y0 y1 zy0 zy1
                          have x0 := cell_blk HDS.out.h6 0
                          have x1 := cell_blk HDS.out.h6 1
                          have x2 := cell_blk HDS.out.h6 2
                          have x3 := cell_blk HDS.out.h6 3
                          have x4 := cell_blk HDS.out.h6 4
                          simp at x0 x1 x2 x3 x4
                          have zx0 := frozen_blk HDS.out.h6 0
                          have zx1 := frozen_blk HDS.out.h6 1
                          have zx2 := frozen_blk HDS.out.h6 2
                          have zx3 := frozen_blk HDS.out.h6 3
                          have zx4 := frozen_blk HDS.out.h6 4
                          have y0 := cell_blk HDS.out.h7 0
                          have y1 := cell_blk HDS.out.h7 1
                          simp at y0 y1
                          have zy0 := frozen_blk HDS.out.h7 0
                          have zy1 := frozen_blk HDS.out.h7 1
                          have hszS := HDS.out.size
                          go_wp2_with (at_builtin; refine wpList_push rfl _ _ rfl (b + 4) nat_elem _ xs.length (xs.map U) rfl wS (.int .u64 (qS : Int)) 22 rfl HDS.out.own rfl rfl hroom hszS ?_; intro v' w4 ho4 hg4; have hb4 := hide (hg4.below hszS (own_ge HDS.out.own)); have hown4 : Hid (w4.ownsRow (b + 4) 22 1 v' (xs ++ [qS]).length ((xs ++ [qS]).map U)) := own_cast ho4 (by simp) (by simp [U]); clear hg4 ho4; obtain ⟨Al2, cl2, rfl, hcl1, hcl2⟩ := own_form hown4.out; have HD5 := hide (HDS.out.label (xs ++ [qS]) Al2 cl2 hown4.out hb4.out); have x4' := cell_blk ((hb4.out.block (b + 2) (by omega)).trans HDS.out.h6) 4; have zx4' := frozen_blk ((hb4.out.block (b + 2) (by omega)).trans HDS.out.h6) 4; simp at x4'; clear x0 x1 x2 x3 x4 zx0 zx1 zx2 zx3 zx4 y0 y1 zy0 zy1)
                          go_roundw
                          case rel =>
                            rw [show (xs ++ [qS]).length = xs.length + 1 from by simp] at HD5
                            refine ⟨xs.length + 1, by go_num, by omega, ⟨Al2, cl2, xs ++ [qS], K + (atS - at'), atS, eS, HD5, by simp, by omega, huS, HNX⟩⟩
                          case measure => simp [intOf] <;> omega
                        · have feq : ((e' : Int) == 0) = false := by simp; omega
                          have HE := hide he; clear he
                          obtain ⟨qS, atS, eS, hrS⟩ : ∃ q0 at2 q2, refNumR bs at' e' 32 = (q0, at2, q2) := ⟨_, _, _, rfl⟩
                          have hrlS := refNumR_le bs at' e' 32 (by omega)
                          rw [hrS] at hrlS
                          simp only at hrlS
                          obtain ⟨hlS, huS⟩ := hrlS
                          have HNUS := hide (refNumber_any (some ad) c Bk bs at' e' 32 wr (hide (hb.out.below (HDL.out.bel.mono (by rw [← HBB.out]; exact hB)))) (by have := HDL.out.size; have := HBB.out; omega) hl (by omega) hcm _ (hide hrS))
                          have HRS := hide hrS; clear hrS
                          go_wp2_with fail
                          refine HNUS.out.mono ?_; rintro e wSa ⟨rfl, hbS⟩
                          have HDSa := hide (HDL.out.below hbS.out)
                          clear x0 x1 x2 x3 x4 zx0 zx1 zx2 zx3 zx4 y0 y1 zy0 zy1
                          have x0 := cell_blk HDSa.out.h6 0
                          have x1 := cell_blk HDSa.out.h6 1
                          have x2 := cell_blk HDSa.out.h6 2
                          have x3 := cell_blk HDSa.out.h6 3
                          have x4 := cell_blk HDSa.out.h6 4
                          simp at x0 x1 x2 x3 x4
                          have zx0 := frozen_blk HDSa.out.h6 0
                          have zx1 := frozen_blk HDSa.out.h6 1
                          have zx2 := frozen_blk HDSa.out.h6 2
                          have zx3 := frozen_blk HDSa.out.h6 3
                          have zx4 := frozen_blk HDSa.out.h6 4
                          have y0 := cell_blk HDSa.out.h7 0
                          have y1 := cell_blk HDSa.out.h7 1
                          simp at y0 y1
                          have zy0 := frozen_blk HDSa.out.h7 0
                          have zy1 := frozen_blk HDSa.out.h7 1
                          have HDS := hide ((HDSa.out.put6.2.1 qS).put7 atS eS)
                          go_wp2_with fail
                          go_meet
                          rw [numR_table hf]
                          exact D1.table (e' := e') (K := K) (at' := at') HDS.out (.inr ⟨HE.out, by rcases HALT.out with ⟨x, _⟩ | ⟨_, x⟩; exact absurd x HE.out; exact x⟩) HRS.out (by omega) huS
                      · have hkv : xs.length = qA := by omega
                        subst hkv
                        clear hlt
                        obtain ⟨qS, atS, eS, hrS⟩ : ∃ q0 at2 q2, refNumR bs at' e' 32 = (q0, at2, q2) := ⟨_, _, _, rfl⟩
                        have hrlS := refNumR_le bs at' e' 32 (by omega)
                        rw [hrS] at hrlS
                        simp only at hrlS
                        obtain ⟨hlS, huS⟩ := hrlS
                        have HNUS := hide (refNumber_any (some ad) c Bk bs at' e' 32 wr (hide (hb.out.below (HDL.out.bel.mono (by rw [← HBB.out]; exact hB)))) (by have := HDL.out.size; have := HBB.out; omega) hl (by omega) hcm _ (hide hrS))
                        have HRS := hide hrS; clear hrS
                        go_wp2_with fail
                        refine HNUS.out.mono ?_; rintro e wSa ⟨rfl, hbS⟩
                        have HDSa := hide (HDL.out.below hbS.out)
                        clear x0 x1 x2 x3 x4 zx0 zx1 zx2 zx3 zx4 y0 y1 zy0 zy1
                        have x0 := cell_blk HDSa.out.h6 0
                        have x1 := cell_blk HDSa.out.h6 1
                        have x2 := cell_blk HDSa.out.h6 2
                        have x3 := cell_blk HDSa.out.h6 3
                        have x4 := cell_blk HDSa.out.h6 4
                        simp at x0 x1 x2 x3 x4
                        have zx0 := frozen_blk HDSa.out.h6 0
                        have zx1 := frozen_blk HDSa.out.h6 1
                        have zx2 := frozen_blk HDSa.out.h6 2
                        have zx3 := frozen_blk HDSa.out.h6 3
                        have zx4 := frozen_blk HDSa.out.h6 4
                        have y0 := cell_blk HDSa.out.h7 0
                        have y1 := cell_blk HDSa.out.h7 1
                        simp at y0 y1
                        have zy0 := frozen_blk HDSa.out.h7 0
                        have zy1 := frozen_blk HDSa.out.h7 1
                        have HDS := hide ((HDSa.out.put6.2.1 qS).put7 atS eS)
                        go_wp2_with fail
                        go_meet
                        rw [numR_table hf]
                        exact D1.table (e' := e') (K := K) (at' := at') HDS.out (tab_out HALT.out) HRS.out (by omega) huS
          · all_goals
              obtain ⟨qA, atA, eA, hrA⟩ : ∃ q0 at2 q2, refNumR bs at1 0 32 = (q0, at2, q2) := ⟨_, _, _, rfl⟩
              have hrlA := refNumR_le bs at1 0 32 (by omega)
              rw [hrA] at hrlA
              simp only at hrlA
              obtain ⟨hlA, huA⟩ := hrlA
              have HNUA := hide (refNumber_any (some ad) c Bk bs at1 0 32 w2 (hide (hb.out.below (HD.out.bel.mono (by rw [← HBB.out]; exact hB)))) (by have := HD.out.size; have := HBB.out; omega) hl (by omega) hcm _ (hide hrA))
              have HRA := hide hrA; clear hrA
              go_wp2_with fail
              refine HNUA.out.mono ?_; rintro e wAa ⟨rfl, hbA⟩
              have HDAa := hide (HD.out.below hbA.out)
              clear x0 x1 x2 x3 x4 zx0 zx1 zx2 zx3 zx4 y0 y1 zy0 zy1
              have x0 := cell_blk HDAa.out.h6 0
              have x1 := cell_blk HDAa.out.h6 1
              have x2 := cell_blk HDAa.out.h6 2
              have x3 := cell_blk HDAa.out.h6 3
              have x4 := cell_blk HDAa.out.h6 4
              simp at x0 x1 x2 x3 x4
              have zx0 := frozen_blk HDAa.out.h6 0
              have zx1 := frozen_blk HDAa.out.h6 1
              have zx2 := frozen_blk HDAa.out.h6 2
              have zx3 := frozen_blk HDAa.out.h6 3
              have zx4 := frozen_blk HDAa.out.h6 4
              have y0 := cell_blk HDAa.out.h7 0
              have y1 := cell_blk HDAa.out.h7 1
              simp at y0 y1
              have zy0 := frozen_blk HDAa.out.h7 0
              have zy1 := frozen_blk HDAa.out.h7 1
              have HDA := hide (HDAa.out.put7 atA eA)
              generalize hwA : ((wAa).setCell ⟨b + 3, 0, none⟩ (.int .i64 (atA : Int))).setCell ⟨b + 3, 1, none⟩ (.int .i64 (eA : Int)) = wA at HDA
              have HWA := hide hwA; clear hwA
              go_upto_region 46 with fail
              rw [HWA.out]
              clear x0 x1 x2 x3 x4 zx0 zx1 zx2 zx3 zx4 y0 y1 zy0 zy1
              have x0 := cell_blk HDA.out.h6 0
              have x1 := cell_blk HDA.out.h6 1
              have x2 := cell_blk HDA.out.h6 2
              have x3 := cell_blk HDA.out.h6 3
              have x4 := cell_blk HDA.out.h6 4
              simp at x0 x1 x2 x3 x4
              have zx0 := frozen_blk HDA.out.h6 0
              have zx1 := frozen_blk HDA.out.h6 1
              have zx2 := frozen_blk HDA.out.h6 2
              have zx3 := frozen_blk HDA.out.h6 3
              have zx4 := frozen_blk HDA.out.h6 4
              have y0 := cell_blk HDA.out.h7 0
              have y1 := cell_blk HDA.out.h7 1
              simp at y0 y1
              have zy0 := frozen_blk HDA.out.h7 0
              have zy1 := frozen_blk HDA.out.h7 1
              have hql := refNumR_lt HRA.out
              obtain ⟨m, hm⟩ : ∃ m, qA / 64 % 2 = m := ⟨_, rfl⟩
              have hm2 : m < 2 := by omega
              have hmI : (qA : Int) / 64 % 2 = (m : Int) := by omega
              by_cases hm1 : m = 1
              · subst hm1
                have heA : eA = 0 := by
                  apply Decidable.byContradiction
                  intro x
                  have := (refNumR_err HRA.out x).1
                  omega
                subst heA
                obtain ⟨al, hal⟩ : ∃ al, qA = al + 64 := ⟨qA - 64, by omega⟩
                have halI : (qA : Int) - 64 = (al : Int) := by omega
                have hal4 : al ≤ 4294967231 := by omega
                have HM := hide hm; clear hm hm2
                have HAL := hide hal; clear hal
                clear hql
                by_cases hbig : 31 < al
                · have HBIG := hide hbig; have fb : decide ((31 : Int) < (al : Int)) = true := by simp; omega
                  clear hbig
                  obtain ⟨WE, hWE, hOE, hE4, hE5⟩ := HDA.out.err (.int .i64 0) (.int .u64 0) (.int .u64 0) (.int .i64 0) (.slice none 0 0) (at0 : Int) (4 : Int)
                  have HWE := hide hWE; have HOE := hide hOE; have HE4 := hide hE4; have HE5 := hide hE5
                  clear hWE hOE hE4 hE5
                  have x40 := cell_blk HDA.out.h4 0
                  have x41 := cell_blk HDA.out.h4 1
                  have x42 := cell_blk HDA.out.h4 2
                  have x43 := cell_blk HDA.out.h4 3
                  have x44 := cell_blk HDA.out.h4 4
                  have x50 := cell_blk HDA.out.h5 0
                  have x51 := cell_blk HDA.out.h5 1
                  simp at x40 x41 x42 x43 x44 x50 x51
                  have z40 := frozen_blk HDA.out.h4 0
                  have z41 := frozen_blk HDA.out.h4 1
                  have z42 := frozen_blk HDA.out.h4 2
                  have z43 := frozen_blk HDA.out.h4 3
                  have z44 := frozen_blk HDA.out.h4 4
                  have z50 := frozen_blk HDA.out.h5 0
                  have z51 := frozen_blk HDA.out.h5 1
                  go_wp2_with fail
                  rw [HWE.out]
                  clear x0 x1 x2 x3 x4 zx0 zx1 zx2 zx3 zx4 y0 y1 zy0 zy1 x40 x41 x42 x43 x44 x50 x51 z40 z41 z42 z43 z44 z50 z51
                  have x40 := cell_blk HE4.out 0
                  have x41 := cell_blk HE4.out 1
                  have x42 := cell_blk HE4.out 2
                  have x43 := cell_blk HE4.out 3
                  have x44 := cell_blk HE4.out 4
                  have x50 := cell_blk HE5.out 0
                  have x51 := cell_blk HE5.out 1
                  simp at x40 x41 x42 x43 x44 x50 x51
                  refine bodyPost_ret (v := .tuple #[.agg #[.int .i64 0, .int .u64 0, .int .u64 0, .int .i64 0, .slice none 0 0], .agg #[.int .i64 (at0 : Int), .int .i64 4]]) (by simp [results, Tryz.results28, go_sem, x40, x41, x42, x43, x44, x50, x51]) rfl ?_
                  exact HDA.out.fin_err HBB.out HOE.out _ at0 at0 4 (by omega) (by refine decodeR_num HCL.out HK.out ?_ (by omega); rw [HDROP.out, numR_mem hf]; exact (mem_bad HRA.out (by have := HAL.out; have := HM.out; omega) HBIG.out).symm)
                · as_aux_lemma =>
                    have hal31 : al ≤ 31 := by omega
                    have fb : decide ((31 : Int) < (al : Int)) = false := by simp; omega
                    clear hbig
                    have HWBD := hide (HDA.out.put6.2.2.2 al)
                    generalize hwb : wA.setCell ⟨b + 2, 3, none⟩ (.int .i64 (al : Int)) = wb at HWBD
                    have HWB := hide hwb; clear hwb
                    go_upto_region 53 with fail
                    rw [HWB.out]
                    clear x0 x1 x2 x3 x4 zx0 zx1 zx2 zx3 zx4 y0 y1 zy0 zy1
                    have x0 := cell_blk HWBD.out.h6 0
                    have x1 := cell_blk HWBD.out.h6 1
                    have x2 := cell_blk HWBD.out.h6 2
                    have x3 := cell_blk HWBD.out.h6 3
                    have x4 := cell_blk HWBD.out.h6 4
                    simp at x0 x1 x2 x3 x4
                    have zx0 := frozen_blk HWBD.out.h6 0
                    have zx1 := frozen_blk HWBD.out.h6 1
                    have zx2 := frozen_blk HWBD.out.h6 2
                    have zx3 := frozen_blk HWBD.out.h6 3
                    have zx4 := frozen_blk HWBD.out.h6 4
                    have y0 := cell_blk HWBD.out.h7 0
                    have y1 := cell_blk HWBD.out.h7 1
                    simp at y0 y1
                    have zy0 := frozen_blk HWBD.out.h7 0
                    have zy1 := frozen_blk HWBD.out.h7 1
                    obtain ⟨qS, atS, eS, hrS⟩ : ∃ q0 at2 q2, refNumR bs atA 0 32 = (q0, at2, q2) := ⟨_, _, _, rfl⟩
                    have hrlS := refNumR_le bs atA 0 32 (by omega)
                    rw [hrS] at hrlS
                    simp only at hrlS
                    obtain ⟨hlS, huS⟩ := hrlS
                    have HNUS := hide (refNumber_any (some ad) c Bk bs atA 0 32 wb (hide (hb.out.below (HWBD.out.bel.mono (by rw [← HBB.out]; exact hB)))) (by have := HWBD.out.size; have := HBB.out; omega) hl (by omega) hcm _ (hide hrS))
                    have HRS := hide hrS; clear hrS
                    go_wp2_with fail
                    refine HNUS.out.mono ?_; rintro e wSa ⟨rfl, hbS⟩
                    have HDSa := hide (HWBD.out.below hbS.out)
                    clear x0 x1 x2 x3 x4 zx0 zx1 zx2 zx3 zx4 y0 y1 zy0 zy1
                    have x0 := cell_blk HDSa.out.h6 0
                    have x1 := cell_blk HDSa.out.h6 1
                    have x2 := cell_blk HDSa.out.h6 2
                    have x3 := cell_blk HDSa.out.h6 3
                    have x4 := cell_blk HDSa.out.h6 4
                    simp at x0 x1 x2 x3 x4
                    have zx0 := frozen_blk HDSa.out.h6 0
                    have zx1 := frozen_blk HDSa.out.h6 1
                    have zx2 := frozen_blk HDSa.out.h6 2
                    have zx3 := frozen_blk HDSa.out.h6 3
                    have zx4 := frozen_blk HDSa.out.h6 4
                    have y0 := cell_blk HDSa.out.h7 0
                    have y1 := cell_blk HDSa.out.h7 1
                    simp at y0 y1
                    have zy0 := frozen_blk HDSa.out.h7 0
                    have zy1 := frozen_blk HDSa.out.h7 1
                    have HDS := hide ((HDSa.out.put6.2.1 qS).put7 atS eS)
                    generalize hwS : ((wSa.setCell ⟨b + 2, 1, none⟩ (.int .u64 (qS : Int))).setCell ⟨b + 3, 0, none⟩ (.int .i64 (atS : Int))).setCell ⟨b + 3, 1, none⟩ (.int .i64 (eS : Int)) = wS at HDS
                    have HWS := hide hwS; clear hwS
                    go_upto_region 54 with fail
                    rw [HWS.out]
                    clear x0 x1 x2 x3 x4 zx0 zx1 zx2 zx3 zx4 y0 y1 zy0 zy1
                    have x0 := cell_blk HDS.out.h6 0
                    have x1 := cell_blk HDS.out.h6 1
                    have x2 := cell_blk HDS.out.h6 2
                    have x3 := cell_blk HDS.out.h6 3
                    have x4 := cell_blk HDS.out.h6 4
                    simp at x0 x1 x2 x3 x4
                    have zx0 := frozen_blk HDS.out.h6 0
                    have zx1 := frozen_blk HDS.out.h6 1
                    have zx2 := frozen_blk HDS.out.h6 2
                    have zx3 := frozen_blk HDS.out.h6 3
                    have zx4 := frozen_blk HDS.out.h6 4
                    have y0 := cell_blk HDS.out.h7 0
                    have y1 := cell_blk HDS.out.h7 1
                    simp at y0 y1
                    have zy0 := frozen_blk HDS.out.h7 0
                    have zy1 := frozen_blk HDS.out.h7 1
                    obtain ⟨qP, atP, eP, hrP⟩ : ∃ q0 at2 q2, refNumR bs atS eS 64 = (q0, at2, q2) := ⟨_, _, _, rfl⟩
                    have hrlP := refNumR_le bs atS eS 64 (by omega)
                    rw [hrP] at hrlP
                    simp only at hrlP
                    obtain ⟨hlP, huP⟩ := hrlP
                    have HNUP := hide (refNumber_any (some ad) c Bk bs atS eS 64 wS (hide (hb.out.below (HDS.out.bel.mono (by rw [← HBB.out]; exact hB)))) (by have := HDS.out.size; have := HBB.out; omega) hl (by omega) hcm _ (hide hrP))
                    have HRP := hide hrP; clear hrP
                    go_wp2_with fail
                    refine HNUP.out.mono ?_; rintro e wPa ⟨rfl, hbP⟩
                    have HDPa := hide (HDS.out.below hbP.out)
                    clear x0 x1 x2 x3 x4 zx0 zx1 zx2 zx3 zx4 y0 y1 zy0 zy1
                    have x0 := cell_blk HDPa.out.h6 0
                    have x1 := cell_blk HDPa.out.h6 1
                    have x2 := cell_blk HDPa.out.h6 2
                    have x3 := cell_blk HDPa.out.h6 3
                    have x4 := cell_blk HDPa.out.h6 4
                    simp at x0 x1 x2 x3 x4
                    have zx0 := frozen_blk HDPa.out.h6 0
                    have zx1 := frozen_blk HDPa.out.h6 1
                    have zx2 := frozen_blk HDPa.out.h6 2
                    have zx3 := frozen_blk HDPa.out.h6 3
                    have zx4 := frozen_blk HDPa.out.h6 4
                    have y0 := cell_blk HDPa.out.h7 0
                    have y1 := cell_blk HDPa.out.h7 1
                    simp at y0 y1
                    have zy0 := frozen_blk HDPa.out.h7 0
                    have zy1 := frozen_blk HDPa.out.h7 1
                    have HDP := hide ((HDPa.out.put6.2.2.1 qP).put7 atP eP)
                    go_wp2_with fail
                    go_meet
                    rw [numR_mem hf]
                    exact D1.memo HDP.out HRA.out HRS.out HRP.out HM.out HAL.out hal31 (by omega) huP
              · have hm0 : m = 0 := by omega
                subst hm0
                clear hm1 hm2
                have HM := hide hm; clear hm
                by_cases hbig : 31 < qA
                · have heA : eA = 0 := by
                    apply Decidable.byContradiction
                    intro x
                    have := (refNumR_err HRA.out x).1
                    omega
                  subst heA
                  have HBIG := hide hbig; have fb : decide ((31 : Int) < (qA : Int)) = true := by simp; omega
                  clear hbig
                  obtain ⟨WE, hWE, hOE, hE4, hE5⟩ := HDA.out.err (.int .i64 0) (.int .u64 0) (.int .u64 0) (.int .i64 0) (.slice none 0 0) (at0 : Int) (4 : Int)
                  have HWE := hide hWE; have HOE := hide hOE; have HE4 := hide hE4; have HE5 := hide hE5
                  clear hWE hOE hE4 hE5
                  have x40 := cell_blk HDA.out.h4 0
                  have x41 := cell_blk HDA.out.h4 1
                  have x42 := cell_blk HDA.out.h4 2
                  have x43 := cell_blk HDA.out.h4 3
                  have x44 := cell_blk HDA.out.h4 4
                  have x50 := cell_blk HDA.out.h5 0
                  have x51 := cell_blk HDA.out.h5 1
                  simp at x40 x41 x42 x43 x44 x50 x51
                  have z40 := frozen_blk HDA.out.h4 0
                  have z41 := frozen_blk HDA.out.h4 1
                  have z42 := frozen_blk HDA.out.h4 2
                  have z43 := frozen_blk HDA.out.h4 3
                  have z44 := frozen_blk HDA.out.h4 4
                  have z50 := frozen_blk HDA.out.h5 0
                  have z51 := frozen_blk HDA.out.h5 1
                  go_wp2_with fail
                  rw [HWE.out]
                  clear x0 x1 x2 x3 x4 zx0 zx1 zx2 zx3 zx4 y0 y1 zy0 zy1 x40 x41 x42 x43 x44 x50 x51 z40 z41 z42 z43 z44 z50 z51
                  have x40 := cell_blk HE4.out 0
                  have x41 := cell_blk HE4.out 1
                  have x42 := cell_blk HE4.out 2
                  have x43 := cell_blk HE4.out 3
                  have x44 := cell_blk HE4.out 4
                  have x50 := cell_blk HE5.out 0
                  have x51 := cell_blk HE5.out 1
                  simp at x40 x41 x42 x43 x44 x50 x51
                  refine bodyPost_ret (v := .tuple #[.agg #[.int .i64 0, .int .u64 0, .int .u64 0, .int .i64 0, .slice none 0 0], .agg #[.int .i64 (at0 : Int), .int .i64 4]]) (by simp [results, Tryz.results28, go_sem, x40, x41, x42, x43, x44, x50, x51]) rfl ?_
                  exact HDA.out.fin_err HBB.out HOE.out _ at0 at0 4 (by omega) (by refine decodeR_num HCL.out HK.out ?_ (by omega); rw [HDROP.out, numR_mem hf]; exact (mem_bad HRA.out (by have := HM.out; omega) HBIG.out).symm)
                · have hal31 : qA ≤ 31 := by omega
                  have fb : decide ((31 : Int) < (qA : Int)) = false := by simp; omega
                  clear hbig
                  have HWBD := hide (HDA.out.put6.2.2.2 qA)
                  generalize hwb : wA.setCell ⟨b + 2, 3, none⟩ (.int .i64 (qA : Int)) = wb at HWBD
                  have HWB := hide hwb; clear hwb
                  by_cases heA : eA = 0
                  · subst heA
                    as_aux_lemma =>
                      go_upto_region 54 with fail
                      rw [HWB.out]
                      clear x0 x1 x2 x3 x4 zx0 zx1 zx2 zx3 zx4 y0 y1 zy0 zy1
                      have x0 := cell_blk HWBD.out.h6 0
                      have x1 := cell_blk HWBD.out.h6 1
                      have x2 := cell_blk HWBD.out.h6 2
                      have x3 := cell_blk HWBD.out.h6 3
                      have x4 := cell_blk HWBD.out.h6 4
                      simp at x0 x1 x2 x3 x4
                      have zx0 := frozen_blk HWBD.out.h6 0
                      have zx1 := frozen_blk HWBD.out.h6 1
                      have zx2 := frozen_blk HWBD.out.h6 2
                      have zx3 := frozen_blk HWBD.out.h6 3
                      have zx4 := frozen_blk HWBD.out.h6 4
                      have y0 := cell_blk HWBD.out.h7 0
                      have y1 := cell_blk HWBD.out.h7 1
                      simp at y0 y1
                      have zy0 := frozen_blk HWBD.out.h7 0
                      have zy1 := frozen_blk HWBD.out.h7 1
                      obtain ⟨qP, atP, eP, hrP⟩ : ∃ q0 at2 q2, refNumR bs atA 0 64 = (q0, at2, q2) := ⟨_, _, _, rfl⟩
                      have hrlP := refNumR_le bs atA 0 64 (by omega)
                      rw [hrP] at hrlP
                      simp only at hrlP
                      obtain ⟨hlP, huP⟩ := hrlP
                      have HNUP := hide (refNumber_any (some ad) c Bk bs atA 0 64 wb (hide (hb.out.below (HWBD.out.bel.mono (by rw [← HBB.out]; exact hB)))) (by have := HWBD.out.size; have := HBB.out; omega) hl (by omega) hcm _ (hide hrP))
                      have HRP := hide hrP; clear hrP
                      go_wp2_with fail
                      refine HNUP.out.mono ?_; rintro e wPa ⟨rfl, hbP⟩
                      have HDPa := hide (HWBD.out.below hbP.out)
                      clear x0 x1 x2 x3 x4 zx0 zx1 zx2 zx3 zx4 y0 y1 zy0 zy1
                      have x0 := cell_blk HDPa.out.h6 0
                      have x1 := cell_blk HDPa.out.h6 1
                      have x2 := cell_blk HDPa.out.h6 2
                      have x3 := cell_blk HDPa.out.h6 3
                      have x4 := cell_blk HDPa.out.h6 4
                      simp at x0 x1 x2 x3 x4
                      have zx0 := frozen_blk HDPa.out.h6 0
                      have zx1 := frozen_blk HDPa.out.h6 1
                      have zx2 := frozen_blk HDPa.out.h6 2
                      have zx3 := frozen_blk HDPa.out.h6 3
                      have zx4 := frozen_blk HDPa.out.h6 4
                      have y0 := cell_blk HDPa.out.h7 0
                      have y1 := cell_blk HDPa.out.h7 1
                      simp at y0 y1
                      have zy0 := frozen_blk HDPa.out.h7 0
                      have zy1 := frozen_blk HDPa.out.h7 1
                      have HDP := hide ((HDPa.out.put6.2.2.1 qP).put7 atP eP)
                      go_wp2_with fail
                      go_meet
                      rw [numR_mem hf]
                      exact D1.memz HDP.out HRA.out HRP.out HM.out hal31 (by omega) huP
                  · have feA : ((eA : Int) == 0) = false := by simp; omega
                    have HEA := hide heA; clear heA
                    as_aux_lemma =>
                      go_upto_region 54 with fail
                      rw [HWB.out]
                      clear x0 x1 x2 x3 x4 zx0 zx1 zx2 zx3 zx4 y0 y1 zy0 zy1
                      have x0 := cell_blk HWBD.out.h6 0
                      have x1 := cell_blk HWBD.out.h6 1
                      have x2 := cell_blk HWBD.out.h6 2
                      have x3 := cell_blk HWBD.out.h6 3
                      have x4 := cell_blk HWBD.out.h6 4
                      simp at x0 x1 x2 x3 x4
                      have zx0 := frozen_blk HWBD.out.h6 0
                      have zx1 := frozen_blk HWBD.out.h6 1
                      have zx2 := frozen_blk HWBD.out.h6 2
                      have zx3 := frozen_blk HWBD.out.h6 3
                      have zx4 := frozen_blk HWBD.out.h6 4
                      have y0 := cell_blk HWBD.out.h7 0
                      have y1 := cell_blk HWBD.out.h7 1
                      simp at y0 y1
                      have zy0 := frozen_blk HWBD.out.h7 0
                      have zy1 := frozen_blk HWBD.out.h7 1
                      obtain ⟨qP, atP, eP, hrP⟩ : ∃ q0 at2 q2, refNumR bs atA eA 64 = (q0, at2, q2) := ⟨_, _, _, rfl⟩
                      have hrlP := refNumR_le bs atA eA 64 (by omega)
                      rw [hrP] at hrlP
                      simp only at hrlP
                      obtain ⟨hlP, huP⟩ := hrlP
                      have HNUP := hide (refNumber_any (some ad) c Bk bs atA eA 64 wb (hide (hb.out.below (HWBD.out.bel.mono (by rw [← HBB.out]; exact hB)))) (by have := HWBD.out.size; have := HBB.out; omega) hl (by omega) hcm _ (hide hrP))
                      have HRP := hide hrP; clear hrP
                      go_wp2_with fail
                      refine HNUP.out.mono ?_; rintro e wPa ⟨rfl, hbP⟩
                      have HDPa := hide (HWBD.out.below hbP.out)
                      clear x0 x1 x2 x3 x4 zx0 zx1 zx2 zx3 zx4 y0 y1 zy0 zy1
                      have x0 := cell_blk HDPa.out.h6 0
                      have x1 := cell_blk HDPa.out.h6 1
                      have x2 := cell_blk HDPa.out.h6 2
                      have x3 := cell_blk HDPa.out.h6 3
                      have x4 := cell_blk HDPa.out.h6 4
                      simp at x0 x1 x2 x3 x4
                      have zx0 := frozen_blk HDPa.out.h6 0
                      have zx1 := frozen_blk HDPa.out.h6 1
                      have zx2 := frozen_blk HDPa.out.h6 2
                      have zx3 := frozen_blk HDPa.out.h6 3
                      have zx4 := frozen_blk HDPa.out.h6 4
                      have y0 := cell_blk HDPa.out.h7 0
                      have y1 := cell_blk HDPa.out.h7 1
                      simp at y0 y1
                      have zy0 := frozen_blk HDPa.out.h7 0
                      have zy1 := frozen_blk HDPa.out.h7 1
                      have HDP := hide ((HDPa.out.put6.2.2.1 qP).put7 atP eP)
                      go_wp2_with fail
                      go_meet
                      rw [numR_mem hf]
                      exact D1.memz HDP.out HRA.out HRP.out HM.out hal31 (by omega) huP
          · all_goals
              by_cases h66 : code = 66
              · have f66 : ((code : Int) == 66) = true := by simp; omega
                have hd66 : decide (code = 66) = true := by simpa using h66
                obtain ⟨v, s, e, hq⟩ : ∃ v s e, signedL (bs.drop at1) (if code = 66 then 64 else 32) = (v, s, e) := ⟨_, _, _, rfl⟩
                have hqs : refSignedL (bs.drop at1) 64 = (v, s, e) := by rw [← signed_law, ← hq, if_pos h66]
                have hcs := signed_cases (bs.drop at1) (if code = 66 then 64 else 32)
                rw [hq, List.length_drop] at hcs
                simp only at hcs
                have hs400 : s ≤ 400 := by omega
                have hatn : at1 + s ≤ bs.length := by omega
                obtain ⟨at2, hat2⟩ : ∃ a, at1 + s = a := ⟨_, rfl⟩
                have hat2n : at2 ≤ bs.length := by omega
                have H2 : Hid ((at1 : Int) + (s : Int) = (at2 : Int)) := by show _ = _; omega
                have HA : Hid (IntKind.u64.wrap v = (wordN (decide (code = 66)) v : Int)) := by show _ = _; rw [hd66, IntKind.wrap_u64]; unfold wordN; simp only [if_true]; omega
                obtain ⟨a, ha⟩ : ∃ a, wordN (decide (code = 66)) v = a := ⟨_, rfl⟩
                rw [ha] at HA
                have hab : a ≤ 18446744073709551615 := by rw [← ha]; exact wordN_lt _ _
                have HT := hide ha
                clear ha
                have HQ := hide hq; have HQS := hide hqs; have HAT := hide hat2
                clear hq hqs hcs hd66 h66 hat2
                have hcap := hb.out.cap
                have hcm2 := hcm
                unfold maxLen at hcm2
                have hrd := (hb.out.below (HD.out.bel.mono (by rw [← HBB.out]; exact hB))).at_ at1 hat1n (by have := HD.out.size; have := HBB.out; omega)
                by_cases hc : c = at1
                · as_aux_lemma =>
                    subst hc
                    have hbs : bs.length = c := by omega
                    have hd : bs.drop c = [] := List.drop_of_length_le (by omega)
                    have HU := hide (refSigned_any (some ad) 0 [] 64 w2 ⟨by simp, fun h => absurd h (by simp)⟩ (by simp) v s e (by have := HQS; rw [hd] at this; exact this))
                    simp only [List.length_nil] at HU
                    have HBS := hide hbs
                    clear hrd hd hbs
                    go_wp2_with fail
                    refine HU.out.mono ?_; rintro en wS ⟨rfl, hbS⟩
                    have HDSa := hide (HD.out.below hbS)
                    have HBS2 := hide hbS
                    clear hbS x0 x1 x2 x3 x4 zx0 zx1 zx2 zx3 zx4 y0 y1 zy0 zy1
                    have x0 := cell_blk HDSa.out.h6 0
                    have x1 := cell_blk HDSa.out.h6 1
                    have x2 := cell_blk HDSa.out.h6 2
                    have x3 := cell_blk HDSa.out.h6 3
                    have x4 := cell_blk HDSa.out.h6 4
                    simp at x0 x1 x2 x3 x4
                    have zx0 := frozen_blk HDSa.out.h6 0
                    have zx1 := frozen_blk HDSa.out.h6 1
                    have zx2 := frozen_blk HDSa.out.h6 2
                    have zx3 := frozen_blk HDSa.out.h6 3
                    have zx4 := frozen_blk HDSa.out.h6 4
                    have y0 := cell_blk HDSa.out.h7 0
                    have y1 := cell_blk HDSa.out.h7 1
                    simp at y0 y1
                    have zy0 := frozen_blk HDSa.out.h7 0
                    have zy1 := frozen_blk HDSa.out.h7 1
                    have HXD := hide ((HDSa.out.put7 at2 e).put6.2.1 a)
                    generalize hx : ((wS.setCell ⟨b + 3, 0, none⟩ (.int .i64 (at2 : Int))).setCell ⟨b + 3, 1, none⟩ (.int .i64 (e : Int))).setCell ⟨b + 2, 1, none⟩ (.int .u64 (a : Int)) = wX at HXD
                    have HX := hide hx; clear hx
                    go_upto_region 62 with fail
                    rw [H2.out, HA.out, HX.out]
                    clear x0 x1 x2 x3 x4 zx0 zx1 zx2 zx3 zx4 y0 y1 zy0 zy1
                    have x0 := cell_blk HXD.out.h6 0
                    have x1 := cell_blk HXD.out.h6 1
                    have x2 := cell_blk HXD.out.h6 2
                    have x3 := cell_blk HXD.out.h6 3
                    have x4 := cell_blk HXD.out.h6 4
                    simp at x0 x1 x2 x3 x4
                    have zx0 := frozen_blk HXD.out.h6 0
                    have zx1 := frozen_blk HXD.out.h6 1
                    have zx2 := frozen_blk HXD.out.h6 2
                    have zx3 := frozen_blk HXD.out.h6 3
                    have zx4 := frozen_blk HXD.out.h6 4
                    have y0 := cell_blk HXD.out.h7 0
                    have y1 := cell_blk HXD.out.h7 1
                    simp at y0 y1
                    have zy0 := frozen_blk HXD.out.h7 0
                    have zy1 := frozen_blk HXD.out.h7 1
                    go_wp2_with fail
                    go_meet
                    rw [numR_const hf]
                    exact D1.const HXD.out HAT.out HQ.out (fun _ => HT.out.symm) hatn
                · as_aux_lemma =>
                    rw [if_neg hc] at hrd
                    have hll : (bs.drop at1).length = bs.length - at1 := by simp
                    have HU := hide (refSigned_any ((some ad).map (·.add at1)) (c - at1) (bs.drop at1) 64 w2 (by rw [hll]; exact hrd) (by rw [hll]; omega) v s e HQS)
                    rw [hll] at HU
                    simp only [Option.map_some] at HU
                    clear hll hrd
                    go_wp2_with fail
                    refine HU.out.mono ?_; rintro en wS ⟨rfl, hbS⟩
                    have HDSa := hide (HD.out.below hbS)
                    have HBS2 := hide hbS
                    clear hbS x0 x1 x2 x3 x4 zx0 zx1 zx2 zx3 zx4 y0 y1 zy0 zy1
                    have x0 := cell_blk HDSa.out.h6 0
                    have x1 := cell_blk HDSa.out.h6 1
                    have x2 := cell_blk HDSa.out.h6 2
                    have x3 := cell_blk HDSa.out.h6 3
                    have x4 := cell_blk HDSa.out.h6 4
                    simp at x0 x1 x2 x3 x4
                    have zx0 := frozen_blk HDSa.out.h6 0
                    have zx1 := frozen_blk HDSa.out.h6 1
                    have zx2 := frozen_blk HDSa.out.h6 2
                    have zx3 := frozen_blk HDSa.out.h6 3
                    have zx4 := frozen_blk HDSa.out.h6 4
                    have y0 := cell_blk HDSa.out.h7 0
                    have y1 := cell_blk HDSa.out.h7 1
                    simp at y0 y1
                    have zy0 := frozen_blk HDSa.out.h7 0
                    have zy1 := frozen_blk HDSa.out.h7 1
                    have HXD := hide ((HDSa.out.put7 at2 e).put6.2.1 a)
                    generalize hx : ((wS.setCell ⟨b + 3, 0, none⟩ (.int .i64 (at2 : Int))).setCell ⟨b + 3, 1, none⟩ (.int .i64 (e : Int))).setCell ⟨b + 2, 1, none⟩ (.int .u64 (a : Int)) = wX at HXD
                    have HX := hide hx; clear hx
                    go_upto_region 62 with fail
                    rw [H2.out, HA.out, HX.out]
                    clear x0 x1 x2 x3 x4 zx0 zx1 zx2 zx3 zx4 y0 y1 zy0 zy1
                    have x0 := cell_blk HXD.out.h6 0
                    have x1 := cell_blk HXD.out.h6 1
                    have x2 := cell_blk HXD.out.h6 2
                    have x3 := cell_blk HXD.out.h6 3
                    have x4 := cell_blk HXD.out.h6 4
                    simp at x0 x1 x2 x3 x4
                    have zx0 := frozen_blk HXD.out.h6 0
                    have zx1 := frozen_blk HXD.out.h6 1
                    have zx2 := frozen_blk HXD.out.h6 2
                    have zx3 := frozen_blk HXD.out.h6 3
                    have zx4 := frozen_blk HXD.out.h6 4
                    have y0 := cell_blk HXD.out.h7 0
                    have y1 := cell_blk HXD.out.h7 1
                    simp at y0 y1
                    have zy0 := frozen_blk HXD.out.h7 0
                    have zy1 := frozen_blk HXD.out.h7 1
                    go_wp2_with fail
                    go_meet
                    rw [numR_const hf]
                    exact D1.const HXD.out HAT.out HQ.out (fun _ => HT.out.symm) hatn
              · have f66 : ((code : Int) == 66) = false := by simp; omega
                have hd66 : decide (code = 66) = false := by simpa using h66
                obtain ⟨v, s, e, hq⟩ : ∃ v s e, signedL (bs.drop at1) (if code = 66 then 64 else 32) = (v, s, e) := ⟨_, _, _, rfl⟩
                have hqs : refSignedL (bs.drop at1) 32 = (v, s, e) := by rw [← signed_law, ← hq, if_neg h66]
                have hcs := signed_cases (bs.drop at1) (if code = 66 then 64 else 32)
                rw [hq, List.length_drop] at hcs
                simp only at hcs
                have hs400 : s ≤ 400 := by omega
                have hatn : at1 + s ≤ bs.length := by omega
                obtain ⟨at2, hat2⟩ : ∃ a, at1 + s = a := ⟨_, rfl⟩
                have hat2n : at2 ≤ bs.length := by omega
                have H2 : Hid ((at1 : Int) + (s : Int) = (at2 : Int)) := by show _ = _; omega
                obtain ⟨a, ha⟩ : ∃ a : Nat, IntKind.u64.wrap v = a := ⟨(v % 18446744073709551616).toNat, by rw [IntKind.wrap_u64]; omega⟩
                have hab : a ≤ 18446744073709551615 := by have := ha; rw [IntKind.wrap_u64] at this; omega
                have hw : (a : Int) % 4294967296 = (wordN (decide (code = 66)) v : Int) := by rw [hd66, ← ha, IntKind.wrap_u64]; unfold wordN; simp only [Bool.false_eq_true, if_false]; omega
                obtain ⟨t, ht⟩ : ∃ a, wordN (decide (code = 66)) v = a := ⟨_, rfl⟩
                rw [ht] at hw
                have HREM := hide hw; have HT := hide ht; have HA := hide ha
                clear hw ht ha
                have HQ := hide hq; have HQS := hide hqs; have HAT := hide hat2
                clear hq hqs hcs hd66 h66 hat2
                have hcap := hb.out.cap
                have hcm2 := hcm
                unfold maxLen at hcm2
                have hrd := (hb.out.below (HD.out.bel.mono (by rw [← HBB.out]; exact hB))).at_ at1 hat1n (by have := HD.out.size; have := HBB.out; omega)
                by_cases hc : c = at1
                · as_aux_lemma =>
                    subst hc
                    have hbs : bs.length = c := by omega
                    have hd : bs.drop c = [] := List.drop_of_length_le (by omega)
                    have HU := hide (refSigned_any (some ad) 0 [] 32 w2 ⟨by simp, fun h => absurd h (by simp)⟩ (by simp) v s e (by have := HQS; rw [hd] at this; exact this))
                    simp only [List.length_nil] at HU
                    have HBS := hide hbs
                    clear hrd hd hbs
                    go_wp2_with fail
                    refine HU.out.mono ?_; rintro en wS ⟨rfl, hbS⟩
                    have HDSa := hide (HD.out.below hbS)
                    have HBS2 := hide hbS
                    clear hbS x0 x1 x2 x3 x4 zx0 zx1 zx2 zx3 zx4 y0 y1 zy0 zy1
                    have x0 := cell_blk HDSa.out.h6 0
                    have x1 := cell_blk HDSa.out.h6 1
                    have x2 := cell_blk HDSa.out.h6 2
                    have x3 := cell_blk HDSa.out.h6 3
                    have x4 := cell_blk HDSa.out.h6 4
                    simp at x0 x1 x2 x3 x4
                    have zx0 := frozen_blk HDSa.out.h6 0
                    have zx1 := frozen_blk HDSa.out.h6 1
                    have zx2 := frozen_blk HDSa.out.h6 2
                    have zx3 := frozen_blk HDSa.out.h6 3
                    have zx4 := frozen_blk HDSa.out.h6 4
                    have y0 := cell_blk HDSa.out.h7 0
                    have y1 := cell_blk HDSa.out.h7 1
                    simp at y0 y1
                    have zy0 := frozen_blk HDSa.out.h7 0
                    have zy1 := frozen_blk HDSa.out.h7 1
                    have HXD := hide ((HDSa.out.put7 at2 e).put6.2.1 a)
                    generalize hx : ((wS.setCell ⟨b + 3, 0, none⟩ (.int .i64 (at2 : Int))).setCell ⟨b + 3, 1, none⟩ (.int .i64 (e : Int))).setCell ⟨b + 2, 1, none⟩ (.int .u64 (a : Int)) = wX at HXD
                    have HX := hide hx; clear hx
                    go_upto_region 62 with fail
                    rw [H2.out, HA.out, HX.out]
                    clear x0 x1 x2 x3 x4 zx0 zx1 zx2 zx3 zx4 y0 y1 zy0 zy1
                    have x0 := cell_blk HXD.out.h6 0
                    have x1 := cell_blk HXD.out.h6 1
                    have x2 := cell_blk HXD.out.h6 2
                    have x3 := cell_blk HXD.out.h6 3
                    have x4 := cell_blk HXD.out.h6 4
                    simp at x0 x1 x2 x3 x4
                    have zx0 := frozen_blk HXD.out.h6 0
                    have zx1 := frozen_blk HXD.out.h6 1
                    have zx2 := frozen_blk HXD.out.h6 2
                    have zx3 := frozen_blk HXD.out.h6 3
                    have zx4 := frozen_blk HXD.out.h6 4
                    have y0 := cell_blk HXD.out.h7 0
                    have y1 := cell_blk HXD.out.h7 1
                    simp at y0 y1
                    have zy0 := frozen_blk HXD.out.h7 0
                    have zy1 := frozen_blk HXD.out.h7 1
                    have HYD := hide (HXD.out.put6.2.1 t)
                    go_wp2_with fail
                    go_meet
                    rw [numR_const hf]
                    rw [HREM.out]
                    exact D1.const HYD.out HAT.out HQ.out (fun _ => HT.out.symm) hatn
                · as_aux_lemma =>
                    rw [if_neg hc] at hrd
                    have hll : (bs.drop at1).length = bs.length - at1 := by simp
                    have HU := hide (refSigned_any ((some ad).map (·.add at1)) (c - at1) (bs.drop at1) 32 w2 (by rw [hll]; exact hrd) (by rw [hll]; omega) v s e HQS)
                    rw [hll] at HU
                    simp only [Option.map_some] at HU
                    clear hll hrd
                    go_wp2_with fail
                    refine HU.out.mono ?_; rintro en wS ⟨rfl, hbS⟩
                    have HDSa := hide (HD.out.below hbS)
                    have HBS2 := hide hbS
                    clear hbS x0 x1 x2 x3 x4 zx0 zx1 zx2 zx3 zx4 y0 y1 zy0 zy1
                    have x0 := cell_blk HDSa.out.h6 0
                    have x1 := cell_blk HDSa.out.h6 1
                    have x2 := cell_blk HDSa.out.h6 2
                    have x3 := cell_blk HDSa.out.h6 3
                    have x4 := cell_blk HDSa.out.h6 4
                    simp at x0 x1 x2 x3 x4
                    have zx0 := frozen_blk HDSa.out.h6 0
                    have zx1 := frozen_blk HDSa.out.h6 1
                    have zx2 := frozen_blk HDSa.out.h6 2
                    have zx3 := frozen_blk HDSa.out.h6 3
                    have zx4 := frozen_blk HDSa.out.h6 4
                    have y0 := cell_blk HDSa.out.h7 0
                    have y1 := cell_blk HDSa.out.h7 1
                    simp at y0 y1
                    have zy0 := frozen_blk HDSa.out.h7 0
                    have zy1 := frozen_blk HDSa.out.h7 1
                    have HXD := hide ((HDSa.out.put7 at2 e).put6.2.1 a)
                    generalize hx : ((wS.setCell ⟨b + 3, 0, none⟩ (.int .i64 (at2 : Int))).setCell ⟨b + 3, 1, none⟩ (.int .i64 (e : Int))).setCell ⟨b + 2, 1, none⟩ (.int .u64 (a : Int)) = wX at HXD
                    have HX := hide hx; clear hx
                    go_upto_region 62 with fail
                    rw [H2.out, HA.out, HX.out]
                    clear x0 x1 x2 x3 x4 zx0 zx1 zx2 zx3 zx4 y0 y1 zy0 zy1
                    have x0 := cell_blk HXD.out.h6 0
                    have x1 := cell_blk HXD.out.h6 1
                    have x2 := cell_blk HXD.out.h6 2
                    have x3 := cell_blk HXD.out.h6 3
                    have x4 := cell_blk HXD.out.h6 4
                    simp at x0 x1 x2 x3 x4
                    have zx0 := frozen_blk HXD.out.h6 0
                    have zx1 := frozen_blk HXD.out.h6 1
                    have zx2 := frozen_blk HXD.out.h6 2
                    have zx3 := frozen_blk HXD.out.h6 3
                    have zx4 := frozen_blk HXD.out.h6 4
                    have y0 := cell_blk HXD.out.h7 0
                    have y1 := cell_blk HXD.out.h7 1
                    simp at y0 y1
                    have zy0 := frozen_blk HXD.out.h7 0
                    have zy1 := frozen_blk HXD.out.h7 1
                    have HYD := hide (HXD.out.put6.2.1 t)
                    go_wp2_with fail
                    go_meet
                    rw [numR_const hf]
                    rw [HREM.out]
                    exact D1.const HYD.out HAT.out HQ.out (fun _ => HT.out.symm) hatn
          · rcases hh with rfl | rfl | rfl | rfl | rfl
            all_goals as_aux_lemma =>
              obtain ⟨qA, atA, eA, hrA⟩ : ∃ q0 at2 q2, refNumR bs at1 0 32 = (q0, at2, q2) := ⟨_, _, _, rfl⟩
              have hrlA := refNumR_le bs at1 0 32 (by omega)
              rw [hrA] at hrlA
              simp only at hrlA
              obtain ⟨hlA, huA⟩ := hrlA
              have HNUA := hide (refNumber_any (some ad) c Bk bs at1 0 32 w2 (hide (hb.out.below (HD.out.bel.mono (by rw [← HBB.out]; exact hB)))) (by have := HD.out.size; have := HBB.out; omega) hl (by omega) hcm _ (hide hrA))
              have HRA := hide hrA; clear hrA
              go_wp2_with fail
              refine HNUA.out.mono ?_; rintro e wAa ⟨rfl, hbA⟩
              have HDAa := hide (HD.out.below hbA.out)
              clear x0 x1 x2 x3 x4 zx0 zx1 zx2 zx3 zx4 y0 y1 zy0 zy1
              have x0 := cell_blk HDAa.out.h6 0
              have x1 := cell_blk HDAa.out.h6 1
              have x2 := cell_blk HDAa.out.h6 2
              have x3 := cell_blk HDAa.out.h6 3
              have x4 := cell_blk HDAa.out.h6 4
              simp at x0 x1 x2 x3 x4
              have zx0 := frozen_blk HDAa.out.h6 0
              have zx1 := frozen_blk HDAa.out.h6 1
              have zx2 := frozen_blk HDAa.out.h6 2
              have zx3 := frozen_blk HDAa.out.h6 3
              have zx4 := frozen_blk HDAa.out.h6 4
              have y0 := cell_blk HDAa.out.h7 0
              have y1 := cell_blk HDAa.out.h7 1
              simp at y0 y1
              have zy0 := frozen_blk HDAa.out.h7 0
              have zy1 := frozen_blk HDAa.out.h7 1
              have HDA := hide ((HDAa.out.put6.2.1 qA).put7 atA eA)
              go_wp2_with fail
              go_meet
              rw [numR_one (by omega)]
              exact D1.one HDA.out HRA.out hlA huA
          · rcases hh with rfl | rfl
            all_goals as_aux_lemma =>
              obtain ⟨qA, atA, eA, hrA⟩ : ∃ q0 at2 q2, refNumR bs at1 0 32 = (q0, at2, q2) := ⟨_, _, _, rfl⟩
              have hrlA := refNumR_le bs at1 0 32 (by omega)
              rw [hrA] at hrlA
              simp only at hrlA
              obtain ⟨hlA, huA⟩ := hrlA
              have HNUA := hide (refNumber_any (some ad) c Bk bs at1 0 32 w2 (hide (hb.out.below (HD.out.bel.mono (by rw [← HBB.out]; exact hB)))) (by have := HD.out.size; have := HBB.out; omega) hl (by omega) hcm _ (hide hrA))
              have HRA := hide hrA; clear hrA
              go_wp2_with fail
              refine HNUA.out.mono ?_; rintro e wAa ⟨rfl, hbA⟩
              have HDAa := hide (HD.out.below hbA.out)
              clear x0 x1 x2 x3 x4 zx0 zx1 zx2 zx3 zx4 y0 y1 zy0 zy1
              have x0 := cell_blk HDAa.out.h6 0
              have x1 := cell_blk HDAa.out.h6 1
              have x2 := cell_blk HDAa.out.h6 2
              have x3 := cell_blk HDAa.out.h6 3
              have x4 := cell_blk HDAa.out.h6 4
              simp at x0 x1 x2 x3 x4
              have zx0 := frozen_blk HDAa.out.h6 0
              have zx1 := frozen_blk HDAa.out.h6 1
              have zx2 := frozen_blk HDAa.out.h6 2
              have zx3 := frozen_blk HDAa.out.h6 3
              have zx4 := frozen_blk HDAa.out.h6 4
              have y0 := cell_blk HDAa.out.h7 0
              have y1 := cell_blk HDAa.out.h7 1
              simp at y0 y1
              have zy0 := frozen_blk HDAa.out.h7 0
              have zy1 := frozen_blk HDAa.out.h7 1
              have HDA := hide ((HDAa.out.put6.2.1 qA).put7 atA eA)
              generalize hwA : ((wAa.setCell ⟨b + 2, 1, none⟩ (.int .u64 (qA : Int))).setCell ⟨b + 3, 0, none⟩ (.int .i64 (atA : Int))).setCell ⟨b + 3, 1, none⟩ (.int .i64 (eA : Int)) = wA at HDA
              have HWA := hide hwA; clear hwA
              go_upto_region 43 with fail
              rw [HWA.out]
              clear x0 x1 x2 x3 x4 zx0 zx1 zx2 zx3 zx4 y0 y1 zy0 zy1
              have x0 := cell_blk HDA.out.h6 0
              have x1 := cell_blk HDA.out.h6 1
              have x2 := cell_blk HDA.out.h6 2
              have x3 := cell_blk HDA.out.h6 3
              have x4 := cell_blk HDA.out.h6 4
              simp at x0 x1 x2 x3 x4
              have zx0 := frozen_blk HDA.out.h6 0
              have zx1 := frozen_blk HDA.out.h6 1
              have zx2 := frozen_blk HDA.out.h6 2
              have zx3 := frozen_blk HDA.out.h6 3
              have zx4 := frozen_blk HDA.out.h6 4
              have y0 := cell_blk HDA.out.h7 0
              have y1 := cell_blk HDA.out.h7 1
              simp at y0 y1
              have zy0 := frozen_blk HDA.out.h7 0
              have zy1 := frozen_blk HDA.out.h7 1
              obtain ⟨qP, atP, eP, hrP⟩ : ∃ q0 at2 q2, refNumR bs atA eA 32 = (q0, at2, q2) := ⟨_, _, _, rfl⟩
              have hrlP := refNumR_le bs atA eA 32 (by omega)
              rw [hrP] at hrlP
              simp only at hrlP
              obtain ⟨hlP, huP⟩ := hrlP
              have HNUP := hide (refNumber_any (some ad) c Bk bs atA eA 32 wA (hide (hb.out.below (HDA.out.bel.mono (by rw [← HBB.out]; exact hB)))) (by have := HDA.out.size; have := HBB.out; omega) hl (by omega) hcm _ (hide hrP))
              have HRP := hide hrP; clear hrP
              go_wp2_with fail
              refine HNUP.out.mono ?_; rintro e wPa ⟨rfl, hbP⟩
              have HDPa := hide (HDA.out.below hbP.out)
              clear x0 x1 x2 x3 x4 zx0 zx1 zx2 zx3 zx4 y0 y1 zy0 zy1
              have x0 := cell_blk HDPa.out.h6 0
              have x1 := cell_blk HDPa.out.h6 1
              have x2 := cell_blk HDPa.out.h6 2
              have x3 := cell_blk HDPa.out.h6 3
              have x4 := cell_blk HDPa.out.h6 4
              simp at x0 x1 x2 x3 x4
              have zx0 := frozen_blk HDPa.out.h6 0
              have zx1 := frozen_blk HDPa.out.h6 1
              have zx2 := frozen_blk HDPa.out.h6 2
              have zx3 := frozen_blk HDPa.out.h6 3
              have zx4 := frozen_blk HDPa.out.h6 4
              have y0 := cell_blk HDPa.out.h7 0
              have y1 := cell_blk HDPa.out.h7 1
              simp at y0 y1
              have zy0 := frozen_blk HDPa.out.h7 0
              have zy1 := frozen_blk HDPa.out.h7 1
              have HDP := hide ((HDPa.out.put6.2.2.1 qP).put7 atP eP)
              go_wp2_with fail
              go_meet
              rw [numR_two (by omega)]
              exact D1.two HDP.out HRA.out HRP.out (by omega) huP
        case rest =>
          obtain ⟨a, bb, al, Al, cl, xs, at2, e2, HE, hq1, hq2, HFIN⟩ := hcut.out
          clear hcut
          have x0 := cell_blk HE.out.h6 0
          have x1 := cell_blk HE.out.h6 1
          have x2 := cell_blk HE.out.h6 2
          have x3 := cell_blk HE.out.h6 3
          have x4 := cell_blk HE.out.h6 4
          simp at x0 x1 x2 x3 x4
          have zx0 := frozen_blk HE.out.h6 0
          have zx1 := frozen_blk HE.out.h6 1
          have zx2 := frozen_blk HE.out.h6 2
          have zx3 := frozen_blk HE.out.h6 3
          have zx4 := frozen_blk HE.out.h6 4
          have y0 := cell_blk HE.out.h7 0
          have y1 := cell_blk HE.out.h7 1
          simp at y0 y1
          have zy0 := frozen_blk HE.out.h7 0
          have zy1 := frozen_blk HE.out.h7 1
          by_cases he : e2 = 0
          · subst he
            have HF0 := hide (fin0 HFIN.out)
            clear HFIN
            obtain ⟨WE, hWE, hOE, hE4, hE5⟩ := HE.out.err (.int .i64 (code : Int)) (.int .u64 (a : Int)) (.int .u64 (bb : Int)) (.int .i64 (al : Int)) (.slice Al xs.length cl) (at2 : Int) 0
            have HWE := hide hWE; have HOE := hide hOE; have HE4 := hide hE4; have HE5 := hide hE5
            clear hWE hOE hE4 hE5
            have x40 := cell_blk HE.out.h4 0
            have x41 := cell_blk HE.out.h4 1
            have x42 := cell_blk HE.out.h4 2
            have x43 := cell_blk HE.out.h4 3
            have x44 := cell_blk HE.out.h4 4
            have x50 := cell_blk HE.out.h5 0
            have x51 := cell_blk HE.out.h5 1
            simp at x40 x41 x42 x43 x44 x50 x51
            have z40 := frozen_blk HE.out.h4 0
            have z41 := frozen_blk HE.out.h4 1
            have z42 := frozen_blk HE.out.h4 2
            have z43 := frozen_blk HE.out.h4 3
            have z44 := frozen_blk HE.out.h4 4
            have z50 := frozen_blk HE.out.h5 0
            have z51 := frozen_blk HE.out.h5 1
            go_upto_region 66 with fail
            go_region
            rw [HWE.out]
            clear x40 x41 x42 x43 x44 x50 x51 z40 z41 z42 z43 z44 z50 z51 x0 x1 x2 x3 x4 zx0 zx1 zx2 zx3 zx4 y0 y1 zy0 zy1
            have x40 := cell_blk HE4.out 0
            have x41 := cell_blk HE4.out 1
            have x42 := cell_blk HE4.out 2
            have x43 := cell_blk HE4.out 3
            have x44 := cell_blk HE4.out 4
            have x50 := cell_blk HE5.out 0
            have x51 := cell_blk HE5.out 1
            simp at x40 x41 x42 x43 x44 x50 x51
            go_wp2_with fail
            refine bodyPost_ret (v := .tuple #[.agg #[.int .i64 (code : Int), .int .u64 (a : Int), .int .u64 (bb : Int), .int .i64 (al : Int), .slice Al xs.length cl], .agg #[.int .i64 (at2 : Int), .int .i64 0]]) (by simp [results, Tryz.results28, go_sem, x40, x41, x42, x43, x44, x50, x51]) rfl ?_
            exact HE.out.fin_ok HBB.out (HOE.out.trans (Only.drew _ _)) HCL.out HK.out HDROP.out (by omega) HF0.out
          · have fe : ((e2 : Int) != 0) = true := by simp; omega
            have HNE := hide he; clear he
            obtain ⟨WE, hWE, hOE, hE4, hE5⟩ := HE.out.err (.int .i64 0) (.int .u64 0) (.int .u64 0) (.int .i64 0) (.slice none 0 0) (at0 : Int) (e2 : Int)
            have HWE := hide hWE; have HOE := hide hOE; have HE4 := hide hE4; have HE5 := hide hE5
            clear hWE hOE hE4 hE5
            have x40 := cell_blk HE.out.h4 0
            have x41 := cell_blk HE.out.h4 1
            have x42 := cell_blk HE.out.h4 2
            have x43 := cell_blk HE.out.h4 3
            have x44 := cell_blk HE.out.h4 4
            have x50 := cell_blk HE.out.h5 0
            have x51 := cell_blk HE.out.h5 1
            simp at x40 x41 x42 x43 x44 x50 x51
            have z40 := frozen_blk HE.out.h4 0
            have z41 := frozen_blk HE.out.h4 1
            have z42 := frozen_blk HE.out.h4 2
            have z43 := frozen_blk HE.out.h4 3
            have z44 := frozen_blk HE.out.h4 4
            have z50 := frozen_blk HE.out.h5 0
            have z51 := frozen_blk HE.out.h5 1
            have y0 := cell_blk HE.out.h7 0
            have y1 := cell_blk HE.out.h7 1
            simp at y0 y1
            go_upto_region 65 with fail
            go_region
            rw [HWE.out]
            clear x40 x41 x42 x43 x44 x50 x51 z40 z41 z42 z43 z44 z50 z51 y0 y1
            have x40 := cell_blk HE4.out 0
            have x41 := cell_blk HE4.out 1
            have x42 := cell_blk HE4.out 2
            have x43 := cell_blk HE4.out 3
            have x44 := cell_blk HE4.out 4
            have x50 := cell_blk HE5.out 0
            have x51 := cell_blk HE5.out 1
            simp at x40 x41 x42 x43 x44 x50 x51
            go_wp2_with fail
            refine bodyPost_ret (v := .tuple #[.agg #[.int .i64 0, .int .u64 0, .int .u64 0, .int .i64 0, .slice none 0 0], .agg #[.int .i64 (at0 : Int), .int .i64 (e2 : Int)]]) (by simp [results, Tryz.results28, go_sem, x40, x41, x42, x43, x44, x50, x51]) rfl ?_
            exact HE.out.fin_err HBB.out (HOE.out.trans (Only.drew _ _)) _ at0 at0 e2 (HNE.out) (by exact decodeR_num HCL.out HK.out (by rw [HDROP.out]; rcases HFIN.out with ⟨h, _⟩ | ⟨_, h⟩; exact absurd h HNE.out; exact h) HNE.out)
end Go.Proofs.YtpanlhbdphobdaaGreatDoor
