/-
  Law 11: InstrDecodes: the walk. (Written by wip/gen-insp.py.)
  InstrDecodes: for every input.
-/
import Derived.Test.YtpanlhbdphobdaaGreatDoorDeBR
import Derived.Test.YtpanlhbdphobdaaGreatDoorDeBS
import Derived.Test.YtpanlhbdphobdaaGreatDoorDeAU
import Derived.Test.YtpanlhbdphobdaaGreatDoorDeBU
namespace Go.Proofs.YtpanlhbdphobdaaGreatDoor
open Go.RowKit
set_option linter.unusedVariables false

theorem decodes_many (A : Option Addr) (c : Nat) (bs : List UInt8) (a : Int) (w : World) (ht : Hid (LaidI w)) (hl : 300 < bs.length) (hm : bs.length ≤ 9223372036854775807) :
    Calls Tryz.prog 7 #[.slice A bs.length c, .int .i64 a] w fun e w' => e = .returned (.bool true) ∧ Hid (Below w.heap.size w w') := by
  have HA := hide (awake11 w ht)
  go_enter Tryz.func7, Tryz.ntmps7
  go_wp2_with fail
  refine HA.out.mono ?_; rintro e w1 ⟨rfl, h1⟩
  go_wp2_with fail
  go_ret
  exact ⟨rfl, h1⟩

set_option maxRecDepth 100000 in
set_option maxHeartbeats 6400000 in
theorem decodes_few (A : Option Addr) (c : Nat) (bs : List UInt8) (a : Int) (w : World) (ht : Hid (LaidI w)) (hr : Hid (Reads w w.heap.size 1 A bs.length (bs.map B))) (hc : bs.length ≤ c) (hm : Hid (c ≤ maxLen)) (hl : bs.length ≤ 300) (ha1 : -9223372036854775808 ≤ a) (ha2 : a ≤ 9223372036854775807) :
    Calls Tryz.prog 7 #[.slice A bs.length c, .int .i64 a] w fun e w' => e = .returned (.bool true) ∧ Hid (Below w.heap.size w w') := by
  obtain ⟨k, hk⟩ : ∃ k : Nat, min (max a 0) (bs.length : Int) = (k : Int) := ⟨(min (max a 0) (bs.length : Int)).toNat, by omega⟩
  have hkl : k ≤ bs.length := by omega
  have HA := hide (awake11 w ht)
  go_enter Tryz.func7, Tryz.ntmps7
  go_wp2_with fail
  refine HA.out.mono ?_; rintro e w1 ⟨rfl, h1⟩
  have HN := hide (new_any A c w.heap.size bs w1 (hide (hr.out.below h1.out)) (by omega))
  go_wp2_with fail
  refine HN.out.mono ?_; rintro e w2 ⟨f, Af, cf, rfl, hfl, hF, h2⟩
  have HC := hide (cursor_any f cf Af bs 0 (-1) 0 (bs.length : Int) w2 hF (by omega) (by omega) (by omega))
  clear HA HN
  go_wp2_with fail
  refine HC.out.mono ?_; rintro e w3 ⟨g, rfl, hg, hCU, h3⟩
  have hF3 := hide (hF.out.below h3.out (blk_lt hF.out.blk))
  have HG := hide (go_ok g f 0 (bs.length : Int) 0 (k : Int) w3 hCU (by omega) (by omega))
  clear HC
  go_wp2_with fail
  refine HG.out.mono ?_; rintro e w4 ⟨rfl, hC4, hO4⟩
  have hfg := hC4.out.lt
  have hF4 := hide (hF3.out.keep hO4.out (by simp <;> omega) (by simp <;> omega))
  have HD := hide (decode_step g f cf Af bs 0 (-1) 0 (bs.length : Int) (k : Int) w4 hF4 hC4 (by omega) (by omega) (by omega) (by omega) (by omega) (by omega) (by omega))
  have hpart : partB bs (k : Int) ((bs.length : Int) - (k : Int)) = bs.drop k := by
    unfold partB
    rw [Int.toNat_natCast]
    exact List.take_of_length_le (by rw [List.length_drop]; omega)
  rw [hpart] at HD
  have h4 : Hid (Below w.heap.size w w4) := by
    have e1 := h1.out.trans (h2.out.mono h1.out.size)
    have e2 := e1.trans (h3.out.mono e1.size)
    have := h1.out.size
    exact e2.trans (hO4.out.below e2.size (by simp; have := h2.out.size; omega))
  have hg4 : g < w4.heap.size := blk_lt hC4.out.blk
  have hfw : w.heap.size ≤ f := Nat.le_trans h1.out.size hfl
  clear HG hpart hF hCU hF3 h1 h2 h3 hO4
  go_wp2_with fail
  refine HD.out.mono ?_; rintro e w5 ⟨⟨code, xa, xb, al, Al, cl, xs, r', at', e', rfl, F5, C5, O5, own5, hr1, hr2, hat1, hat2, hxl, hcode, HOK⟩⟩
  obtain ⟨W5, hW5⟩ : ∃ W5, w5.alloc (.cells #[.int .i64 (code : Int), .int .u64 (xa : Int), .int .u64 (xb : Int), .int .i64 (al : Int), .slice Al xs.length cl] 28) = W5 := ⟨_, rfl⟩
  obtain ⟨gi, hgi⟩ : ∃ gi, w5.heap.size = gi := ⟨_, rfl⟩
  have hbi : Below gi w5 W5 := by rw [← hW5, ← hgi]; exact (Below.refl _ _).alloc (Nat.le_refl _) _
  have hxi : Hid (W5.heap[gi]? = some (.cells #[.int .i64 (code : Int), .int .u64 (xa : Int), .int .u64 (xb : Int), .int .i64 (al : Int), .slice Al xs.length cl] 28 (0, 0))) := by show _ = _; rw [← hW5, ← hgi]; exact heap_alloc_new w5 _
  have hs5 := O5.out.size
  have h5 : Hid (Below w.heap.size w W5) := by
    have := h4.out.size
    exact (h4.out.trans (O5.out.below this (by simp; omega))).trans (hbi.mono (by omega))
  have F6 := hide (F5.out.below hbi (by omega))
  have C6 := hide (C5.out.below hbi (by omega))
  have own6 := hide (own_only3 (S := []) own5.out (Only.of_below (by rw [hgi]; exact hbi)) (by simp))
  have hgiW : gi < W5.heap.size := blk_lt hxi.out
  have HW5 := hide hW5; have HGI := hide hgi
  have hRD : Hid (Calls Tryz.prog 28 #[.slice A bs.length c, .int .i64 (k : Int)] W5 (RDec W5 k (decodeR (bs.drop k)))) := by
    rcases Nat.lt_or_ge k bs.length with hlt | hge
    · exact refDecode_any A c w.heap.size bs k W5 (hide ⟨hr.out.below h5.out, hc⟩) h5.out.size (by omega) hlt hm.out
    · have : k = bs.length := by omega
      subst this
      rw [List.drop_length]
      exact refDecode_end A bs.length c W5 (by omega)
  have HRT := hide (decode_right (bs.drop k) (fun c => by have := refForm_bd (c : Int); omega))
  clear HD own5 hW5 hgi hbi F5 C5
  generalize decodeR (bs.drop k) = res at hRD HRT HOK
  go_upto_region 8 with fail
  rw [HW5.out, HGI.out]
  go_wp2_with fail
  refine hRD.out.mono ?_; rintro e w6 ⟨⟨rc, ra, rb, ral, Ar, cr, ys, rat, re, rfl, own7, h6, hre, hres⟩⟩
  subst hre
  obtain ⟨W7, hW7⟩ : ∃ W7, (w6.alloc (.cells #[.int .i64 (rc : Int), .int .u64 (ra : Int), .int .u64 (rb : Int), .int .i64 (ral : Int), .slice Ar ys.length cr] 25)).alloc (.cells #[.int .i64 (rat : Int), .int .i64 (res.2.e : Int)] 55) = W7 := ⟨_, rfl⟩
  obtain ⟨gr, hgr⟩ : ∃ gr, w6.heap.size = gr := ⟨_, rfl⟩
  have hb7 : Below gr w6 W7 := by rw [← hW7, ← hgr]; exact ((Below.refl _ _).alloc (Nat.le_refl _) _).alloc (by simp) _
  have hxr : W7.heap[gr]? = some (.cells #[.int .i64 (rc : Int), .int .u64 (ra : Int), .int .u64 (rb : Int), .int .i64 (ral : Int), .slice Ar ys.length cr] 25 (0, 0)) := by rw [← hW7, ← hgr, Below.heap_alloc _ _ _ (by simp)]; exact heap_alloc_new w6 _
  have hxh : W7.heap[gr + 1]? = some (.cells #[.int .i64 (rat : Int), .int .i64 (res.2.e : Int)] 55 (0, 0)) := by
    rw [← hW7, ← hgr]
    have := heap_alloc_new (w6.alloc (.cells #[.int .i64 (rc : Int), .int .u64 (ra : Int), .int .u64 (rb : Int), .int .i64 (ral : Int), .slice Ar ys.length cr] 25)) (.cells #[.int .i64 (rat : Int), .int .i64 (res.2.e : Int)] 55)
    simpa using this
  have hs6 : W5.heap.size ≤ gr := by rw [← hgr]; exact h6.out.size
  have hgg : g < gi := by have := HGI.out; omega
  have hb57 : Below W5.heap.size W5 W7 := h6.out.trans (hb7.mono hs6)
  have C7 := hide (C6.out.below hb57 (by omega))
  have HXI := hide ((hb57.block gi hgiW).trans hxi.out)
  have RA : Hid (Reads W7 W7.heap.size 1 Al xs.length (xs.map U)) := ((Reads.of_own own6.out).below hb57).more hb57.size
  have RB : Hid (Reads W7 W7.heap.size 1 Ar ys.length (ys.map U)) := ((Reads.of_own own7.out).below (by rw [hgr]; exact hb7)).more (by rw [hgr]; exact Nat.le_of_lt (blk_lt hxr))
  have HXR := hide hxr; have HXH := hide hxh
  have hsz7 : gr + 1 < W7.heap.size := blk_lt hxh
  have HLT : Hid (g < W7.heap.size ∧ gi < W7.heap.size ∧ gr < W7.heap.size ∧ gr + 1 < W7.heap.size) := by
    have := hb57.size
    exact ⟨by omega, by omega, by omega, by omega⟩
  have h7 : Hid (Below w.heap.size w W7) := h5.out.trans (hb57.mono h5.out.size)
  have HW7 := hide hW7; have HGR := hide hgr
  have e0 := cell_blk HXH.out 0
  have e1 := cell_blk HXH.out 1
  simp at e0 e1
  clear hW7 hgr hb7 hxr hxh hs6 hb57 own6 own7 hRD hxi h6 hr hm ht O5 HW5 HGI h4 h5 F6 C6 hF4 hC4 hsz7 hgiW hs5
  go_upto_region 9 with fail
  rw [HW7.out, HGR.out]
  by_cases hz : res.2.e = 0
  · obtain ⟨q1, q2, q3, q4, q5, q6, q7, q8⟩ : e' = 0 ∧ res.2.e = 0 ∧ at' = (k : Int) + res.2.k ∧ code = res.1 ∧ xa = res.2.a ∧ xb = res.2.b ∧ al = res.2.al ∧ xs = res.2.l := by
      rcases HOK.out with h | ⟨_, _, _, _, _, _, _, h | h⟩
      · exact h
      · exact absurd hz h.1
      · omega
    obtain ⟨p3, p4, p5, p6, p7, p8⟩ := hres.out hz
    obtain ⟨hright, hnum⟩ := HRT.out hz
    rw [← q4, ← q5, ← q6, ← q7, ← q8] at hright
    have HIN : Hid (XI.In ⟨(code : Int), xa, xb, (al : Int), xs⟩) := ⟨by show -9223372036854775808 ≤ (code : Int); omega, by show (code : Int) ≤ _; omega, by show xa < _; rw [q5]; exact hnum.a, by show xb < _; rw [q6]; exact hnum.b, by show -9223372036854775808 ≤ (al : Int); omega, by show (al : Int) ≤ _; have := hnum.al; omega, by show ∀ n ∈ xs, _; rw [q8]; exact hnum.l⟩
    have HRIGHT := hide hright
    have u1 : code = rc := q4.trans p4.symm
    have u2 : xa = ra := q5.trans p5.symm
    have u3 : xb = rb := q6.trans p6.symm
    have u4 : al = ral := q7.trans p7.symm
    have u5 : xs = ys := q8.trans p8.symm
    have u6 : at' = (rat : Int) := by omega
    clear p3 p4 p5 p6 p7 p8 q3 q4 q5 q6 q7 q8 hright hnum HRT hres HOK hat1 hat2
    subst u1 u2 u3 u4 u5 u6 q1
    have HSM : Hid (xs.length ≤ 1000000) := by show xs.length ≤ 1000000; omega
    have e2 : W7.cell? ⟨gr + 1, 1, none⟩ = some (.int .i64 0) := by simpa [hz] using e1
    clear e1
    go_upto_region 11 with fail
    refine wp_region_factsR grew_ext (factsOf [fun yy _ => yy = .int .i64 0,
      fun yy _ => yy = .bool true,
      fun yy _ => yy = .bool true,
      fun yy _ => yy = .agg #[.int .i64 (code : Int), .int .u64 (xa : Int), .int .u64 (xb : Int), .int .i64 (al : Int), .slice Al xs.length cl],
      fun yy _ => yy = .agg #[.int .i64 (code : Int), .int .u64 (xa : Int), .int .u64 (xb : Int), .int .i64 (al : Int), .slice Al xs.length cl],
      fun yy _ => yy = .agg #[.int .i64 (code : Int), .int .u64 (xa : Int), .int .u64 (xb : Int), .int .i64 (al : Int), .slice Ar xs.length cr],
      fun yy _ => yy = .bool true,
      fun yy _ => yy = .bool true,
      fun yy _ => yy = .bool true,
      fun yy _ => yy = .pointer (some ⟨g, 0, none⟩),
      fun yy _ => yy = .int .i64 (rat : Int),
      fun yy _ => yy = .pointer (some ⟨gr + 1, 0, none⟩),
      fun yy _ => yy = .int .i64 (rat : Int),
      fun yy _ => yy = .bool true,
      fun yy _ => yy = .bool true,
      fun yy _ => yy = .bool true,
      fun yy _ => yy = .agg #[.int .i64 (code : Int), .int .u64 (xa : Int), .int .u64 (xb : Int), .int .i64 (al : Int), .slice Al xs.length cl],
      fun yy _ => yy = .bool true,
      fun yy _ => yy = .bool true,
      fun yy _ => yy = .bool true]) (by kernel_rfl) (by kernel_rfl) ?_ ?_
    · refine ⟨?_, ?_, ?_, ?_, ?_, ?_, ?_, ?_, ?_, ?_, ?_, ?_, ?_, ?_, ?_, ?_, ?_, ?_, ?_, ?_, trivial⟩
      · refine ⟨fun ρ W3 hk => ?_⟩
        have o11 : ρ (.tmp 11) = .int .i64 0 := hk.old 11 (by decide)
        exact OpOut.move (.tmp 11) rfl ⟨Below.refl _ _, o11⟩
      · refine ⟨fun ρ W3 hk => ?_⟩
        have h0 := (hk.fact 0 71 (by decide) rfl).pure
        exact OpOut.bin (x := .tmp 71) (y := .const (.int .i64 0)) (v := .bool true) rfl (by rw [h0, hk.const]; go_simp) (by rw [h0, hk.const]; go_simp) ⟨Below.refl _ _, rfl⟩
      · refine ⟨fun ρ W3 hk => ?_⟩
        have h1 := (hk.fact 1 72 (by decide) rfl).pure
        exact OpOut.move (.tmp 72) rfl ⟨Below.refl _ _, h1⟩
      · refine ⟨fun ρ W3 hk => ?_⟩
        have o10 : ρ (.tmp 10) = .pointer (some ⟨gi, 0, none⟩) := hk.old 10 (by decide)
        have h2 := (hk.fact 2 73 (by decide) rfl).pure
        refine ⟨73, rfl, .inl ⟨true, h2, fun _ => ?_, fun h => absurd rfl h⟩⟩
        have hv : XV W3 gi ⟨(code : Int), xa, xb, (al : Int), xs⟩ Al cl := ⟨(hk.below.block gi HLT.out.2.1).trans HXI.out⟩
        exact OpOut.load (x := .tmp 10) rfl o10 (run_loadXV hv) ⟨Below.refl _ _, rfl⟩
      · refine ⟨fun ρ W3 hk => ?_⟩
        have h3 := (hk.fact 3 74 (by decide) rfl).pure
        have h2 := (hk.fact 2 73 (by decide) rfl).pure
        refine ⟨73, rfl, .inl ⟨true, h2, fun _ => ?_, fun h => absurd rfl h⟩⟩
        refine OpOut.fn (args := #[.agg #[.int .i64 (code : Int), .int .u64 (xa : Int), .int .u64 (xb : Int), .int .i64 (al : Int), .slice Al xs.length cl]]) rfl (hk.func _) (by simp [h3]) Tryz.func15 (by kernel_rfl) rfl ?_
        refine (ofX_any ⟨(code : Int), xa, xb, (al : Int), xs⟩ Al cl W3).mono ?_; rintro e w5 ⟨rfl, hb5⟩
        exact ⟨_, rfl, hb5.out, rfl⟩
      · refine ⟨fun ρ W3 hk => ?_⟩
        have o12 : ρ (.tmp 12) = .pointer (some ⟨gr, 0, none⟩) := hk.old 12 (by decide)
        have h2 := (hk.fact 2 73 (by decide) rfl).pure
        refine ⟨73, rfl, .inl ⟨true, h2, fun _ => ?_, fun h => absurd rfl h⟩⟩
        have hv : RXV W3 gr ⟨(code : Int), xa, xb, (al : Int), xs⟩ Ar cr := ⟨(hk.below.block gr HLT.out.2.2.1).trans HXR.out⟩
        exact OpOut.load (x := .tmp 12) rfl o12 (run_loadX hv) ⟨Below.refl _ _, rfl⟩
      · refine ⟨fun ρ W3 hk => ?_⟩
        have h4 := (hk.fact 4 75 (by decide) rfl).pure
        have h5 := (hk.fact 5 76 (by decide) rfl).pure
        have h2 := (hk.fact 2 73 (by decide) rfl).pure
        refine ⟨73, rfl, .inl ⟨true, h2, fun _ => ?_, fun h => absurd rfl h⟩⟩
        refine OpOut.fn (args := #[.agg #[.int .i64 (code : Int), .int .u64 (xa : Int), .int .u64 (xb : Int), .int .i64 (al : Int), .slice Al xs.length cl], .agg #[.int .i64 (code : Int), .int .u64 (xa : Int), .int .u64 (xb : Int), .int .i64 (al : Int), .slice Ar xs.length cr]]) rfl (hk.func _) (by simp [h4, h5]) Tryz.func14 (by kernel_rfl) rfl ?_
        refine (rsame2_any ⟨(code : Int), xa, xb, (al : Int), xs⟩ ⟨(code : Int), xa, xb, (al : Int), xs⟩ Al Ar cl cr W3 (hide ((RA.out.below hk.below).more hk.below.size)) (hide ((RB.out.below hk.below).more hk.below.size)) HSM.out HSM.out).mono ?_; rintro e w5 ⟨rfl, hb5⟩
        exact ⟨_, rfl, hb5.out, congrArg Value.bool (sameX_refl _)⟩
      · refine ⟨fun ρ W3 hk => ?_⟩
        have h2 := (hk.fact 2 73 (by decide) rfl).pure
        have h6 := (hk.fact 6 77 (by decide) rfl).pure
        exact OpOut.pick (c := .tmp 73) (b := true) rfl h2 ⟨Below.refl _ _, h6⟩
      · refine ⟨fun ρ W3 hk => ?_⟩
        have h7 := (hk.fact 7 78 (by decide) rfl).pure
        exact OpOut.move (.tmp 78) rfl ⟨Below.refl _ _, h7⟩
      · refine ⟨fun ρ W3 hk => ?_⟩
        have o8 : ρ (.tmp 8) = .pointer (some ⟨g, 0, none⟩) := hk.old 8 (by decide)
        have h8 := (hk.fact 8 79 (by decide) rfl).pure
        refine ⟨79, rfl, .inl ⟨true, h8, fun _ => ?_, fun h => absurd rfl h⟩⟩
        exact OpOut.move (.tmp 8) rfl ⟨Below.refl _ _, o8⟩
      · refine ⟨fun ρ W3 hk => ?_⟩
        have h9 := (hk.fact 9 80 (by decide) rfl).pure
        have h8 := (hk.fact 8 79 (by decide) rfl).pure
        refine ⟨79, rfl, .inl ⟨true, h8, fun _ => ?_, fun h => absurd rfl h⟩⟩
        refine OpOut.fn (args := #[.pointer (some ⟨g, 0, none⟩)]) rfl (hk.func _) (by simp [h9]) Tryz.func21 (by kernel_rfl) rfl ?_
        refine (at_any g f 0 (bs.length : Int) (rat : Int) W3 (hide (C7.out.below hk.below HLT.out.1))).mono ?_; rintro e w5 ⟨rfl, rfl⟩
        exact ⟨_, rfl, Below.refl _ _, rfl⟩
      · refine ⟨fun ρ W3 hk => ?_⟩
        have o13 : ρ (.tmp 13) = .pointer (some ⟨gr + 1, 0, none⟩) := hk.old 13 (by decide)
        have h8 := (hk.fact 8 79 (by decide) rfl).pure
        refine ⟨79, rfl, .inl ⟨true, h8, fun _ => ?_, fun h => absurd rfl h⟩⟩
        exact OpOut.fieldAddr (x := .tmp 13) rfl o13 (by go_simp) ⟨Below.refl _ _, rfl⟩
      · refine ⟨fun ρ W3 hk => ?_⟩
        have h11 := (hk.fact 11 82 (by decide) rfl).pure
        have h8 := (hk.fact 8 79 (by decide) rfl).pure
        refine ⟨79, rfl, .inl ⟨true, h8, fun _ => ?_, fun h => absurd rfl h⟩⟩
        have hc := (show W3.cell? ⟨gr + 1, 0, none⟩ = some (.int .i64 (rat : Int)) from cell_blk ((hk.below.block (gr + 1) HLT.out.2.2.2).trans HXH.out) 0)
        exact OpOut.load (x := .tmp 82) rfl h11 (by go_simp) ⟨Below.refl _ _, rfl⟩
      · refine ⟨fun ρ W3 hk => ?_⟩
        have h10 := (hk.fact 10 81 (by decide) rfl).pure
        have h12 := (hk.fact 12 83 (by decide) rfl).pure
        have h8 := (hk.fact 8 79 (by decide) rfl).pure
        refine ⟨79, rfl, .inl ⟨true, h8, fun _ => ?_, fun h => absurd rfl h⟩⟩
        exact OpOut.bin (x := .tmp 81) (y := .tmp 83) (v := .bool true) rfl (by rw [h10, h12]; go_simp) (by rw [h10, h12]; go_simp) ⟨Below.refl _ _, rfl⟩
      · refine ⟨fun ρ W3 hk => ?_⟩
        have h8 := (hk.fact 8 79 (by decide) rfl).pure
        have h13 := (hk.fact 13 84 (by decide) rfl).pure
        exact OpOut.pick (c := .tmp 79) (b := true) rfl h8 ⟨Below.refl _ _, h13⟩
      · refine ⟨fun ρ W3 hk => ?_⟩
        have h14 := (hk.fact 14 85 (by decide) rfl).pure
        exact OpOut.move (.tmp 85) rfl ⟨Below.refl _ _, h14⟩
      · refine ⟨fun ρ W3 hk => ?_⟩
        have o10 : ρ (.tmp 10) = .pointer (some ⟨gi, 0, none⟩) := hk.old 10 (by decide)
        have h15 := (hk.fact 15 86 (by decide) rfl).pure
        refine ⟨86, rfl, .inl ⟨true, h15, fun _ => ?_, fun h => absurd rfl h⟩⟩
        have hv : XV W3 gi ⟨(code : Int), xa, xb, (al : Int), xs⟩ Al cl := ⟨(hk.below.block gi HLT.out.2.1).trans HXI.out⟩
        exact OpOut.load (x := .tmp 10) rfl o10 (run_loadXV hv) ⟨Below.refl _ _, rfl⟩
      · refine ⟨fun ρ W3 hk => ?_⟩
        have h16 := (hk.fact 16 87 (by decide) rfl).pure
        have h15 := (hk.fact 15 86 (by decide) rfl).pure
        refine ⟨86, rfl, .inl ⟨true, h15, fun _ => ?_, fun h => absurd rfl h⟩⟩
        refine OpOut.fn (args := #[.agg #[.int .i64 (code : Int), .int .u64 (xa : Int), .int .u64 (xb : Int), .int .i64 (al : Int), .slice Al xs.length cl]]) rfl (hk.func _) (by simp [h16]) Tryz.func24 (by kernel_rfl) rfl ?_
        refine (insRight_any ⟨(code : Int), xa, xb, (al : Int), xs⟩ Al cl W3 HIN (hide ((RA.out.below hk.below).more hk.below.size)) HSM.out).mono ?_; rintro e w5 ⟨rfl, hb5⟩
        exact ⟨_, rfl, hb5.out, congrArg Value.bool HRIGHT.out⟩
      · refine ⟨fun ρ W3 hk => ?_⟩
        have h15 := (hk.fact 15 86 (by decide) rfl).pure
        have h17 := (hk.fact 17 88 (by decide) rfl).pure
        exact OpOut.pick (c := .tmp 86) (b := true) rfl h15 ⟨Below.refl _ _, h17⟩
      · refine ⟨fun ρ W3 hk => ?_⟩
        have h18 := (hk.fact 18 89 (by decide) rfl).pure
        exact OpOut.assign (.tmp 89) rfl ⟨Below.refl _ _, h18⟩
    intro vs w10 hb hf
    have h19 := (hf 19 (by decide)).pure
    clear hf
    simp only [fillL]
    go_frame
    rw [h19]
    have h10 := hide hb
    clear hb
    go_wp2_with fail
    go_ret
    exact ⟨rfl, h7.out.trans (h10.out.mono h7.out.size)⟩
  · obtain ⟨q1, q3, q4, q5, q6, q7, q8, q9⟩ : e' ≠ 0 ∧ at' = (k : Int) ∧ code = 0 ∧ xa = 0 ∧ xb = 0 ∧ al = 0 ∧ xs = [] ∧ e' = (res.2.e : Int) := by
      rcases HOK.out with h | ⟨a1, a2, a3, a4, a5, a6, a7, h | h⟩
      · exact absurd h.2.1 hz
      · exact ⟨a1, a2, a3, a4, a5, a6, a7, h.2⟩
      · omega
    have fz : ((res.2.e : Int) != 0) = true := by simp; omega
    subst q9 q4 q5 q6 q7 q8 q3
    clear q1 HRT hres HOK hat1 hat2 hz
    have HAT := hide (at_any g f 0 (bs.length : Int) (k : Int) W7 C7)
    have HSA := hide (isame2_any ⟨0, 0, 0, 0, []⟩ ⟨0, 0, 0, 0, []⟩ Al none cl 0 W7 RA (hide Reads.none_) (by simp) (by simp))
    have i0 := cell_blk HXI.out 0
    have i1 := cell_blk HXI.out 1
    have i2 := cell_blk HXI.out 2
    have i3 := cell_blk HXI.out 3
    have i4 := cell_blk HXI.out 4
    simp at i0 i1 i2 i3 i4
    go_wp2_with fail
    refine HAT.out.mono ?_; rintro e w' ⟨rfl, rfl⟩
    go_wp2_with fail
    refine HSA.out.mono ?_; rintro e w8 ⟨rfl, h8⟩
    clear i0 i1 i2 i3 i4 e0 e1
    go_wp2_with fail
    go_ret
    exact ⟨rfl, h7.out.trans (h8.out.mono h7.out.size)⟩
end Go.Proofs.YtpanlhbdphobdaaGreatDoor

namespace Go.Proofs.YtpanlhbdphobdaaGreatDoor
open Go.RowKit
set_option linter.unusedVariables false

theorem InstrDecodes_walk (A : Option Addr) (cap : Nat) (bs : List UInt8) (n : Int) (w : World) (hr : Reads w w.heap.size 1 A bs.length (bs.map B)) (hc : bs.length ≤ cap) (hm : cap ≤ maxLen) (hn : (Lit.int .i64 n).wf = true) (hP : LaidLF w) :
    Calls Tryz.prog 7 #[.slice A bs.length cap, .int .i64 n] w fun e w' => e = .returned (.bool true) ∧ Below w.heap.size w w' := by
  have h := wfI hn
  by_cases hl : bs.length ≤ 300
  · exact decodes_few A cap bs n w (hide hP.i) (hide hr) hc (hide hm) hl h.1 h.2
  · exact decodes_many A cap bs n w (hide hP.i) (by omega) (by unfold maxLen at hm; omega)
end Go.Proofs.YtpanlhbdphobdaaGreatDoor
