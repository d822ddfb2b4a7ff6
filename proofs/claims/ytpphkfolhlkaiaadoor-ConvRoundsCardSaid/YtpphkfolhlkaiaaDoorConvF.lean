/-
  ConvBytes: the law's walk.
-/
import Derived.Test.YtpphkfolhlkaiaaDoorConvD
import Derived.Test.YtpphkfolhlkaiaaDoorConvE
import Derived.Test.YtpphkfolhlkaiaaDoorWords
import Derived.Deep.DeepCutAuto
import Derived.Deep.CutRange
namespace Go.Proofs.YtpphkfolhlkaiaaDoor
open Go.RowKit
set_option linter.unusedVariables false

/-- what Bytes answers -/
def BytesR (w : World) (a : Nat) (n : Int) (p e : Value) (w' : World) : Prop :=
  (∃ (m A c : _), n = ((m : Nat) : Int) ∧ m ≤ 8 ∧ countedN n ∧ p = .slice A m c ∧ e = .int .i64 0 ∧ Hid (Reads w' w'.heap.size 1 A m ((bytesN a m).map B)) ∧ Below w.heap.size w w') ∨ (¬ countedN n ∧ p = .slice none 0 0 ∧ e = .int .i64 1 ∧ w = w')

set_option maxHeartbeats 1600000 in
set_option maxRecDepth 100000 in
theorem convBytes_in (a : Nat) (n : Int) (A : Option Addr) (cap : Nat) (bs : List UInt8) (tt : Int) (sg : Bool) (w : World) (ha : a ≤ 18446744073709551615) (hr : Hid (Reads w w.heap.size 1 A bs.length (bs.map B))) (h20 : bs.length ≤ 20) (ht : Hid (Tab w)) :
    Calls Tryd.prog 4 #[.int .u64 a, .int .i64 n, .slice A bs.length cap, .int .i64 tt, .bool sg] w fun e w' => e = .returned (.bool true) ∧ Below w.heap.size w w' := by
  obtain ⟨k, hk⟩ : ∃ k, bs.length = k := ⟨_, rfl⟩
  rw [hk] at hr h20 ⊢
  have HK := hide hk; clear hk
  go_enter Tryd.func4, Tryd.ntmps4
  go_upto_region 3 with fail
  go_cut [11, 12] (fun p e wx => BytesR w a n p e wx)
  case first =>
    by_cases hc : countedN n
    · obtain ⟨m, rfl⟩ : ∃ m : Nat, n = m := ⟨n.toNat, by unfold countedN at hc; omega⟩
      have H := hide (bytes_yes a m w hc ha)
      have HC := hide hc; clear hc
      go_wp2_with fail
      refine H.out.mono ?_; rintro e w' ⟨A1, c1, rfl, hr1, hb1, _⟩
      go_wp2_with fail
      go_meet
      exact .inl ⟨m, A1, c1, rfl, by have := HC.out; unfold countedN at this; omega, HC.out, rfl, rfl, hr1, hb1.out⟩
    · have H := hide (bytes_no a n w hc)
      have HC := hide hc; clear hc
      go_wp2_with fail
      refine H.out.mono ?_; rintro e w' ⟨rfl, rfl⟩
      go_wp2_with fail
      go_meet
      exact .inr ⟨HC.out, rfl, rfl, rfl⟩
  have HR := hide hcut; clear hcut
  go_upto_region 4 with fail
  go_cut [13] (fun c wx => wx = wc ∧ ((countedN n ∧ c = .bool true) ∨ (¬ countedN n ∧ c = .bool false)))
  case first =>
    by_cases hc : countedN n
    · have HC := hide hc
      unfold countedN at hc
      rcases hc with rfl | rfl | rfl | rfl
      all_goals
        go_wp2_with fail
        go_meet
        exact ⟨rfl, .inl ⟨HC.out, rfl⟩⟩
    · have HC := hide hc
      unfold countedN at hc
      have e1 : (n == 1) = false := by simp; omega
      have e2 : (n == 2) = false := by simp; omega
      have e3 : (n == 4) = false := by simp; omega
      have e4 : (n == 8) = false := by simp; omega
      clear hc
      go_wp2_with fail
      go_meet
      exact ⟨rfl, .inr ⟨HC.out, rfl⟩⟩
  obtain ⟨rfl, hcn⟩ := hcut
  go_upto_region 5 with fail
  go_cut [69] (fun c wx => c = .bool false ∧ Below w.heap.size w wx)
  case first =>
    rcases HR.out with ⟨m, A1, c1, rfl, hm8, hcc, rfl, rfl, hr1, hb1⟩ | ⟨hcc, rfl, rfl, rfl⟩
    · obtain rfl : _ = Value.bool true := by
        rcases hcn with ⟨_, h⟩ | ⟨h, _⟩
        · exact h
        · exact absurd hcc h
      clear hcn HR
      have HB1 := hide hb1; clear hb1 hcc
      --REGION5
      refine wp_region_factsR grew_ext (factsOf [fun v _ => v = .bool true,
        fun v _ => v = .bool true,
        fun v _ => v = .slice A1 m c1,
        fun v _ => v = .string ⟨(bytesN a m).toArray⟩,
        fun v _ => v = .int .u64 a,
        fun v _ => v = .int .i64 m,
        fun v W => ∃ A c, v = .slice A m c ∧ Hid (Reads W W.heap.size 1 A m ((bytesN a m).map B)),
        fun v _ => v = .string ⟨(bytesN a m).toArray⟩,
        fun v _ => v = .bool false,
        fun v _ => v = .bool false,
        fun v _ => v = .int .i64 0,
        fun v _ => v = .bool false,
        fun v _ => v = .bool false,
        fun v _ => v = .bool false,
        fun v _ => v = .bool false,
        fun v _ => v = .bool true,
        fun v _ => v = .bool false,
        fun v _ => v = .bool false,
        fun v _ => v = undef,
        fun v _ => v = undef,
        fun v _ => v = undef,
        fun v _ => v = undef,
        fun v _ => v = undef,
        fun v _ => v = undef,
        fun v _ => v = undef,
        fun v _ => v = .bool false,
        fun v _ => v = .bool false]) (by kernel_rfl) (by kernel_rfl) ?_ ?_
      · refine ⟨?_, ?_, ?_, ?_, ?_, ?_, ?_, ?_, ?_, ?_, ?_, ?_, ?_, ?_, ?_, ?_, ?_, ?_, ?_, ?_, ?_, ?_, ?_, ?_, ?_, ?_, ?_, trivial⟩
        · refine ⟨fun ρ W hk => ?_⟩
          have o13 : ρ (.tmp 13) = .bool true := hk.old 13 (by decide)
          exact OpOut.move (.tmp 13) rfl ⟨Below.refl _ _, o13⟩
        · refine ⟨fun ρ W hk => ?_⟩
          have h0 := (hk.fact 0 43 (by decide) rfl).pure
          exact OpOut.move (.tmp 43) rfl ⟨Below.refl _ _, h0⟩
        · refine ⟨fun ρ W hk => ?_⟩
          have o11 : ρ (.tmp 11) = .slice A1 m c1 := hk.old 11 (by decide)
          have h1 := (hk.fact 1 44 (by decide) rfl).pure
          refine ⟨44, rfl, .inl ⟨true, h1, fun _ => ?_, fun h => absurd rfl h⟩⟩
          exact OpOut.move (.tmp 11) rfl ⟨Below.refl _ _, o11⟩
        · refine ⟨fun ρ W hk => ?_⟩
          have h2 := (hk.fact 2 45 (by decide) rfl).pure
          have h1 := (hk.fact 1 44 (by decide) rfl).pure
          refine ⟨44, rfl, .inl ⟨true, h1, fun _ => ?_, fun h => absurd rfl h⟩⟩
          exact OpOut.conv (x := .tmp 45) rfl (by rw [h2]; exact str_reads' m c1 (bytesN_len a m) (hr1.out.below hk.below)) ⟨Below.refl _ _, rfl⟩
        · refine ⟨fun ρ W hk => ?_⟩
          have o0 : ρ (.tmp 0) = .int .u64 a := hk.old 0 (by decide)
          have h1 := (hk.fact 1 44 (by decide) rfl).pure
          refine ⟨44, rfl, .inl ⟨true, h1, fun _ => ?_, fun h => absurd rfl h⟩⟩
          exact OpOut.move (.tmp 0) rfl ⟨Below.refl _ _, o0⟩
        · refine ⟨fun ρ W hk => ?_⟩
          have o1 : ρ (.tmp 1) = .int .i64 m := hk.old 1 (by decide)
          have h1 := (hk.fact 1 44 (by decide) rfl).pure
          refine ⟨44, rfl, .inl ⟨true, h1, fun _ => ?_, fun h => absurd rfl h⟩⟩
          exact OpOut.move (.tmp 1) rfl ⟨Below.refl _ _, o1⟩
        · refine ⟨fun ρ W hk => ?_⟩
          have h4 := (hk.fact 4 47 (by decide) rfl).pure
          have h5 := (hk.fact 5 48 (by decide) rfl).pure
          have h1 := (hk.fact 1 44 (by decide) rfl).pure
          refine ⟨44, rfl, .inl ⟨true, h1, fun _ => ?_, fun h => absurd rfl h⟩⟩
          refine OpOut.fn (args := #[.int .u64 a, .int .i64 m]) rfl (hk.func _) (by simp [h4, h5]) Tryd.func11 (by kernel_rfl) rfl ?_
          refine (refBytes_any a m _ hm8 ha).mono ?_; rintro e w5 ⟨A5, c5, rfl, r5, b5⟩
          exact ⟨_, rfl, b5.out, A5, c5, rfl, r5⟩
        · refine ⟨fun ρ W hk => ?_⟩
          obtain ⟨w5, hw5, A5, c5, h6, r5⟩ := hk.fact 6 49 (by decide) rfl
          have h1 := (hk.fact 1 44 (by decide) rfl).pure
          refine ⟨44, rfl, .inl ⟨true, h1, fun _ => ?_, fun h => absurd rfl h⟩⟩
          exact OpOut.conv (x := .tmp 49) rfl (by rw [h6]; exact str_reads' m c5 (bytesN_len a m) (r5.out.below hw5)) ⟨Below.refl _ _, rfl⟩
        · refine ⟨fun ρ W hk => ?_⟩
          have h3 := (hk.fact 3 46 (by decide) rfl).pure
          have h7 := (hk.fact 7 50 (by decide) rfl).pure
          have h1 := (hk.fact 1 44 (by decide) rfl).pure
          refine ⟨44, rfl, .inl ⟨true, h1, fun _ => ?_, fun h => absurd rfl h⟩⟩
          exact OpOut.bin (x := .tmp 46) (y := .tmp 50) (v := .bool false) rfl (by rw [h3, h7]; go_simp) (by rw [h3, h7]; exact run_neq_same _ _) ⟨Below.refl _ _, rfl⟩
        · refine ⟨fun ρ W hk => ?_⟩
          have h8 := (hk.fact 8 51 (by decide) rfl).pure
          have h1 := (hk.fact 1 44 (by decide) rfl).pure
          refine ⟨44, rfl, .inl ⟨true, h1, fun _ => ?_, fun h => absurd rfl h⟩⟩
          exact OpOut.move (.tmp 51) rfl ⟨Below.refl _ _, h8⟩
        · refine ⟨fun ρ W hk => ?_⟩
          have o12 : ρ (.tmp 12) = .int .i64 0 := hk.old 12 (by decide)
          have h9 := (hk.fact 9 52 (by decide) rfl).pure
          refine ⟨52, rfl, .inl ⟨false, h9, fun _ => ?_, fun h => absurd rfl h⟩⟩
          exact OpOut.move (.tmp 12) rfl ⟨Below.refl _ _, o12⟩
        · refine ⟨fun ρ W hk => ?_⟩
          have h10 := (hk.fact 10 53 (by decide) rfl).pure
          have h9 := (hk.fact 9 52 (by decide) rfl).pure
          refine ⟨52, rfl, .inl ⟨false, h9, fun _ => ?_, fun h => absurd rfl h⟩⟩
          exact OpOut.bin (x := .tmp 53) (y := .const (.int .i64 0)) (v := .bool false) rfl (by rw [h10, hk.const]; go_simp) (by rw [h10, hk.const]; go_simp) ⟨Below.refl _ _, rfl⟩
        · refine ⟨fun ρ W hk => ?_⟩
          have h9 := (hk.fact 9 52 (by decide) rfl).pure
          have h11 := (hk.fact 11 54 (by decide) rfl).pure
          have h1 := (hk.fact 1 44 (by decide) rfl).pure
          refine ⟨44, rfl, .inl ⟨true, h1, fun _ => ?_, fun h => absurd rfl h⟩⟩
          exact OpOut.pick (c := .tmp 52) (b := false) rfl h9 ⟨Below.refl _ _, h11⟩
        · refine ⟨fun ρ W hk => ?_⟩
          have h1 := (hk.fact 1 44 (by decide) rfl).pure
          have h12 := (hk.fact 12 55 (by decide) rfl).pure
          exact OpOut.pick (c := .tmp 44) (b := true) rfl h1 ⟨Below.refl _ _, h12⟩
        · refine ⟨fun ρ W hk => ?_⟩
          have h13 := (hk.fact 13 56 (by decide) rfl).pure
          exact OpOut.move (.tmp 56) rfl ⟨Below.refl _ _, h13⟩
        · refine ⟨fun ρ W hk => ?_⟩
          have o13 : ρ (.tmp 13) = .bool true := hk.old 13 (by decide)
          have h14 := (hk.fact 14 57 (by decide) rfl).pure
          refine ⟨57, rfl, .inl ⟨false, h14, fun _ => ?_, fun h => absurd rfl h⟩⟩
          exact OpOut.move (.tmp 13) rfl ⟨Below.refl _ _, o13⟩
        · refine ⟨fun ρ W hk => ?_⟩
          have h15 := (hk.fact 15 58 (by decide) rfl).pure
          have h14 := (hk.fact 14 57 (by decide) rfl).pure
          refine ⟨57, rfl, .inl ⟨false, h14, fun _ => ?_, fun h => absurd rfl h⟩⟩
          exact OpOut.un (x := .tmp 58) rfl (by rw [h15]; go_simp) ⟨Below.refl _ _, rfl⟩
        · refine ⟨fun ρ W hk => ?_⟩
          have h16 := (hk.fact 16 59 (by decide) rfl).pure
          have h14 := (hk.fact 14 57 (by decide) rfl).pure
          refine ⟨57, rfl, .inl ⟨false, h14, fun _ => ?_, fun h => absurd rfl h⟩⟩
          exact OpOut.move (.tmp 59) rfl ⟨Below.refl _ _, h16⟩
        · refine ⟨fun ρ W hk => ?_⟩
          have hg := (hk.fact 17 60 (by decide) rfl).pure
          exact ⟨60, rfl, .inl ⟨false, hg, fun h => absurd h (by decide), fun _ => rfl⟩⟩
        · refine ⟨fun ρ W hk => ?_⟩
          have hg := (hk.fact 17 60 (by decide) rfl).pure
          exact ⟨60, rfl, .inl ⟨false, hg, fun h => absurd h (by decide), fun _ => rfl⟩⟩
        · refine ⟨fun ρ W hk => ?_⟩
          have hg := (hk.fact 17 60 (by decide) rfl).pure
          exact ⟨60, rfl, .inl ⟨false, hg, fun h => absurd h (by decide), fun _ => rfl⟩⟩
        · refine ⟨fun ρ W hk => ?_⟩
          have hg := (hk.fact 17 60 (by decide) rfl).pure
          exact ⟨60, rfl, .inl ⟨false, hg, fun h => absurd h (by decide), fun _ => rfl⟩⟩
        · refine ⟨fun ρ W hk => ?_⟩
          have hg := (hk.fact 21 64 (by decide) rfl).pure
          exact ⟨64, rfl, .inr ⟨hg, rfl⟩⟩
        · refine ⟨fun ρ W hk => ?_⟩
          have hg := (hk.fact 21 64 (by decide) rfl).pure
          exact ⟨64, rfl, .inr ⟨hg, rfl⟩⟩
        · refine ⟨fun ρ W hk => ?_⟩
          have hg := (hk.fact 17 60 (by decide) rfl).pure
          exact ⟨60, rfl, .inl ⟨false, hg, fun h => absurd h (by decide), fun _ => rfl⟩⟩
        · refine ⟨fun ρ W hk => ?_⟩
          have h17 := (hk.fact 17 60 (by decide) rfl).pure
          have h14 := (hk.fact 14 57 (by decide) rfl).pure
          refine ⟨57, rfl, .inl ⟨false, h14, fun _ => ?_, fun h => absurd rfl h⟩⟩
          exact OpOut.pick (c := .tmp 60) (b := false) rfl h17 ⟨Below.refl _ _, hk.const _⟩
        · refine ⟨fun ρ W hk => ?_⟩
          have h14 := (hk.fact 14 57 (by decide) rfl).pure
          have h25 := (hk.fact 25 68 (by decide) rfl).pure
          exact OpOut.pick (c := .tmp 57) (b := false) rfl h14 ⟨Below.refl _ _, h25⟩
      · intro vs W hb hf
        have h26 := (hf 26 (by decide)).pure
        clear hf
        simp only [fillL]
        go_frame
        rw [h26]
      --END5
        have HBW := hide hb; clear hb h26
        generalize vs 0 = v0, vs 1 = v1, vs 2 = v2, vs 3 = v3, vs 4 = v4, vs 5 = v5, vs 6 = v6, vs 7 = v7, vs 8 = v8, vs 9 = v9, vs 10 = v10, vs 11 = v11, vs 12 = v12, vs 13 = v13
        go_wp2_with fail
        go_meet
        exact ⟨rfl, HB1.out.trans (HBW.out.mono HB1.out.size)⟩
    · obtain rfl : _ = Value.bool false := by
        rcases hcn with ⟨h, _⟩ | ⟨_, h⟩
        · exact absurd h hcc
        · exact h
      clear hcn HR
      go_wp2_with fail
      go_quiet (fail)
      go_wp2_with fail
      go_meet
      exact ⟨rfl, ⟨rfl, rfl, rfl, Nat.le_refl _, fun _ _ => rfl⟩⟩
  clear HR
  obtain ⟨rfl, hb⟩ := hcut
  have HB := hide hb; clear hb
  have hr2 : Hid (Reads wc wc.heap.size 1 A k (bs.map B)) := ((hr.out.below HB.out).more HB.out.size)
  have HAW := hide (awakeC wc (tab_below ht.out HB.out))
  by_cases hc : countedN k
  · by_cases h8 : k = 8 ∧ tt = 64
    · obtain ⟨rfl, rfl⟩ := h8
      have HW := hide (word_yes A cap bs 8 HK wc hc hr2)
      have HL := hide (load_whole A cap bs HK sg wc hr2)
      have HV := hide (refWord06_any A cap bs 8 HK wc (by omega) hr2)
      obtain ⟨v, hv'⟩ : ∃ v, wordN bs = v := ⟨_, rfl⟩
      rw [hv'] at HW HL HV
      clear hv' hc
      go_wp2_with fail
      refine HW.out.mono ?_; rintro e w' ⟨rfl, rfl⟩
      go_wp2_with fail
      refine HL.out.mono ?_; rintro e w' ⟨rfl, rfl⟩
      go_wp2_with fail
      refine HV.out.mono ?_; rintro e w' ⟨rfl, rfl⟩
      go_wp2_with fail
      refine HAW.out.mono ?_; rintro e w2 ⟨rfl, hb2⟩
      have HB2 := hide hb2; clear hb2
      go_wp2_with fail
      go_ret
      exact ⟨rfl, HB.out.trans (HB2.out.mono HB.out.size)⟩
    · have HW := hide (word_yes A cap bs k HK wc hc hr2)
      have HV := hide (refWord06_any A cap bs k HK wc (by unfold countedN at hc; omega) hr2)
      by_cases hlo : loadOk k tt
      · obtain ⟨t', rfl⟩ : ∃ q : Nat, tt = q := ⟨tt.toNat, by unfold loadOk at hlo; omega⟩
        have HL := hide (load_ext A cap bs k t' HK sg wc hlo hr2)
        have hwv := wordN_lt64 HK.out (by unfold countedN at hc; omega)
        have HX := hide (refExtend_any (8 * k) t' sg (wordN bs) wc (by unfold loadOk at hlo; omega) (by unfold loadOk at hlo; omega) (by unfold loadOk at hlo; omega) (by show _ < _; simp; omega))
        obtain ⟨x, hx'⟩ : ∃ v, extV (8 * k) t' sg (wordN bs) = v := ⟨_, rfl⟩
        rw [hx'] at HL HX
        obtain ⟨v, hv'⟩ : ∃ v, wordN bs = v := ⟨_, rfl⟩
        rw [hv'] at HW HV HX
        clear hv' hx' hc h8 hwv
        obtain ⟨h1, h2⟩ := hlo
        have h2' : t' = 32 ∨ t' = 64 := by omega
        clear h2
        rcases h1 with rfl | rfl | rfl <;> rcases h2' with rfl | rfl
        all_goals
          go_wp2_with fail
          refine HW.out.mono ?_; rintro e w' ⟨rfl, rfl⟩
          go_wp2_with fail
          refine HL.out.mono ?_; rintro e w' ⟨rfl, rfl⟩
          go_wp2_with fail
          refine HV.out.mono ?_; rintro e w' ⟨rfl, rfl⟩
          go_wp2_with fail
          refine HX.out.mono ?_; rintro e w3 ⟨rfl, hb3⟩
          have HB3 := hide (HB.out.trans (hb3.mono HB.out.size)); clear hb3
          go_wp2_with fail
          refine (awakeC _ (tab_below ht.out HB3.out)).mono ?_; rintro e w2 ⟨rfl, hb2⟩
          have HB2 := hide hb2; clear hb2
          go_wp2_with fail
          go_ret
          exact ⟨rfl, HB3.out.trans (HB2.out.mono HB3.out.size)⟩
      · have HL := hide (load_arg A cap bs k tt HK sg wc hc hlo h8 hr2)
        obtain ⟨v, hv'⟩ : ∃ v, wordN bs = v := ⟨_, rfl⟩
        rw [hv'] at HW HV
        clear hv'
        unfold countedN at hc
        have hc' : k = 1 ∨ k = 2 ∨ k = 4 ∨ k = 8 := by omega
        clear hc
        have e64 : (tt == 64) = false := by unfold loadOk at hlo; simp; omega
        have e64n : (tt != 64) = true := by unfold loadOk at hlo; simp; omega
        have e32n : k = 8 ∨ (tt != 32) = true := by unfold loadOk at hlo; simp; omega
        clear hlo h8
        rcases hc' with rfl | rfl | rfl | rfl
        · have e32 : (tt != 32) = true := e32n.resolve_left (by omega)
          clear e32n
          go_wp2_with fail
          refine HW.out.mono ?_; rintro e w' ⟨rfl, rfl⟩
          go_wp2_with fail
          refine HL.out.mono ?_; rintro e w' ⟨rfl, rfl⟩
          go_wp2_with fail
          refine HV.out.mono ?_; rintro e w' ⟨rfl, rfl⟩
          go_wp2_with fail
          refine HAW.out.mono ?_; rintro e w2 ⟨rfl, hb2⟩
          have HB2 := hide hb2; clear hb2
          go_wp2_with fail
          go_ret
          exact ⟨rfl, HB.out.trans (HB2.out.mono HB.out.size)⟩
        · have e32 : (tt != 32) = true := e32n.resolve_left (by omega)
          clear e32n
          go_wp2_with fail
          refine HW.out.mono ?_; rintro e w' ⟨rfl, rfl⟩
          go_wp2_with fail
          refine HL.out.mono ?_; rintro e w' ⟨rfl, rfl⟩
          go_wp2_with fail
          refine HV.out.mono ?_; rintro e w' ⟨rfl, rfl⟩
          go_wp2_with fail
          refine HAW.out.mono ?_; rintro e w2 ⟨rfl, hb2⟩
          have HB2 := hide hb2; clear hb2
          go_wp2_with fail
          go_ret
          exact ⟨rfl, HB.out.trans (HB2.out.mono HB.out.size)⟩
        · have e32 : (tt != 32) = true := e32n.resolve_left (by omega)
          clear e32n
          go_wp2_with fail
          refine HW.out.mono ?_; rintro e w' ⟨rfl, rfl⟩
          go_wp2_with fail
          refine HL.out.mono ?_; rintro e w' ⟨rfl, rfl⟩
          go_wp2_with fail
          refine HV.out.mono ?_; rintro e w' ⟨rfl, rfl⟩
          go_wp2_with fail
          refine HAW.out.mono ?_; rintro e w2 ⟨rfl, hb2⟩
          have HB2 := hide hb2; clear hb2
          go_wp2_with fail
          go_ret
          exact ⟨rfl, HB.out.trans (HB2.out.mono HB.out.size)⟩
        · clear e32n
          go_wp2_with fail
          refine HW.out.mono ?_; rintro e w' ⟨rfl, rfl⟩
          go_wp2_with fail
          refine HL.out.mono ?_; rintro e w' ⟨rfl, rfl⟩
          go_wp2_with fail
          refine HV.out.mono ?_; rintro e w' ⟨rfl, rfl⟩
          go_wp2_with fail
          refine HAW.out.mono ?_; rintro e w2 ⟨rfl, hb2⟩
          have HB2 := hide hb2; clear hb2
          go_wp2_with fail
          go_ret
          exact ⟨rfl, HB.out.trans (HB2.out.mono HB.out.size)⟩
  · have HW := hide (word_no A k cap wc hc)
    have HL := hide (load_no A k cap tt sg wc hc (by omega))
    unfold countedN at hc
    have e1 : ((k : Int) != 1) = true := by simp; omega
    have e2 : ((k : Int) != 2) = true := by simp; omega
    have e3 : ((k : Int) != 4) = true := by simp; omega
    have e4 : ((k : Int) != 8) = true := by simp; omega
    clear hc
    go_wp2_with fail
    refine HW.out.mono ?_; rintro e w' ⟨rfl, rfl⟩
    go_wp2_with fail
    refine HL.out.mono ?_; rintro e w' ⟨rfl, rfl⟩
    go_wp2_with fail
    refine HAW.out.mono ?_; rintro e w2 ⟨rfl, hb2⟩
    have HB2 := hide hb2; clear hb2
    go_wp2_with fail
    go_ret
    exact ⟨rfl, HB.out.trans (HB2.out.mono HB.out.size)⟩

set_option maxHeartbeats 400000 in
set_option maxRecDepth 100000 in
theorem ConvBytes_walk (a n : Int) (A : Option Addr) (cap : Nat) (bs : List UInt8) (tt : Int) (sg : Bool) (w : World) (wa : (Lit.int .u64 a).wf = true) (wn : (Lit.int .i64 n).wf = true) (hr : Reads w w.heap.size 1 A bs.length (bs.map B)) (hc : bs.length ≤ cap) (hm : cap ≤ maxLen) (wt : (Lit.int .i64 tt).wf = true) (ht : Tab w) :
    Calls Tryd.prog 4 #[.int .u64 a, .int .i64 n, .slice A bs.length cap, .int .i64 tt, .bool sg] w fun e w' => e = .returned (.bool true) ∧ Below w.heap.size w w' := by
  obtain ⟨a, rfl, ha⟩ := u64_bd wa
  have ha' : a ≤ 18446744073709551615 := by simp at ha; omega
  clear ha wa wn wt
  by_cases h20 : bs.length ≤ 20
  · exact convBytes_in a n A cap bs tt sg w ha' hr h20 ht
  · have h21 : 20 < bs.length := by omega
    have HT := hide ht
    unfold maxLen at hm
    clear h20 hr ht
    go_enter Tryd.func4, Tryd.ntmps4
    go_wp2_with fail
    refine (awakeC w HT).mono ?_; rintro e w2 ⟨rfl, hb2⟩
    have HB2 := hide hb2; clear hb2
    go_wp2_with fail
    go_ret
    exact ⟨rfl, HB2.out⟩
end Go.Proofs.YtpphkfolhlkaiaaDoor
