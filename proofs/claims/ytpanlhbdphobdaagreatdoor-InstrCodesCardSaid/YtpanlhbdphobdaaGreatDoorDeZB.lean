/-
  Law 11: InstrCodes: the walk. (Written by wip/gen-inss.py.)
  InstrCodes: for every input.
-/
import Derived.Test.YtpanlhbdphobdaaGreatDoorDeBR
import Derived.Test.YtpanlhbdphobdaaGreatDoorDeAU
import Derived.Test.YtpanlhbdphobdaaGreatDoorDeZA
namespace Go.Proofs.YtpanlhbdphobdaaGreatDoor
open Go.RowKit
set_option linter.unusedVariables false

theorem putN_len5 (n : Nat) (h : n ≤ 4294967295) : (putN n).length ≤ 5 := by
  by_cases h1 : n < 128
  · rw [putN_small n h1]; simp
  rw [putN_step n (by omega) (by omega)]
  by_cases h2 : n / 128 < 128
  · rw [putN_small _ h2]; simp
  rw [putN_step _ (by omega) (by omega)]
  by_cases h3 : n / 128 / 128 < 128
  · rw [putN_small _ h3]; simp
  rw [putN_step _ (by omega) (by omega)]
  by_cases h4 : n / 128 / 128 / 128 < 128
  · rw [putN_small _ h4]; simp
  rw [putN_step _ (by omega) (by omega), putN_small _ (by omega)]
  simp
theorem puts_len5 : ∀ ls : List Nat, ls.all small = true → (ls.flatMap putN).length ≤ 5 * ls.length := by
  intro ls
  induction ls with
  | nil => intro _; simp
  | cons n r ih =>
    intro h
    rw [List.all_cons, Bool.and_eq_true] at h
    have h1 := putN_len5 n (by have := h.1; unfold small at this; exact of_decide_eq_true this)
    have h2 := ih h.2
    rw [List.flatMap_cons, List.length_append, List.length_cons]
    omega
theorem encX_len {x : XI} (hx : x.In) (h : rightX x = true) : (encX x).length ≤ 1000 := by
  obtain ⟨r, hr, hc, hf⟩ := right_some h
  have hh : (headL x.code).length ≤ 20 := by unfold headL; have := putN_length (x.code - 64512).toNat; split <;> simp; omega
  have hb : (bodyL (refForm x.code) x).length ≤ 600 := by
    have pa := putN_length x.a
    have pb := putN_length x.b
    have pl := putN_length x.l.length
    have p1 := putN_length x.al.toNat
    have p2 := putN_length (x.al.toNat + 64)
    have ps := putSN_lenB (constI (x.code == 66) x.a) (by have := constI_bd (x.code == 66) x.a hx.a; exact ⟨this.1, this.2.1⟩)
    by_cases h3 : refForm x.code = 3
    · rw [h3] at hf
      simp [rightF] at hf
      have := puts_len5 x.l (by rw [List.all_eq_true]; exact hf.2.1)
      have h3' : bodyL (refForm x.code) x = putN x.l.length ++ (x.l.flatMap putN ++ putN x.a) := by unfold bodyL; rw [h3]; simp
      rw [h3', List.length_append, List.length_append]
      omega
    · unfold bodyL
      repeat' split
      all_goals first | contradiction | (simp; omega) | (simp)
  unfold encX
  rw [List.length_append]
  omega

theorem codes_many (x : XI) (A : Option Addr) (c : Nat) (w : World) (ht : Hid (LaidI w)) (b1 : x.l.length ≤ 9223372036854775807) (h : 120 < x.l.length) :
    Calls Tryz.prog 6 #[.agg #[.int .i64 x.code, .int .u64 (x.a : Int), .int .u64 (x.b : Int), .int .i64 x.al, .slice A x.l.length c]] w fun e w' => e = .returned (.bool true) ∧ Hid (Below w.heap.size w w') := by
  obtain ⟨W, hW⟩ : ∃ W, w.alloc (.cells #[.int .i64 x.code, .int .u64 (x.a : Int), .int .u64 (x.b : Int), .int .i64 x.al, .slice A x.l.length c] 25) = W := ⟨_, rfl⟩
  obtain ⟨g, hg⟩ : ∃ g, w.heap.size = g := ⟨_, rfl⟩
  have hbW : Below g w W := by rw [← hW, ← hg]; exact (Below.refl _ _).alloc (Nat.le_refl _) _
  have hx : RXV W g x A c := by rw [← hW, ← hg]; exact rxv_new w x A c
  have hsz : W.heap.size = g + 1 := by rw [← hW, ← hg]; simp
  obtain ⟨l0, l1, l2, l3, l4⟩ := hx.cs
  have HA := hide (awake11 W (hide (ht.out.below (by rw [hg]; exact hbW))))
  have HW := hide hW; have HB := hide hbW; have HG := hide hg; have HX := hide hx
  have HGW : Hid (g < W.heap.size) := by show g < _; omega
  have FIN : ∀ V, Below W.heap.size W V → Below w.heap.size w V := fun V h => by rw [HG.out]; exact HB.out.trans (h.mono (by have := HGW.out; omega))
  have HFIN := hide FIN
  clear FIN hW hbW hg hx ht hsz
  go_enter Tryz.func6, Tryz.ntmps6
  go_upto_region 1 with fail
  rw [HW.out, HG.out]
  go_wp2_with fail
  refine HA.out.mono ?_; rintro e w1 ⟨rfl, h1⟩
  clear l0 l1 l2 l3 l4
  go_wp2_with fail
  go_ret
  exact ⟨rfl, HFIN.out _ h1.out⟩

set_option maxRecDepth 100000 in
set_option maxHeartbeats 6400000 in
theorem codes_no (x : XI) (A : Option Addr) (c : Nat) (w : World) (ht : Hid (LaidI w)) (hix : Hid x.In) (r1 : Hid (Reads w w.heap.size 1 A x.l.length (x.l.map U))) (b1 : x.l.length ≤ 120) (hq : rightX x = false) :
    Calls Tryz.prog 6 #[.agg #[.int .i64 x.code, .int .u64 (x.a : Int), .int .u64 (x.b : Int), .int .i64 x.al, .slice A x.l.length c]] w fun e w' => e = .returned (.bool true) ∧ Hid (Below w.heap.size w w') := by
  obtain ⟨W, hW⟩ : ∃ W, w.alloc (.cells #[.int .i64 x.code, .int .u64 (x.a : Int), .int .u64 (x.b : Int), .int .i64 x.al, .slice A x.l.length c] 25) = W := ⟨_, rfl⟩
  obtain ⟨g, hg⟩ : ∃ g, w.heap.size = g := ⟨_, rfl⟩
  have hbW : Below g w W := by rw [← hW, ← hg]; exact (Below.refl _ _).alloc (Nat.le_refl _) _
  have hx : RXV W g x A c := by rw [← hW, ← hg]; exact rxv_new w x A c
  have hsz : W.heap.size = g + 1 := by rw [← hW, ← hg]; simp
  obtain ⟨l0, l1, l2, l3, l4⟩ := hx.cs
  have HA := hide (awake11 W (hide (ht.out.below (by rw [hg]; exact hbW))))
  rw [hg] at r1
  have R1 : Hid (Reads W W.heap.size 1 A x.l.length (x.l.map U)) := (r1.out.below hbW).more (by omega)
  have T1 := hide (fun V (h : Below W.heap.size W V) => toX_any x A c V (hide ((R1.out.below h).more h.size)) (by omega))
  have Q1 := hide (fun V (h : Below W.heap.size W V) => rright_any x A c V hix (hide ((R1.out.below h).more h.size)) (by omega))
  have IS := hide (fun V B1 B2 d1 d2 (h1 : Reads V V.heap.size 1 B1 x.l.length (x.l.map U)) (h2 : Reads V V.heap.size 1 B2 x.l.length (x.l.map U)) => isame2_any x x B1 B2 d1 d2 V (hide h1) (hide h2) (by omega) (by omega))
  have RS := hide (fun V B1 B2 d1 d2 (h1 : Reads V V.heap.size 1 B1 x.l.length (x.l.map U)) (h2 : Reads V V.heap.size 1 B2 x.l.length (x.l.map U)) => rsame2_any x x B1 B2 d1 d2 V (hide h1) (hide h2) (by omega) (by omega))
  have IR := hide (fun V Bz dz (h1 : Reads V V.heap.size 1 Bz x.l.length (x.l.map U)) => insRight_any x Bz dz V hix (hide h1) (by omega))
  have EN := hide (fun V Bz dz (h1 : Reads V V.heap.size 1 Bz x.l.length (x.l.map U)) => encode_no x Bz dz V hix (hide h1) (by omega) (hide hq))
  have hpx : printX x = [] := by unfold printX; rw [hq]; rfl
  have PR := hide (fun V (h : Below W.heap.size W V) Bz dz (h1 : Reads V V.heap.size 1 Bz x.l.length (x.l.map U)) => insPrint_any x Bz dz V hix (hide h1) (by omega) (hide (((ht.out.below (by rw [hg]; exact hbW)).below h).c)))
  rw [hpx] at PR
  obtain ⟨p, hp⟩ : ∃ p, rightX x = p := ⟨_, rfl⟩
  rw [hp] at Q1 IR hq
  subst hq
  have HW := hide hW; have HB := hide hbW; have HG := hide hg; have HX := hide hx
  have HGW : Hid (g < W.heap.size) := by show g < _; omega
  have FIN : ∀ V, Below W.heap.size W V → Below w.heap.size w V := fun V h => by rw [HG.out]; exact HB.out.trans (h.mono (by have := HGW.out; omega))
  have HFIN := hide FIN
  clear FIN hW hbW hg hx ht hsz
  clear hp hpx r1
  go_enter Tryz.func6, Tryz.ntmps6
  go_upto_region 1 with fail
  rw [HW.out, HG.out]
  go_wp2_with fail
  refine HA.out.mono ?_; rintro e w1 ⟨rfl, h1⟩
  have HB1 : Hid (Below W.heap.size W w1) := h1.out
  clear l0 l1 l2 l3 l4
  obtain ⟨l0, l1, l2, l3, l4⟩ := (HX.out.below HB1.out HGW.out).cs
  clear HA
  go_wp2_with fail
  refine (T1.out _ HB1.out).mono ?_; rintro e w2 ⟨A2, c2, rfl, ho2, h2⟩
  have HB2 : Hid (Below W.heap.size W w2) := HB1.out.trans (h2.out.mono HB1.out.size)
  clear l0 l1 l2 l3 l4
  obtain ⟨l0, l1, l2, l3, l4⟩ := (HX.out.below HB2.out HGW.out).cs
  go_wp2_with fail
  refine (EN.out _ A2 c2 (Reads.of_own ho2.out)).mono ?_; rintro e w3 ⟨rfl, h3⟩
  have HB3 : Hid (Below W.heap.size W w3) := HB2.out.trans (h3.out.mono HB2.out.size)
  clear l0 l1 l2 l3 l4
  obtain ⟨l0, l1, l2, l3, l4⟩ := (HX.out.below HB3.out HGW.out).cs
  clear ho2
  go_wp2_with fail
  refine (Q1.out _ HB3.out).mono ?_; rintro e w4 ⟨rfl, h4⟩
  have HB4 : Hid (Below W.heap.size W w4) := HB3.out.trans (h4.out.mono HB3.out.size)
  clear l0 l1 l2 l3 l4
  obtain ⟨l0, l1, l2, l3, l4⟩ := (HX.out.below HB4.out HGW.out).cs
  go_upto_region 5 with fail
  refine wp_region_factsR grew_ext (factsOf [fun yy _ => yy = .agg #[.int .i64 x.code, .int .u64 (x.a : Int), .int .u64 (x.b : Int), .int .i64 x.al, .slice A x.l.length c],
    fun yy WW => ∃ Az cz, yy = .agg #[.int .i64 x.code, .int .u64 (x.a : Int), .int .u64 (x.b : Int), .int .i64 x.al, .slice Az x.l.length cz] ∧ WW.ownsRow w4.heap.size 22 1 (.slice Az x.l.length cz) x.l.length (x.l.map U),
    fun yy _ => yy = .bool false,
    fun yy _ => yy = .bool false,
    fun yy _ => yy = .bool false,
    fun yy _ => yy = .bool false,
    fun yy _ => yy = .agg #[.int .i64 x.code, .int .u64 (x.a : Int), .int .u64 (x.b : Int), .int .i64 x.al, .slice A x.l.length c],
    fun yy WW => ∃ Az cz, yy = .agg #[.int .i64 x.code, .int .u64 (x.a : Int), .int .u64 (x.b : Int), .int .i64 x.al, .slice Az x.l.length cz] ∧ WW.ownsRow w4.heap.size 22 1 (.slice Az x.l.length cz) x.l.length (x.l.map U),
    fun yy _ => yy = .agg #[.int .i64 x.code, .int .u64 (x.a : Int), .int .u64 (x.b : Int), .int .i64 x.al, .slice A x.l.length c],
    fun yy WW => ∃ Az cz, yy = .agg #[.int .i64 x.code, .int .u64 (x.a : Int), .int .u64 (x.b : Int), .int .i64 x.al, .slice Az x.l.length cz] ∧ WW.ownsRow w4.heap.size 22 1 (.slice Az x.l.length cz) x.l.length (x.l.map U),
    fun yy _ => yy = .bool true,
    fun yy _ => yy = .bool false,
    fun yy _ => yy = .bool false]) (by kernel_rfl) (by kernel_rfl) ?_ ?_
  · refine ⟨?_, ?_, ?_, ?_, ?_, ?_, ?_, ?_, ?_, ?_, ?_, ?_, ?_, trivial⟩
    · refine ⟨fun ρ W3 hk => ?_⟩
      have o1 : ρ (.tmp 1) = .pointer (some ⟨g, 0, none⟩) := hk.old 1 (by decide)
      have hv := HX.out.below (HB4.out.trans (hk.below.mono HB4.out.size)) HGW.out
      exact OpOut.load (x := .tmp 1) rfl o1 (run_loadX hv) ⟨Below.refl _ _, rfl⟩
    · refine ⟨fun ρ W3 hk => ?_⟩
      have h0 := (hk.fact 0 29 (by decide) rfl).pure
      refine OpOut.fn (args := #[.agg #[.int .i64 x.code, .int .u64 (x.a : Int), .int .u64 (x.b : Int), .int .i64 x.al, .slice A x.l.length c]]) rfl (hk.func _) (by simp [h0]) Tryz.func10 (by kernel_rfl) rfl ?_
      refine (T1.out W3 (HB4.out.trans (hk.below.mono HB4.out.size))).mono ?_; rintro e w5 ⟨Az, cz, rfl, ho5, hb5⟩
      exact ⟨_, rfl, hb5.out, Az, cz, rfl, own_base ho5.out (fun q hq => by have := own_ge ho5.out q hq; have := hk.below.size; omega)⟩
    · refine ⟨fun ρ W3 hk => ?_⟩
      obtain ⟨u1, hu1, Az1, cz1, h1, ho1⟩ := hk.fact 1 30 (by decide) rfl
      refine OpOut.fn (args := #[.agg #[.int .i64 x.code, .int .u64 (x.a : Int), .int .u64 (x.b : Int), .int .i64 x.al, .slice Az1 x.l.length cz1]]) rfl (hk.func _) (by simp [h1]) Tryz.func24 (by kernel_rfl) rfl ?_
      have q1 := Reads.of_own (own_only3 (S := []) ho1 (Only.of_below hu1) (by simp))
      refine (IR.out W3 Az1 cz1 q1).mono ?_; rintro e w5 ⟨rfl, hb5⟩
      exact ⟨_, rfl, hb5.out, rfl⟩
    · refine ⟨fun ρ W3 hk => ?_⟩
      have o5 : ρ (.tmp 5) = .bool false := hk.old 5 (by decide)
      exact OpOut.move (.tmp 5) rfl ⟨Below.refl _ _, o5⟩
    · refine ⟨fun ρ W3 hk => ?_⟩
      have h2 := (hk.fact 2 31 (by decide) rfl).pure
      have h3 := (hk.fact 3 32 (by decide) rfl).pure
      exact OpOut.bin (x := .tmp 31) (y := .tmp 32) (v := .bool false) rfl (by rw [h2, h3]; go_simp) (by rw [h2, h3]; exact run_neq_bool false W3) ⟨Below.refl _ _, rfl⟩
    · refine ⟨fun ρ W3 hk => ?_⟩
      have h4 := (hk.fact 4 33 (by decide) rfl).pure
      exact OpOut.move (.tmp 33) rfl ⟨Below.refl _ _, h4⟩
    · refine ⟨fun ρ W3 hk => ?_⟩
      have o1 : ρ (.tmp 1) = .pointer (some ⟨g, 0, none⟩) := hk.old 1 (by decide)
      have h5 := (hk.fact 5 34 (by decide) rfl).pure
      refine ⟨34, rfl, .inl ⟨false, h5, fun _ => ?_, fun h => absurd rfl h⟩⟩
      have hv := HX.out.below (HB4.out.trans (hk.below.mono HB4.out.size)) HGW.out
      exact OpOut.load (x := .tmp 1) rfl o1 (run_loadX hv) ⟨Below.refl _ _, rfl⟩
    · refine ⟨fun ρ W3 hk => ?_⟩
      have h6 := (hk.fact 6 35 (by decide) rfl).pure
      have h5 := (hk.fact 5 34 (by decide) rfl).pure
      refine ⟨34, rfl, .inl ⟨false, h5, fun _ => ?_, fun h => absurd rfl h⟩⟩
      refine OpOut.fn (args := #[.agg #[.int .i64 x.code, .int .u64 (x.a : Int), .int .u64 (x.b : Int), .int .i64 x.al, .slice A x.l.length c]]) rfl (hk.func _) (by simp [h6]) Tryz.func10 (by kernel_rfl) rfl ?_
      refine (T1.out W3 (HB4.out.trans (hk.below.mono HB4.out.size))).mono ?_; rintro e w5 ⟨Az, cz, rfl, ho5, hb5⟩
      exact ⟨_, rfl, hb5.out, Az, cz, rfl, own_base ho5.out (fun q hq => by have := own_ge ho5.out q hq; have := hk.below.size; omega)⟩
    · refine ⟨fun ρ W3 hk => ?_⟩
      have o1 : ρ (.tmp 1) = .pointer (some ⟨g, 0, none⟩) := hk.old 1 (by decide)
      have h5 := (hk.fact 5 34 (by decide) rfl).pure
      refine ⟨34, rfl, .inl ⟨false, h5, fun _ => ?_, fun h => absurd rfl h⟩⟩
      have hv := HX.out.below (HB4.out.trans (hk.below.mono HB4.out.size)) HGW.out
      exact OpOut.load (x := .tmp 1) rfl o1 (run_loadX hv) ⟨Below.refl _ _, rfl⟩
    · refine ⟨fun ρ W3 hk => ?_⟩
      have h8 := (hk.fact 8 37 (by decide) rfl).pure
      have h5 := (hk.fact 5 34 (by decide) rfl).pure
      refine ⟨34, rfl, .inl ⟨false, h5, fun _ => ?_, fun h => absurd rfl h⟩⟩
      refine OpOut.fn (args := #[.agg #[.int .i64 x.code, .int .u64 (x.a : Int), .int .u64 (x.b : Int), .int .i64 x.al, .slice A x.l.length c]]) rfl (hk.func _) (by simp [h8]) Tryz.func10 (by kernel_rfl) rfl ?_
      refine (T1.out W3 (HB4.out.trans (hk.below.mono HB4.out.size))).mono ?_; rintro e w5 ⟨Az, cz, rfl, ho5, hb5⟩
      exact ⟨_, rfl, hb5.out, Az, cz, rfl, own_base ho5.out (fun q hq => by have := own_ge ho5.out q hq; have := hk.below.size; omega)⟩
    · refine ⟨fun ρ W3 hk => ?_⟩
      obtain ⟨u7, hu7, Az7, cz7, h7, ho7⟩ := hk.fact 7 36 (by decide) rfl
      obtain ⟨u9, hu9, Az9, cz9, h9, ho9⟩ := hk.fact 9 38 (by decide) rfl
      have h5 := (hk.fact 5 34 (by decide) rfl).pure
      refine ⟨34, rfl, .inl ⟨false, h5, fun _ => ?_, fun h => absurd rfl h⟩⟩
      refine OpOut.fn (args := #[.agg #[.int .i64 x.code, .int .u64 (x.a : Int), .int .u64 (x.b : Int), .int .i64 x.al, .slice Az7 x.l.length cz7], .agg #[.int .i64 x.code, .int .u64 (x.a : Int), .int .u64 (x.b : Int), .int .i64 x.al, .slice Az9 x.l.length cz9]]) rfl (hk.func _) (by simp [h7, h9]) Tryz.func16 (by kernel_rfl) rfl ?_
      have q7 := Reads.of_own (own_only3 (S := []) ho7 (Only.of_below hu7) (by simp))
      have q9 := Reads.of_own (own_only3 (S := []) ho9 (Only.of_below hu9) (by simp))
      refine (IS.out W3 Az7 Az9 cz7 cz9 q7 q9).mono ?_; rintro e w5 ⟨rfl, hb5⟩
      exact ⟨_, rfl, hb5.out, congrArg Value.bool (sameX_refl _)⟩
    · refine ⟨fun ρ W3 hk => ?_⟩
      have h10 := (hk.fact 10 39 (by decide) rfl).pure
      have h5 := (hk.fact 5 34 (by decide) rfl).pure
      refine ⟨34, rfl, .inl ⟨false, h5, fun _ => ?_, fun h => absurd rfl h⟩⟩
      exact OpOut.un (x := .tmp 39) rfl (by rw [h10]; go_simp) ⟨Below.refl _ _, rfl⟩
    · refine ⟨fun ρ W3 hk => ?_⟩
      have h5 := (hk.fact 5 34 (by decide) rfl).pure
      have h11 := (hk.fact 11 40 (by decide) rfl).pure
      exact OpOut.pick (c := .tmp 34) (b := false) rfl h5 ⟨Below.refl _ _, h11⟩
  intro vs w5 hb hf
  have h12 := (hf 12 (by decide)).pure
  clear hf
  simp only [fillL]
  go_frame
  rw [h12]
  have h5 := hide hb
  clear hb
  have HB5 : Hid (Below W.heap.size W w5) := HB4.out.trans (h5.out.mono HB4.out.size)
  clear l0 l1 l2 l3 l4
  obtain ⟨l0, l1, l2, l3, l4⟩ := (HX.out.below HB5.out HGW.out).cs
  go_wp2_with fail
  refine (T1.out _ HB5.out).mono ?_; rintro e w6 ⟨A6, c6, rfl, ho6, h6⟩
  have HB6 : Hid (Below W.heap.size W w6) := HB5.out.trans (h6.out.mono HB5.out.size)
  clear l0 l1 l2 l3 l4
  obtain ⟨l0, l1, l2, l3, l4⟩ := (HX.out.below HB6.out HGW.out).cs
  go_wp2_with fail
  refine (PR.out _ HB6.out A6 c6 (Reads.of_own ho6.out)).mono ?_; rintro e w7 ⟨rfl, h7⟩
  have HF7 := hide (HFIN.out _ (HB6.out.trans (h7.mono HB6.out.size)))
  clear h7 l0 l1 l2 l3 l4
  go_wp2_with fail
  go_ret
  exact ⟨rfl, HF7⟩

set_option maxRecDepth 100000 in
set_option maxHeartbeats 6400000 in
theorem codes_yes (x : XI) (A : Option Addr) (c : Nat) (w : World) (ht : Hid (LaidI w)) (hix : Hid x.In) (r1 : Hid (Reads w w.heap.size 1 A x.l.length (x.l.map U))) (b1 : x.l.length ≤ 120) (hq : rightX x = true) :
    Calls Tryz.prog 6 #[.agg #[.int .i64 x.code, .int .u64 (x.a : Int), .int .u64 (x.b : Int), .int .i64 x.al, .slice A x.l.length c]] w fun e w' => e = .returned (.bool true) ∧ Hid (Below w.heap.size w w') := by
  obtain ⟨W, hW⟩ : ∃ W, w.alloc (.cells #[.int .i64 x.code, .int .u64 (x.a : Int), .int .u64 (x.b : Int), .int .i64 x.al, .slice A x.l.length c] 25) = W := ⟨_, rfl⟩
  obtain ⟨g, hg⟩ : ∃ g, w.heap.size = g := ⟨_, rfl⟩
  have hbW : Below g w W := by rw [← hW, ← hg]; exact (Below.refl _ _).alloc (Nat.le_refl _) _
  have hx : RXV W g x A c := by rw [← hW, ← hg]; exact rxv_new w x A c
  have hsz : W.heap.size = g + 1 := by rw [← hW, ← hg]; simp
  obtain ⟨l0, l1, l2, l3, l4⟩ := hx.cs
  have HA := hide (awake11 W (hide (ht.out.below (by rw [hg]; exact hbW))))
  rw [hg] at r1
  have R1 : Hid (Reads W W.heap.size 1 A x.l.length (x.l.map U)) := (r1.out.below hbW).more (by omega)
  have T1 := hide (fun V (h : Below W.heap.size W V) => toX_any x A c V (hide ((R1.out.below h).more h.size)) (by omega))
  have Q1 := hide (fun V (h : Below W.heap.size W V) => rright_any x A c V hix (hide ((R1.out.below h).more h.size)) (by omega))
  have IS := hide (fun V B1 B2 d1 d2 (h1 : Reads V V.heap.size 1 B1 x.l.length (x.l.map U)) (h2 : Reads V V.heap.size 1 B2 x.l.length (x.l.map U)) => isame2_any x x B1 B2 d1 d2 V (hide h1) (hide h2) (by omega) (by omega))
  have RS := hide (fun V B1 B2 d1 d2 (h1 : Reads V V.heap.size 1 B1 x.l.length (x.l.map U)) (h2 : Reads V V.heap.size 1 B2 x.l.length (x.l.map U)) => rsame2_any x x B1 B2 d1 d2 V (hide h1) (hide h2) (by omega) (by omega))
  have IR := hide (fun V Bz dz (h1 : Reads V V.heap.size 1 Bz x.l.length (x.l.map U)) => insRight_any x Bz dz V hix (hide h1) (by omega))
  have EY := hide (fun V Bz dz (h1 : Reads V V.heap.size 1 Bz x.l.length (x.l.map U)) => encode_yes x Bz dz V hix (hide h1) (by omega) (hide hq))
  have RN : Hid (∀ V, Below W.heap.size W V → Calls Tryz.prog 25 #[.agg #[.int .i64 x.code, .int .u64 (x.a : Int), .int .u64 (x.b : Int), .int .i64 x.al, .slice A x.l.length c]] V (fun e w' => ∃ v', e = .returned v' ∧ Hid (OwnB w' V.heap.size v' (encX x)) ∧ Hid (Below V.heap.size V w'))) := (fun V (h : Below W.heap.size W V) => refEncode_any x A c V hix (hide ((R1.out.below h).more h.size)) (by omega) (hide hq))
  have hdx : decodeR (encX x) = (x.code.toNat, drOf (encX x).length x) := by have := decode_enc x hix.out hq []; rwa [List.append_nil] at this
  have hlx := encX_len hix.out hq
  have hcn : 0 ≤ x.code ∧ 0 ≤ x.al := by
    obtain ⟨r, hr, hc, hf⟩ := right_some hq
    refine ⟨?_, ?_⟩
    · unfold codeIn at hc
      simp only [Bool.or_eq_true, Bool.and_eq_true, decide_eq_true_eq] at hc
      omega
    · unfold rightF at hf
      repeat' (split at hf)
      all_goals first | (simp at hf; omega) | (cases hf)
  have HDX := hide hdx; have HLX0 := hide hlx; have HCN := hide hcn
  obtain ⟨p, hp⟩ : ∃ p, rightX x = p := ⟨_, rfl⟩
  rw [hp] at Q1 IR hq
  subst hq
  have HW := hide hW; have HB := hide hbW; have HG := hide hg; have HX := hide hx
  have HGW : Hid (g < W.heap.size) := by show g < _; omega
  have FIN : ∀ V, Below W.heap.size W V → Below w.heap.size w V := fun V h => by rw [HG.out]; exact HB.out.trans (h.mono (by have := HGW.out; omega))
  have HFIN := hide FIN
  clear FIN hW hbW hg hx ht hsz
  clear hp r1 hdx hlx hcn
  go_enter Tryz.func6, Tryz.ntmps6
  go_upto_region 1 with fail
  rw [HW.out, HG.out]
  go_wp2_with fail
  refine HA.out.mono ?_; rintro e w1 ⟨rfl, h1⟩
  have HB1 : Hid (Below W.heap.size W w1) := h1.out
  clear l0 l1 l2 l3 l4
  obtain ⟨l0, l1, l2, l3, l4⟩ := (HX.out.below HB1.out HGW.out).cs
  clear HA
  go_wp2_with fail
  refine (T1.out _ HB1.out).mono ?_; rintro e w2 ⟨A2, c2, rfl, ho2, h2⟩
  have HB2 : Hid (Below W.heap.size W w2) := HB1.out.trans (h2.out.mono HB1.out.size)
  clear l0 l1 l2 l3 l4
  obtain ⟨l0, l1, l2, l3, l4⟩ := (HX.out.below HB2.out HGW.out).cs
  go_wp2_with fail
  refine (EY.out _ A2 c2 (Reads.of_own ho2.out)).mono ?_; rintro e w3 ⟨v3, rfl, ho3, h3⟩
  have HB3 : Hid (Below W.heap.size W w3) := HB2.out.trans (h3.out.mono HB2.out.size)
  clear l0 l1 l2 l3 l4
  obtain ⟨l0, l1, l2, l3, l4⟩ := (HX.out.below HB3.out HGW.out).cs
  obtain ⟨B1, d1, hv, hd1, hd2⟩ := own_form ho3.out
  subst hv
  have RB3 : Hid (Reads w3 w3.heap.size 1 B1 (encX x).length ((encX x).map B)) := Reads.of_own ho3.out
  clear ho2 ho3 hd1 hd2
  go_wp2_with fail
  refine (Q1.out _ HB3.out).mono ?_; rintro e w4 ⟨rfl, h4⟩
  have HB4 : Hid (Below W.heap.size W w4) := HB3.out.trans (h4.out.mono HB3.out.size)
  clear l0 l1 l2 l3 l4
  obtain ⟨l0, l1, l2, l3, l4⟩ := (HX.out.below HB4.out HGW.out).cs
  go_upto_region 5 with fail
  refine wp_region_factsR grew_ext (factsOf [fun yy _ => yy = .agg #[.int .i64 x.code, .int .u64 (x.a : Int), .int .u64 (x.b : Int), .int .i64 x.al, .slice A x.l.length c],
    fun yy WW => ∃ Az cz, yy = .agg #[.int .i64 x.code, .int .u64 (x.a : Int), .int .u64 (x.b : Int), .int .i64 x.al, .slice Az x.l.length cz] ∧ WW.ownsRow w4.heap.size 22 1 (.slice Az x.l.length cz) x.l.length (x.l.map U),
    fun yy _ => yy = .bool true,
    fun yy _ => yy = .bool true,
    fun yy _ => yy = .bool false,
    fun yy _ => yy = .bool false,
    fun yy _ => yy = .agg #[.int .i64 x.code, .int .u64 (x.a : Int), .int .u64 (x.b : Int), .int .i64 x.al, .slice A x.l.length c],
    fun yy WW => ∃ Az cz, yy = .agg #[.int .i64 x.code, .int .u64 (x.a : Int), .int .u64 (x.b : Int), .int .i64 x.al, .slice Az x.l.length cz] ∧ WW.ownsRow w4.heap.size 22 1 (.slice Az x.l.length cz) x.l.length (x.l.map U),
    fun yy _ => yy = .agg #[.int .i64 x.code, .int .u64 (x.a : Int), .int .u64 (x.b : Int), .int .i64 x.al, .slice A x.l.length c],
    fun yy WW => ∃ Az cz, yy = .agg #[.int .i64 x.code, .int .u64 (x.a : Int), .int .u64 (x.b : Int), .int .i64 x.al, .slice Az x.l.length cz] ∧ WW.ownsRow w4.heap.size 22 1 (.slice Az x.l.length cz) x.l.length (x.l.map U),
    fun yy _ => yy = .bool true,
    fun yy _ => yy = .bool false,
    fun yy _ => yy = .bool false]) (by kernel_rfl) (by kernel_rfl) ?_ ?_
  · refine ⟨?_, ?_, ?_, ?_, ?_, ?_, ?_, ?_, ?_, ?_, ?_, ?_, ?_, trivial⟩
    · refine ⟨fun ρ W3 hk => ?_⟩
      have o1 : ρ (.tmp 1) = .pointer (some ⟨g, 0, none⟩) := hk.old 1 (by decide)
      have hv := HX.out.below (HB4.out.trans (hk.below.mono HB4.out.size)) HGW.out
      exact OpOut.load (x := .tmp 1) rfl o1 (run_loadX hv) ⟨Below.refl _ _, rfl⟩
    · refine ⟨fun ρ W3 hk => ?_⟩
      have h0 := (hk.fact 0 29 (by decide) rfl).pure
      refine OpOut.fn (args := #[.agg #[.int .i64 x.code, .int .u64 (x.a : Int), .int .u64 (x.b : Int), .int .i64 x.al, .slice A x.l.length c]]) rfl (hk.func _) (by simp [h0]) Tryz.func10 (by kernel_rfl) rfl ?_
      refine (T1.out W3 (HB4.out.trans (hk.below.mono HB4.out.size))).mono ?_; rintro e w5 ⟨Az, cz, rfl, ho5, hb5⟩
      exact ⟨_, rfl, hb5.out, Az, cz, rfl, own_base ho5.out (fun q hq => by have := own_ge ho5.out q hq; have := hk.below.size; omega)⟩
    · refine ⟨fun ρ W3 hk => ?_⟩
      obtain ⟨u1, hu1, Az1, cz1, h1, ho1⟩ := hk.fact 1 30 (by decide) rfl
      refine OpOut.fn (args := #[.agg #[.int .i64 x.code, .int .u64 (x.a : Int), .int .u64 (x.b : Int), .int .i64 x.al, .slice Az1 x.l.length cz1]]) rfl (hk.func _) (by simp [h1]) Tryz.func24 (by kernel_rfl) rfl ?_
      have q1 := Reads.of_own (own_only3 (S := []) ho1 (Only.of_below hu1) (by simp))
      refine (IR.out W3 Az1 cz1 q1).mono ?_; rintro e w5 ⟨rfl, hb5⟩
      exact ⟨_, rfl, hb5.out, rfl⟩
    · refine ⟨fun ρ W3 hk => ?_⟩
      have o5 : ρ (.tmp 5) = .bool true := hk.old 5 (by decide)
      exact OpOut.move (.tmp 5) rfl ⟨Below.refl _ _, o5⟩
    · refine ⟨fun ρ W3 hk => ?_⟩
      have h2 := (hk.fact 2 31 (by decide) rfl).pure
      have h3 := (hk.fact 3 32 (by decide) rfl).pure
      exact OpOut.bin (x := .tmp 31) (y := .tmp 32) (v := .bool false) rfl (by rw [h2, h3]; go_simp) (by rw [h2, h3]; exact run_neq_bool true W3) ⟨Below.refl _ _, rfl⟩
    · refine ⟨fun ρ W3 hk => ?_⟩
      have h4 := (hk.fact 4 33 (by decide) rfl).pure
      exact OpOut.move (.tmp 33) rfl ⟨Below.refl _ _, h4⟩
    · refine ⟨fun ρ W3 hk => ?_⟩
      have o1 : ρ (.tmp 1) = .pointer (some ⟨g, 0, none⟩) := hk.old 1 (by decide)
      have h5 := (hk.fact 5 34 (by decide) rfl).pure
      refine ⟨34, rfl, .inl ⟨false, h5, fun _ => ?_, fun h => absurd rfl h⟩⟩
      have hv := HX.out.below (HB4.out.trans (hk.below.mono HB4.out.size)) HGW.out
      exact OpOut.load (x := .tmp 1) rfl o1 (run_loadX hv) ⟨Below.refl _ _, rfl⟩
    · refine ⟨fun ρ W3 hk => ?_⟩
      have h6 := (hk.fact 6 35 (by decide) rfl).pure
      have h5 := (hk.fact 5 34 (by decide) rfl).pure
      refine ⟨34, rfl, .inl ⟨false, h5, fun _ => ?_, fun h => absurd rfl h⟩⟩
      refine OpOut.fn (args := #[.agg #[.int .i64 x.code, .int .u64 (x.a : Int), .int .u64 (x.b : Int), .int .i64 x.al, .slice A x.l.length c]]) rfl (hk.func _) (by simp [h6]) Tryz.func10 (by kernel_rfl) rfl ?_
      refine (T1.out W3 (HB4.out.trans (hk.below.mono HB4.out.size))).mono ?_; rintro e w5 ⟨Az, cz, rfl, ho5, hb5⟩
      exact ⟨_, rfl, hb5.out, Az, cz, rfl, own_base ho5.out (fun q hq => by have := own_ge ho5.out q hq; have := hk.below.size; omega)⟩
    · refine ⟨fun ρ W3 hk => ?_⟩
      have o1 : ρ (.tmp 1) = .pointer (some ⟨g, 0, none⟩) := hk.old 1 (by decide)
      have h5 := (hk.fact 5 34 (by decide) rfl).pure
      refine ⟨34, rfl, .inl ⟨false, h5, fun _ => ?_, fun h => absurd rfl h⟩⟩
      have hv := HX.out.below (HB4.out.trans (hk.below.mono HB4.out.size)) HGW.out
      exact OpOut.load (x := .tmp 1) rfl o1 (run_loadX hv) ⟨Below.refl _ _, rfl⟩
    · refine ⟨fun ρ W3 hk => ?_⟩
      have h8 := (hk.fact 8 37 (by decide) rfl).pure
      have h5 := (hk.fact 5 34 (by decide) rfl).pure
      refine ⟨34, rfl, .inl ⟨false, h5, fun _ => ?_, fun h => absurd rfl h⟩⟩
      refine OpOut.fn (args := #[.agg #[.int .i64 x.code, .int .u64 (x.a : Int), .int .u64 (x.b : Int), .int .i64 x.al, .slice A x.l.length c]]) rfl (hk.func _) (by simp [h8]) Tryz.func10 (by kernel_rfl) rfl ?_
      refine (T1.out W3 (HB4.out.trans (hk.below.mono HB4.out.size))).mono ?_; rintro e w5 ⟨Az, cz, rfl, ho5, hb5⟩
      exact ⟨_, rfl, hb5.out, Az, cz, rfl, own_base ho5.out (fun q hq => by have := own_ge ho5.out q hq; have := hk.below.size; omega)⟩
    · refine ⟨fun ρ W3 hk => ?_⟩
      obtain ⟨u7, hu7, Az7, cz7, h7, ho7⟩ := hk.fact 7 36 (by decide) rfl
      obtain ⟨u9, hu9, Az9, cz9, h9, ho9⟩ := hk.fact 9 38 (by decide) rfl
      have h5 := (hk.fact 5 34 (by decide) rfl).pure
      refine ⟨34, rfl, .inl ⟨false, h5, fun _ => ?_, fun h => absurd rfl h⟩⟩
      refine OpOut.fn (args := #[.agg #[.int .i64 x.code, .int .u64 (x.a : Int), .int .u64 (x.b : Int), .int .i64 x.al, .slice Az7 x.l.length cz7], .agg #[.int .i64 x.code, .int .u64 (x.a : Int), .int .u64 (x.b : Int), .int .i64 x.al, .slice Az9 x.l.length cz9]]) rfl (hk.func _) (by simp [h7, h9]) Tryz.func16 (by kernel_rfl) rfl ?_
      have q7 := Reads.of_own (own_only3 (S := []) ho7 (Only.of_below hu7) (by simp))
      have q9 := Reads.of_own (own_only3 (S := []) ho9 (Only.of_below hu9) (by simp))
      refine (IS.out W3 Az7 Az9 cz7 cz9 q7 q9).mono ?_; rintro e w5 ⟨rfl, hb5⟩
      exact ⟨_, rfl, hb5.out, congrArg Value.bool (sameX_refl _)⟩
    · refine ⟨fun ρ W3 hk => ?_⟩
      have h10 := (hk.fact 10 39 (by decide) rfl).pure
      have h5 := (hk.fact 5 34 (by decide) rfl).pure
      refine ⟨34, rfl, .inl ⟨false, h5, fun _ => ?_, fun h => absurd rfl h⟩⟩
      exact OpOut.un (x := .tmp 39) rfl (by rw [h10]; go_simp) ⟨Below.refl _ _, rfl⟩
    · refine ⟨fun ρ W3 hk => ?_⟩
      have h5 := (hk.fact 5 34 (by decide) rfl).pure
      have h11 := (hk.fact 11 40 (by decide) rfl).pure
      exact OpOut.pick (c := .tmp 34) (b := false) rfl h5 ⟨Below.refl _ _, h11⟩
  intro vs w5 hb hf
  have h12 := (hf 12 (by decide)).pure
  clear hf
  simp only [fillL]
  go_frame
  rw [h12]
  have h5 := hide hb
  clear hb
  have HB5 : Hid (Below W.heap.size W w5) := HB4.out.trans (h5.out.mono HB4.out.size)
  clear l0 l1 l2 l3 l4
  obtain ⟨l0, l1, l2, l3, l4⟩ := (HX.out.below HB5.out HGW.out).cs
  have hlx := HLX0.out
  have RB5 : Hid (Reads w5 w5.heap.size 1 B1 (encX x).length ((encX x).map B)) := (RB3.out.below (h4.out.trans (h5.out.mono h4.out.size))).more (Nat.le_trans h4.out.size h5.out.size)
  have FN := hide (fun V (h : Below w5.heap.size w5 V) => new_any B1 d1 w5.heap.size (encX x) V (hide (RB5.out.below h)) (by omega))
  generalize encX x = ex at *
  go_wp2_with fail
  refine (FN.out _ (Below.refl _ _)).mono ?_; rintro e w6 ⟨f, Af, cf, rfl, hfl, hF, h6⟩
  have HB6 : Hid (Below W.heap.size W w6) := HB5.out.trans (h6.out.mono HB5.out.size)
  clear l0 l1 l2 l3 l4
  obtain ⟨l0, l1, l2, l3, l4⟩ := (HX.out.below HB6.out HGW.out).cs
  have HC := hide (cursor_any f cf Af ex 0 (-1) 0 (ex.length : Int) w6 hF (by omega) (by omega) (by omega))
  clear FN
  go_wp2_with fail
  refine HC.out.mono ?_; rintro e w7 ⟨gc, rfl, hgc, hCU, h7⟩
  have HB7 : Hid (Below W.heap.size W w7) := HB6.out.trans (h7.out.mono HB6.out.size)
  clear l0 l1 l2 l3 l4
  obtain ⟨l0, l1, l2, l3, l4⟩ := (HX.out.below HB7.out HGW.out).cs
  have hF7 := hide (hF.out.below h7.out (blk_lt hF.out.blk))
  have HD := hide (decode_step gc f cf Af ex 0 (-1) 0 (ex.length : Int) 0 w7 hF7 hCU (by omega) (by omega) (by omega) (by omega) (by omega) (by omega) (by omega))
  have hpart : partB ex 0 ((ex.length : Int) - 0) = ex := by
    unfold partB
    rw [Int.sub_zero, Int.toNat_natCast]
    simp
  rw [hpart, HDX.out] at HD
  have hfg := hCU.out.lt
  have hg7 : gc < w7.heap.size := blk_lt hCU.out.blk
  clear HC hpart hF hF7 hCU
  go_wp2_with fail
  refine HD.out.mono ?_; rintro e w8 ⟨⟨code, xa, xb, al, Al, cl, xs, r', at', e', rfl, F8, C8, O8, own8, hr1, hr2, hat1, hat2, hxl, hcode, HOK⟩⟩
  obtain ⟨q1, q3, q4, q5, q6, q7, q8⟩ : e' = 0 ∧ at' = (0 : Int) + ex.length ∧ code = x.code.toNat ∧ xa = x.a ∧ xb = x.b ∧ al = x.al.toNat ∧ xs = x.l := by
    rcases HOK.out with ⟨a1, a2, a3, a4, a5, a6, a7, a8⟩ | ⟨_, _, _, _, _, _, _, h | h⟩
    · exact ⟨a1, a3, a4, a5, a6, a7, a8⟩
    · exact absurd rfl h.1
    · omega
  have u4 : ((code : Nat) : Int) = x.code := by have := HCN.out; omega
  have u7 : ((al : Nat) : Int) = x.al := by have := HCN.out; omega
  have u3 : at' = (ex.length : Int) := by omega
  rw [u4, u7]
  clear q4 q7 q3 HOK HD u4 u7 hcode
  subst q1 q5 q6 q8 u3
  obtain ⟨w9, hW9⟩ : ∃ w9, w8.alloc (.cells #[.int .i64 x.code, .int .u64 (x.a : Int), .int .u64 (x.b : Int), .int .i64 x.al, .slice Al x.l.length cl] 28) = w9 := ⟨_, rfl⟩
  obtain ⟨gi, hgi⟩ : ∃ gi, w8.heap.size = gi := ⟨_, rfl⟩
  have hbi : Below gi w8 w9 := by rw [← hW9, ← hgi]; exact (Below.refl _ _).alloc (Nat.le_refl _) _
  have HXI : Hid (w9.heap[gi]? = some (.cells #[.int .i64 x.code, .int .u64 (x.a : Int), .int .u64 (x.b : Int), .int .i64 x.al, .slice Al x.l.length cl] 28 (0, 0))) := by show _ = _; rw [← hW9, ← hgi]; exact heap_alloc_new w8 _
  have hs8 := O8.out.size
  have h57 : Below w5.heap.size w5 w7 := h6.out.trans (h7.out.mono h6.out.size)
  have h79 : Below w5.heap.size w7 w9 := (O8.out.below h57.size (by simp; have := h6.out.size; omega)).trans (hbi.mono (by have := h57.size; omega))
  have h9 : Hid (Below w5.heap.size w5 w9) := h57.trans h79
  have HB9 : Hid (Below W.heap.size W w9) := HB5.out.trans (h9.out.mono HB5.out.size)
  have C9 := hide (C8.out.below hbi (by omega))
  have HGI9 : Hid (gi < w9.heap.size) := blk_lt HXI.out
  have HGC9 : Hid (gc < w9.heap.size) := blk_lt C9.out.blk
  have RI9 : Hid (Reads w9 w9.heap.size 1 Al x.l.length (x.l.map U)) := Reads.of_own (own_only3 (S := []) own8.out (Only.of_below (by rw [hgi]; exact hbi)) (by simp))
  have RB9 : Hid (Reads w9 w9.heap.size 1 B1 ex.length (ex.map B)) := (RB5.out.below h9.out).more h9.out.size
  have HLX : Hid ((ex.length : Int) ≤ 1000000) := by show (_ : Int) ≤ _; omega
  have HW9 := hide hW9; have HGI := hide hgi
  have HF9 := hide (HFIN.out _ HB9.out)
  clear hW9 hgi hbi hs8 h57 h79 F8 C8 O8 own8 l0 l1 l2 l3 l4 hlx
  go_upto_region 12 with fail
  rw [HW9.out, HGI.out]
  refine wp_region_factsR grew_ext (factsOf [fun yy _ => yy = .slice B1 ex.length d1,
    fun yy _ => yy = .string ⟨ex.toArray⟩,
    fun yy _ => yy = .agg #[.int .i64 x.code, .int .u64 (x.a : Int), .int .u64 (x.b : Int), .int .i64 x.al, .slice A x.l.length c],
    fun yy WW => ∃ Az cz, yy = .slice Az ex.length cz ∧ OwnB WW w9.heap.size (.slice Az ex.length cz) ex,
    fun yy _ => yy = .string ⟨ex.toArray⟩,
    fun yy _ => yy = .bool true,
    fun yy _ => yy = .bool true,
    fun yy _ => yy = .int .i64 0,
    fun yy _ => yy = .bool true,
    fun yy _ => yy = .bool true,
    fun yy _ => yy = .bool true,
    fun yy _ => yy = .int .i64 0,
    fun yy _ => yy = .bool true,
    fun yy _ => yy = .bool true,
    fun yy _ => yy = .bool true,
    fun yy _ => yy = .agg #[.int .i64 x.code, .int .u64 (x.a : Int), .int .u64 (x.b : Int), .int .i64 x.al, .slice Al x.l.length cl],
    fun yy _ => yy = .agg #[.int .i64 x.code, .int .u64 (x.a : Int), .int .u64 (x.b : Int), .int .i64 x.al, .slice Al x.l.length cl],
    fun yy _ => yy = .agg #[.int .i64 x.code, .int .u64 (x.a : Int), .int .u64 (x.b : Int), .int .i64 x.al, .slice A x.l.length c],
    fun yy _ => yy = .bool true,
    fun yy _ => yy = .bool true,
    fun yy _ => yy = .bool true,
    fun yy _ => yy = .pointer (some ⟨gc, 0, none⟩),
    fun yy _ => yy = .int .i64 0,
    fun yy _ => yy = .bool true,
    fun yy _ => yy = .bool true,
    fun yy _ => yy = .bool true]) (by kernel_rfl) (by kernel_rfl) ?_ ?_
  · refine ⟨?_, ?_, ?_, ?_, ?_, ?_, ?_, ?_, ?_, ?_, ?_, ?_, ?_, ?_, ?_, ?_, ?_, ?_, ?_, ?_, ?_, ?_, ?_, ?_, ?_, ?_, trivial⟩
    · refine ⟨fun ρ W3 hk => ?_⟩
      have o3 : ρ (.tmp 3) = .slice B1 ex.length d1 := hk.old 3 (by decide)
      exact OpOut.move (.tmp 3) rfl ⟨Below.refl _ _, o3⟩
    · refine ⟨fun ρ W3 hk => ?_⟩
      have h0 := (hk.fact 0 74 (by decide) rfl).pure
      exact OpOut.conv (x := .tmp 74) rfl (by rw [h0]; exact run_textB d1 ((RB9.out.below hk.below).more hk.below.size)) ⟨Below.refl _ _, rfl⟩
    · refine ⟨fun ρ W3 hk => ?_⟩
      have o1 : ρ (.tmp 1) = .pointer (some ⟨g, 0, none⟩) := hk.old 1 (by decide)
      have hv := HX.out.below (HB9.out.trans (hk.below.mono HB9.out.size)) HGW.out
      exact OpOut.load (x := .tmp 1) rfl o1 (run_loadX hv) ⟨Below.refl _ _, rfl⟩
    · refine ⟨fun ρ W3 hk => ?_⟩
      have h2 := (hk.fact 2 76 (by decide) rfl).pure
      refine OpOut.fn (args := #[.agg #[.int .i64 x.code, .int .u64 (x.a : Int), .int .u64 (x.b : Int), .int .i64 x.al, .slice A x.l.length c]]) rfl (hk.func _) (by simp [h2]) Tryz.func25 (by kernel_rfl) rfl ?_
      refine (RN.out W3 (HB9.out.trans (hk.below.mono HB9.out.size))).mono ?_; rintro e w5 ⟨v5, rfl, ho5, hb5⟩
      obtain ⟨Az, cz, hv5, _, _⟩ := own_form ho5.out
      subst hv5
      exact ⟨_, rfl, hb5.out, Az, cz, rfl, own_base ho5.out (fun q hq => by have := own_ge ho5.out q hq; have := hk.below.size; omega)⟩
    · refine ⟨fun ρ W3 hk => ?_⟩
      obtain ⟨u3, hu3, Az3, cz3, h3, ho3⟩ := hk.fact 3 77 (by decide) rfl
      exact OpOut.conv (x := .tmp 77) rfl (by rw [h3]; exact run_textB cz3 (Reads.of_own (own_only3 (S := []) ho3 (Only.of_below hu3) (by simp)))) ⟨Below.refl _ _, rfl⟩
    · refine ⟨fun ρ W3 hk => ?_⟩
      have h1 := (hk.fact 1 75 (by decide) rfl).pure
      have h4 := (hk.fact 4 78 (by decide) rfl).pure
      exact OpOut.bin (x := .tmp 75) (y := .tmp 78) (v := .bool true) rfl (by rw [h1, h4]; go_simp) (by rw [h1, h4]; exact run_eql_same _ W3) ⟨Below.refl _ _, rfl⟩
    · refine ⟨fun ρ W3 hk => ?_⟩
      have h5 := (hk.fact 5 79 (by decide) rfl).pure
      exact OpOut.move (.tmp 79) rfl ⟨Below.refl _ _, h5⟩
    · refine ⟨fun ρ W3 hk => ?_⟩
      have o4 : ρ (.tmp 4) = .int .i64 0 := hk.old 4 (by decide)
      have h6 := (hk.fact 6 80 (by decide) rfl).pure
      refine ⟨80, rfl, .inl ⟨true, h6, fun _ => ?_, fun h => absurd rfl h⟩⟩
      exact OpOut.move (.tmp 4) rfl ⟨Below.refl _ _, o4⟩
    · refine ⟨fun ρ W3 hk => ?_⟩
      have h7 := (hk.fact 7 81 (by decide) rfl).pure
      have h6 := (hk.fact 6 80 (by decide) rfl).pure
      refine ⟨80, rfl, .inl ⟨true, h6, fun _ => ?_, fun h => absurd rfl h⟩⟩
      exact OpOut.bin (x := .tmp 81) (y := .const (.int .i64 0)) (v := .bool true) rfl (by rw [h7, hk.const]; go_simp) (by rw [h7, hk.const]; go_simp) ⟨Below.refl _ _, rfl⟩
    · refine ⟨fun ρ W3 hk => ?_⟩
      have h6 := (hk.fact 6 80 (by decide) rfl).pure
      have h8 := (hk.fact 8 82 (by decide) rfl).pure
      exact OpOut.pick (c := .tmp 80) (b := true) rfl h6 ⟨Below.refl _ _, h8⟩
    · refine ⟨fun ρ W3 hk => ?_⟩
      have h9 := (hk.fact 9 83 (by decide) rfl).pure
      exact OpOut.move (.tmp 83) rfl ⟨Below.refl _ _, h9⟩
    · refine ⟨fun ρ W3 hk => ?_⟩
      have o11 : ρ (.tmp 11) = .int .i64 0 := hk.old 11 (by decide)
      have h10 := (hk.fact 10 84 (by decide) rfl).pure
      refine ⟨84, rfl, .inl ⟨true, h10, fun _ => ?_, fun h => absurd rfl h⟩⟩
      exact OpOut.move (.tmp 11) rfl ⟨Below.refl _ _, o11⟩
    · refine ⟨fun ρ W3 hk => ?_⟩
      have h11 := (hk.fact 11 85 (by decide) rfl).pure
      have h10 := (hk.fact 10 84 (by decide) rfl).pure
      refine ⟨84, rfl, .inl ⟨true, h10, fun _ => ?_, fun h => absurd rfl h⟩⟩
      exact OpOut.bin (x := .tmp 85) (y := .const (.int .i64 0)) (v := .bool true) rfl (by rw [h11, hk.const]; go_simp) (by rw [h11, hk.const]; go_simp) ⟨Below.refl _ _, rfl⟩
    · refine ⟨fun ρ W3 hk => ?_⟩
      have h10 := (hk.fact 10 84 (by decide) rfl).pure
      have h12 := (hk.fact 12 86 (by decide) rfl).pure
      exact OpOut.pick (c := .tmp 84) (b := true) rfl h10 ⟨Below.refl _ _, h12⟩
    · refine ⟨fun ρ W3 hk => ?_⟩
      have h13 := (hk.fact 13 87 (by decide) rfl).pure
      exact OpOut.move (.tmp 87) rfl ⟨Below.refl _ _, h13⟩
    · refine ⟨fun ρ W3 hk => ?_⟩
      have o10 : ρ (.tmp 10) = .pointer (some ⟨gi, 0, none⟩) := hk.old 10 (by decide)
      have h14 := (hk.fact 14 88 (by decide) rfl).pure
      refine ⟨88, rfl, .inl ⟨true, h14, fun _ => ?_, fun h => absurd rfl h⟩⟩
      have hv : XV W3 gi x Al cl := ⟨(hk.below.block gi HGI9.out).trans HXI.out⟩
      exact OpOut.load (x := .tmp 10) rfl o10 (run_loadXV hv) ⟨Below.refl _ _, rfl⟩
    · refine ⟨fun ρ W3 hk => ?_⟩
      have h15 := (hk.fact 15 89 (by decide) rfl).pure
      have h14 := (hk.fact 14 88 (by decide) rfl).pure
      refine ⟨88, rfl, .inl ⟨true, h14, fun _ => ?_, fun h => absurd rfl h⟩⟩
      refine OpOut.fn (args := #[.agg #[.int .i64 x.code, .int .u64 (x.a : Int), .int .u64 (x.b : Int), .int .i64 x.al, .slice Al x.l.length cl]]) rfl (hk.func _) (by simp [h15]) Tryz.func15 (by kernel_rfl) rfl ?_
      refine (ofX_any x Al cl W3).mono ?_; rintro e w5 ⟨rfl, hb5⟩
      exact ⟨_, rfl, hb5.out, rfl⟩
    · refine ⟨fun ρ W3 hk => ?_⟩
      have o1 : ρ (.tmp 1) = .pointer (some ⟨g, 0, none⟩) := hk.old 1 (by decide)
      have h14 := (hk.fact 14 88 (by decide) rfl).pure
      refine ⟨88, rfl, .inl ⟨true, h14, fun _ => ?_, fun h => absurd rfl h⟩⟩
      have hv := HX.out.below (HB9.out.trans (hk.below.mono HB9.out.size)) HGW.out
      exact OpOut.load (x := .tmp 1) rfl o1 (run_loadX hv) ⟨Below.refl _ _, rfl⟩
    · refine ⟨fun ρ W3 hk => ?_⟩
      have h16 := (hk.fact 16 90 (by decide) rfl).pure
      have h17 := (hk.fact 17 91 (by decide) rfl).pure
      have h14 := (hk.fact 14 88 (by decide) rfl).pure
      refine ⟨88, rfl, .inl ⟨true, h14, fun _ => ?_, fun h => absurd rfl h⟩⟩
      refine OpOut.fn (args := #[.agg #[.int .i64 x.code, .int .u64 (x.a : Int), .int .u64 (x.b : Int), .int .i64 x.al, .slice Al x.l.length cl], .agg #[.int .i64 x.code, .int .u64 (x.a : Int), .int .u64 (x.b : Int), .int .i64 x.al, .slice A x.l.length c]]) rfl (hk.func _) (by simp [h16, h17]) Tryz.func14 (by kernel_rfl) rfl ?_
      refine (RS.out W3 Al A cl c ((RI9.out.below hk.below).more hk.below.size) ((R1.out.below (HB9.out.trans (hk.below.mono HB9.out.size))).more (Nat.le_trans HB9.out.size hk.below.size))).mono ?_; rintro e w5 ⟨rfl, hb5⟩
      exact ⟨_, rfl, hb5.out, congrArg Value.bool (sameX_refl _)⟩
    · refine ⟨fun ρ W3 hk => ?_⟩
      have h14 := (hk.fact 14 88 (by decide) rfl).pure
      have h18 := (hk.fact 18 92 (by decide) rfl).pure
      exact OpOut.pick (c := .tmp 88) (b := true) rfl h14 ⟨Below.refl _ _, h18⟩
    · refine ⟨fun ρ W3 hk => ?_⟩
      have h19 := (hk.fact 19 93 (by decide) rfl).pure
      exact OpOut.move (.tmp 93) rfl ⟨Below.refl _ _, h19⟩
    · refine ⟨fun ρ W3 hk => ?_⟩
      have o8 : ρ (.tmp 8) = .pointer (some ⟨gc, 0, none⟩) := hk.old 8 (by decide)
      have h20 := (hk.fact 20 94 (by decide) rfl).pure
      refine ⟨94, rfl, .inl ⟨true, h20, fun _ => ?_, fun h => absurd rfl h⟩⟩
      exact OpOut.move (.tmp 8) rfl ⟨Below.refl _ _, o8⟩
    · refine ⟨fun ρ W3 hk => ?_⟩
      have h21 := (hk.fact 21 95 (by decide) rfl).pure
      have h20 := (hk.fact 20 94 (by decide) rfl).pure
      refine ⟨94, rfl, .inl ⟨true, h20, fun _ => ?_, fun h => absurd rfl h⟩⟩
      refine OpOut.fn (args := #[.pointer (some ⟨gc, 0, none⟩)]) rfl (hk.func _) (by simp [h21]) Tryz.func26 (by kernel_rfl) rfl ?_
      refine (left_any gc f 0 (ex.length : Int) (ex.length : Int) W3 (hide (C9.out.below hk.below HGC9.out)) (by omega) (by omega) HLX.out).mono ?_; rintro e w5 ⟨rfl, nd, rfl⟩
      exact ⟨_, rfl, below_drewN4 (Below.refl _ _) nd, congrArg (Value.int .i64) (Int.sub_self _)⟩
    · refine ⟨fun ρ W3 hk => ?_⟩
      have h22 := (hk.fact 22 96 (by decide) rfl).pure
      have h20 := (hk.fact 20 94 (by decide) rfl).pure
      refine ⟨94, rfl, .inl ⟨true, h20, fun _ => ?_, fun h => absurd rfl h⟩⟩
      exact OpOut.bin (x := .tmp 96) (y := .const (.int .i64 0)) (v := .bool true) rfl (by rw [h22, hk.const]; go_simp) (by rw [h22, hk.const]; go_simp) ⟨Below.refl _ _, rfl⟩
    · refine ⟨fun ρ W3 hk => ?_⟩
      have h20 := (hk.fact 20 94 (by decide) rfl).pure
      have h23 := (hk.fact 23 97 (by decide) rfl).pure
      exact OpOut.pick (c := .tmp 94) (b := true) rfl h20 ⟨Below.refl _ _, h23⟩
    · refine ⟨fun ρ W3 hk => ?_⟩
      have h24 := (hk.fact 24 98 (by decide) rfl).pure
      exact OpOut.assign (.tmp 98) rfl ⟨Below.refl _ _, h24⟩
  intro vs w10 hb hf
  have h25 := (hf 25 (by decide)).pure
  clear hf
  simp only [fillL]
  go_frame
  rw [h25]
  have h10 := hide hb
  clear hb
  go_wp2_with fail
  go_ret
  exact ⟨rfl, HF9.out.trans (h10.out.mono HF9.out.size)⟩
end Go.Proofs.YtpanlhbdphobdaaGreatDoor

namespace Go.Proofs.YtpanlhbdphobdaaGreatDoor
open Go.RowKit
set_option linter.unusedVariables false

theorem InstrCodes_o0 {H : Type} {enc : TypeId × Value → H} {w : World} : Opens enc Tryz.prog w 25 riD (riOk w) := riX_opens
theorem InstrCodes_walk (p : RI) (w : World) (h0 : riOk w p) (hP : LaidLF w) :
    Calls Tryz.prog 6 #[.agg (riD p).toArray] w fun e w' => e = .returned (.bool true) ∧ Below w.heap.size w w' := by
  rw [riX_D h0]
  by_cases h : (riX p).l.length ≤ 120
  · cases hq : rightX (riX p) with
    | true => exact codes_yes (riX p) _ _ w (hide hP.i) (hide (riX_in h0)) (hide (riX_reads h0)) h hq
    | false => exact codes_no (riX p) _ _ w (hide hP.i) (hide (riX_in h0)) (hide (riX_reads h0)) h hq
  · exact codes_many (riX p) _ _ w (hide hP.i) (riX_bd h0) (by omega)
end Go.Proofs.YtpanlhbdphobdaaGreatDoor
