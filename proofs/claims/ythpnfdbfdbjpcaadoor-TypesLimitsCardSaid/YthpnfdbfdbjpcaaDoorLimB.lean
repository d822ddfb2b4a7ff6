/-
  types: limits told: contract.
-/
import Derived.Test.YthpnfdbfdbjpcaaDoorLimits
import Derived.Test.YthpnfdbfdbjpcaaDoorLimPure
import Derived.Test.YthpnfdbfdbjpcaaDoorLimN
import Derived.Test.YthpnfdbfdbjpcaaDoorTypesG
import Derived.Test.YthpnfdbfdbjpcaaDoorShelf
import Derived.Lib.AppendIntMem
namespace Go.Proofs.YthpnfdbfdbjpcaaDoor
open Go.RowKit Go.Sort
set_option linter.unusedVariables false

abbrev Tab (w : World) : Prop := Lib.TabIs Tryd.prog w "internal/strconv.uint64pow10" .u64 Lib.pow10Tab
/-- what the variables hold that this code reads -/
structure LaidL (w : World) : Prop where
  p10 : Tab w
  syn : ∃ tp p, w.cell? ⟨0, 0, none⟩ = some (.iface tp p)
  rng : ∃ tp p, w.cell? ⟨1, 0, none⟩ = some (.iface tp p)
  ml : LaidT w
theorem tab_below_any {P : Program} {name : String} {k : IntKind} {zs : List Int} {w w' : World} (h : Lib.TabIs P w name k zs) (hb : Below w.heap.size w w') : Lib.TabIs P w' name k zs := by
  unfold Lib.TabIs World.var? at *
  revert h
  cases hg : P.globalNamed name with
  | none => intro h; simp at h
  | some g =>
    intro h
    simp only [Option.bind_some] at h ⊢
    have hlt : g < w.heap.size := by
      apply Decidable.byContradiction
      intro hn
      rw [Array.getElem?_eq_none (by omega)] at h
      simp at h
    rw [hb.block g hlt]
    exact h
theorem LaidL.below {w w' : World} (h : LaidL w) (hb : Below w.heap.size w w') : LaidL w' := by
  refine ⟨tab_below_any h.p10 hb, ?_, ?_, h.ml.below hb⟩
  · obtain ⟨tp, p, e⟩ := h.syn
    exact ⟨tp, p, (hb.cell (World.block_lt_of_cell? w _ e)).trans e⟩
  · obtain ⟨tp, p, e⟩ := h.rng
    exact ⟨tp, p, (hb.cell (World.block_lt_of_cell? w _ e)).trans e⟩

theorem itoa_len (a : Int) (h0 : -9223372036854775808 ≤ a) (h1 : a ≤ 9223372036854775807) : (Lib.itoa a).length ≤ 21 := by
  by_cases h : 0 ≤ a
  · obtain ⟨m, rfl⟩ : ∃ m : Nat, a = m := ⟨a.toNat, by omega⟩
    rw [itoa_pos]
    have := digL10_len m (by omega)
    omega
  · obtain ⟨m, rfl⟩ : ∃ m : Nat, a = -(m : Int) := ⟨(-a).toNat, by omega⟩
    rw [itoa_neg' m (by omega)]
    have := digL10_len m (by omega)
    simp only [List.length_cons]
    omega
theorem itoaP (a : Int) (h0 : -9223372036854775808 ≤ a) (h1 : a ≤ 9223372036854775807) (w : World) (ht : Hid (LaidL w)) : Calls Tryd.prog 19 #[.int .i64 a] w (SaysP w (Lib.itoa a)) := by
  refine Calls.mono (Tryd.strconv_Itoa a h0 h1 w ht.out.p10) ?_
  rintro e w' ⟨rfl, k, os, rfl⟩
  exact ⟨rfl, Lib.below_grow w.heap.size w (Nat.le_refl _) k os⟩

theorem limL_neg {a b : Int} {wide : Bool} (h : b < 0) : limL a b wide = Lib.itoa a ++ [32] ++ [45] ++ suf wide := by
  unfold limL suf
  rw [if_neg (by omega)]
  simp
theorem limL_pos {a b : Int} {wide : Bool} (h : 0 ≤ b) : limL a b wide = Lib.itoa a ++ [32] ++ Lib.itoa b ++ suf wide := by
  unfold limL suf
  rw [if_pos h]
  simp
theorem cat_one (x : List UInt8) (c : UInt8) : (⟨x.toArray⟩ : ByteArray) ++ ⟨#[c]⟩ = ⟨(x ++ [c]).toArray⟩ := str_cat x [c]
theorem cat_i64 (x : List UInt8) : (⟨x.toArray⟩ : ByteArray) ++ (⟨#[32]⟩ ++ ⟨#[105, 54, 52]⟩) = ⟨(x ++ [32, 105, 54, 52]).toArray⟩ := by
  rw [show (⟨#[32]⟩ : ByteArray) ++ ⟨#[105, 54, 52]⟩ = ⟨([32, 105, 54, 52] : List UInt8).toArray⟩ from str_cat [32] [105, 54, 52]]
  exact str_cat x _
set_option maxHeartbeats 800000 in
set_option maxRecDepth 100000 in
theorem limPrint_any (a b : Int) (wide : Bool) (w : World) (a0 : -9223372036854775808 ≤ a) (a1 : a ≤ 9223372036854775807) (b0 : -9223372036854775808 ≤ b) (b1 : b ≤ 9223372036854775807) (ht : Hid (LaidL w)) :
    Calls Tryd.prog 7 #[limV a b wide] w (SaysP w (limL a b wide)) := by
  unfold limV
  obtain ⟨w1, hw1⟩ : ∃ w1, w.alloc (.cells #[.int .i64 a, .int .i64 b, .bool wide] 23) = w1 := ⟨_, rfl⟩
  have hb := (Below.refl w.heap.size w).alloc (Nat.le_refl _) (.cells #[.int .i64 a, .int .i64 b, .bool wide] 23)
  have hc0 : w1.cell? ⟨w.heap.size, 0, none⟩ = some (.int .i64 a) := by rw [← hw1, World.cell?_alloc_new]; rfl
  have hc1 : w1.cell? ⟨w.heap.size, 1, none⟩ = some (.int .i64 b) := by rw [← hw1, World.cell?_alloc_new]; rfl
  have hc2 : w1.cell? ⟨w.heap.size, 2, none⟩ = some (.bool wide) := by rw [← hw1, World.cell?_alloc_new]; rfl
  have hlt : w.heap.size < w1.heap.size := by rw [← hw1]; simp
  rw [hw1] at hb
  have HB := hide hb
  have HT := hide (ht.out.below hb)
  have HC0 := hide hc0
  have HC1 := hide hc1
  have HC2 := hide hc2
  have HLT := hide hlt
  obtain ⟨g, hg⟩ : ∃ g, w.heap.size = g := ⟨_, rfl⟩
  have PA := hide (fun W (h : Below w1.heap.size w1 W) => itoaP a a0 a1 W (HT.out.below h))
  have PB := hide (fun W (h : Below w1.heap.size w1 W) => itoaP b b0 b1 W (HT.out.below h))
  have la := itoa_len a a0 a1
  have lb := itoa_len b b0 b1
  have hsl : (suf wide).length ≤ 4 := by unfold suf; split <;> simp
  have keep := fun {W : World} (h : Below w1.heap.size w1 W) {i : Nat} {v : Value} (e : w1.cell? ⟨g, i, none⟩ = some v) => (h.cell (p := ⟨g, i, none⟩) (by rw [← hg]; exact HLT.out)).trans e
  have nm := tname_any 126
  rw [show nameL 126 = [105, 54, 52] from rfl] at nm
  have NM : Hid (∀ W, Calls Tryd.prog 20 #[.int .u8 126] W fun e w' => e = .returned (.string ⟨#[105, 54, 52]⟩) ∧ W = w') := nm
  clear nm
  clear hc0 hc1 hc2 hlt hb
  rw [hg] at HC0 HC1 HC2 HB
  have c0 := HC0.out
  have HW1 := hide hw1
  have HG := hide hg
  clear hw1 hg
  by_cases h : b < 0
  · rw [limL_neg h]
    generalize Lib.itoa a = x at *
    generalize Lib.itoa b = y at *
    clear lb hsl
    have HF1 : Hid ((⟨x.toArray⟩ : ByteArray) ++ ⟨#[32]⟩ ++ ⟨#[45]⟩ = ⟨(x ++ [32] ++ [45]).toArray⟩) := by show _ = _; rw [cat_one, cat_one]
    have HF2 : Hid ((⟨x.toArray⟩ : ByteArray) ++ ⟨#[32]⟩ ++ ⟨#[45]⟩ ++ (⟨#[32]⟩ ++ ⟨#[105, 54, 52]⟩) = ⟨(x ++ [32] ++ [45] ++ [32, 105, 54, 52]).toArray⟩) := by show _ = _; rw [cat_one, cat_one, cat_i64]
    cases wide with
    | false =>
      go_enter Tryd.func7, Tryd.ntmps7
      go_wp2_with fail
      rw [HW1.out, HG.out]
      refine (PA.out _ (Below.refl _ _)).mono ?_; rintro e w2 ⟨rfl, hb2⟩
      have c1 := keep hb2 HC1.out
      have c2 := keep hb2 HC2.out
      have HB2 := hide hb2
      clear hb2 keep
      go_wp2_with fail
      go_ret
      refine ⟨by rw [HF1.out]; simp [suf], ?_⟩
      rw [HG.out]
      exact HB.out.trans (HB2.out.mono (by rw [← HG.out]; exact Nat.le_of_lt HLT.out))
    | true =>
      go_enter Tryd.func7, Tryd.ntmps7
      go_wp2_with fail
      rw [HW1.out, HG.out]
      refine (PA.out _ (Below.refl _ _)).mono ?_; rintro e w2 ⟨rfl, hb2⟩
      have c1 := keep hb2 HC1.out
      have c2 := keep hb2 HC2.out
      have HB2 := hide hb2
      clear hb2 keep
      go_wp2_with fail
      refine (NM.out _).mono ?_; rintro e w3 ⟨rfl, rfl⟩
      go_wp2_with fail
      go_ret
      refine ⟨by rw [HF2.out]; rfl, ?_⟩
      rw [HG.out]
      exact HB.out.trans (HB2.out.mono (by rw [← HG.out]; exact Nat.le_of_lt HLT.out))
  · rw [limL_pos (by omega)]
    have h0 : (0 : Int) ≤ b := by omega
    clear h
    generalize Lib.itoa a = x at *
    generalize Lib.itoa b = y at *
    have LX := hide la
    have LY := hide lb
    have HF2 : Hid ((⟨(x ++ 32 :: y).toArray⟩ : ByteArray) ++ (⟨#[32]⟩ ++ ⟨#[105, 54, 52]⟩) = ⟨(x ++ [32] ++ y ++ [32, 105, 54, 52]).toArray⟩) := by rw [show x ++ [32] ++ y = x ++ 32 :: y from by simp]; exact cat_i64 _
    go_enter Tryd.func7, Tryd.ntmps7
    go_wp2_with fail
    rw [HW1.out, HG.out]
    refine (PA.out _ (Below.refl _ _)).mono ?_; rintro e w2 ⟨rfl, hb2⟩
    have c1 := keep hb2 HC1.out
    have HB2 := hide hb2
    have HC0' := hide (keep hb2 HC0.out)
    have HC1' := hide c1
    have HC2' := hide (keep hb2 HC2.out)
    clear hb2
    have PA2 := hide (fun W (h : Below w2.heap.size w2 W) => PA.out W (HB2.out.trans (h.mono HB2.out.size)))
    have PB2 := hide (fun W (h : Below w2.heap.size w2 W) => PB.out W (HB2.out.trans (h.mono HB2.out.size)))
    have hlt2 : g < w2.heap.size := Nat.lt_of_lt_of_le (by rw [← HG.out]; exact HLT.out) HB2.out.size
    have keep2 := fun {W : World} (h : Below w2.heap.size w2 W) {i : Nat} {v : Value} (e : w2.cell? ⟨g, i, none⟩ = some v) => (h.cell (p := ⟨g, i, none⟩) hlt2).trans e
    clear keep
    go_upto_region 3 with fail
    --REGIONA
    refine wp_region_factsR grew_ext (factsOf [fun yy _ => yy = .pointer (some ⟨g, 0, none⟩),
      fun yy _ => yy = .int .i64 a,
      fun yy _ => yy = .string ⟨x.toArray⟩,
      fun yy _ => yy = .string ⟨(x ++ [32] : List UInt8).toArray⟩,
      fun yy _ => yy = .pointer (some ⟨g, 1, none⟩),
      fun yy _ => yy = .int .i64 b,
      fun yy _ => yy = .string ⟨y.toArray⟩,
      fun yy _ => yy = .string ⟨(x ++ [32] ++ y : List UInt8).toArray⟩,
      fun yy _ => yy = .string ⟨(x ++ [32] ++ y : List UInt8).toArray⟩]) (by kernel_rfl) (by kernel_rfl) ?_ ?_
    · refine ⟨?_, ?_, ?_, ?_, ?_, ?_, ?_, ?_, ?_, trivial⟩
      · refine ⟨fun ρ W hk => ?_⟩
        have o1 : ρ (.tmp 1) = .pointer (some ⟨g, 0, none⟩) := hk.old 1 (by decide)
        exact OpOut.fieldAddr (x := .tmp 1) rfl o1 (by go_simp) ⟨Below.refl _ _, rfl⟩
      · refine ⟨fun ρ W hk => ?_⟩
        have h0 := (hk.fact 0 12 (by decide) rfl).pure
        have hc := keep2 hk.below HC0'.out
        exact OpOut.load (x := .tmp 12) rfl h0 (by go_simp) ⟨Below.refl _ _, rfl⟩
      · refine ⟨fun ρ W hk => ?_⟩
        have h1 := (hk.fact 1 13 (by decide) rfl).pure
        refine OpOut.fn (args := #[.int .i64 a]) rfl (hk.func _) (by simp [h1]) Tryd.func19 (by kernel_rfl) rfl ?_
        refine (PA2.out W hk.below).mono ?_; rintro e w5 ⟨rfl, hb5⟩
        exact ⟨_, rfl, hb5, rfl⟩
      · refine ⟨fun ρ W hk => ?_⟩
        have h2 := (hk.fact 2 14 (by decide) rfl).pure
        exact OpOut.bin (x := .tmp 14) (y := .const (.string ⟨#[32]⟩)) (v := .string ⟨(x ++ [32] : List UInt8).toArray⟩) rfl (by rw [h2, hk.const]; go_simp) (by rw [h2, hk.const]; exact run_cat x [32] _ _ (by have := LX.out; simp only [List.length_cons, List.length_nil]; omega)) ⟨Below.refl _ _, rfl⟩
      · refine ⟨fun ρ W hk => ?_⟩
        have o1 : ρ (.tmp 1) = .pointer (some ⟨g, 0, none⟩) := hk.old 1 (by decide)
        exact OpOut.fieldAddr (x := .tmp 1) rfl o1 (by go_simp) ⟨Below.refl _ _, rfl⟩
      · refine ⟨fun ρ W hk => ?_⟩
        have h4 := (hk.fact 4 16 (by decide) rfl).pure
        have hc := keep2 hk.below HC1'.out
        exact OpOut.load (x := .tmp 16) rfl h4 (by go_simp) ⟨Below.refl _ _, rfl⟩
      · refine ⟨fun ρ W hk => ?_⟩
        have h5 := (hk.fact 5 17 (by decide) rfl).pure
        refine OpOut.fn (args := #[.int .i64 b]) rfl (hk.func _) (by simp [h5]) Tryd.func19 (by kernel_rfl) rfl ?_
        refine (PB2.out W hk.below).mono ?_; rintro e w5 ⟨rfl, hb5⟩
        exact ⟨_, rfl, hb5, rfl⟩
      · refine ⟨fun ρ W hk => ?_⟩
        have h3 := (hk.fact 3 15 (by decide) rfl).pure
        have h6 := (hk.fact 6 18 (by decide) rfl).pure
        exact OpOut.bin (x := .tmp 15) (y := .tmp 18) (v := .string ⟨(x ++ [32] ++ y : List UInt8).toArray⟩) rfl (by rw [h3, h6]; go_simp) (by rw [h3, h6]; exact run_cat (x ++ [32]) y _ _ (by have := LX.out; have := LY.out; simp only [List.length_append, List.length_cons, List.length_nil]; omega)) ⟨Below.refl _ _, rfl⟩
      · refine ⟨fun ρ W hk => ?_⟩
        have h7 := (hk.fact 7 19 (by decide) rfl).pure
        exact OpOut.assign (.tmp 19) rfl ⟨Below.refl _ _, h7⟩
    · intro vs W hb hf
      have h8 := (hf 8 (by decide)).pure
      clear hf
      simp only [fillL]
      go_frame
      rw [h8]
    --ENDA
      have c2 := keep2 hb HC2'.out
      have HBW := hide (HB2.out.trans (hb.mono HB2.out.size))
      clear hb keep2
      cases wide with
      | false =>
        go_wp2_with fail
        go_ret
        refine ⟨by simp [suf], ?_⟩
        have := HB.out.trans ((HBW.out).mono (by rw [← HG.out]; exact Nat.le_of_lt HLT.out))
        rw [HG.out]
        exact this
      | true =>
        go_wp2_with fail
        refine (NM.out _).mono ?_; rintro e w3 ⟨rfl, rfl⟩
        go_wp2_with fail
        go_ret
        refine ⟨by rw [HF2.out]; rfl, ?_⟩
        have := HB.out.trans ((HBW.out).mono (by rw [← HG.out]; exact Nat.le_of_lt HLT.out))
        rw [HG.out]
        exact this
end Go.Proofs.YthpnfdbfdbjpcaaDoor
