/-
  HostRules: the walk.
-/
import Derived.Test.YtnfaaiifbiobiaaGreatDoorHostK
import Derived.Test.YtnfaaiifbiobiaaGreatDoorConvL
import Derived.Laws.StructEq
namespace Go.Proofs.YtnfaaiifbiobiaaGreatDoor
open Go.RowKit
set_option linter.unusedVariables false

set_option maxRecDepth 100000 in
theorem run_neq_rule (r : HR) (W : World) : (binOp .neq 24 (.agg #[.string ⟨r.m.toArray⟩, .string ⟨r.n.toArray⟩, .int .i64 r.way, .int .u64 (r.word : Int)]) (.agg #[.string ⟨r.m.toArray⟩, .string ⟨r.n.toArray⟩, .int .i64 r.way, .int .u64 (r.word : Int)])).run Tryz.prog W = .ok (.bool false) W := by
  have hS : Tryz.prog.underlying 24 = some (.struct (Tryz.prog.fieldsOf 24)) := by kernel_rfl
  have hp : Tryz.prog.stoodInHeld 24 = false := by kernel_rfl
  rw [run_neq_struct, show (10000 : Nat) = 9999 + 1 from rfl, run_equalIn_agg W 9999 24 _ _ hS hp]
  simp only [Program.fieldsOf, Tryz.underlying24]
  go_simp
set_option maxRecDepth 100000 in
theorem run_eql_rule0 (W : World) : (binOp .eql 24 (.agg #[.string ⟨#[]⟩, .string ⟨#[]⟩, .int .i64 0, .int .u64 0]) (.agg #[.string ⟨#[]⟩, .string ⟨#[]⟩, .int .i64 0, .int .u64 0])).run Tryz.prog W = .ok (.bool true) W := by
  have hS : Tryz.prog.underlying 24 = some (.struct (Tryz.prog.fieldsOf 24)) := by kernel_rfl
  have hp : Tryz.prog.stoodInHeld 24 = false := by kernel_rfl
  rw [run_eql_struct, show (10000 : Nat) = 9999 + 1 from rfl, run_equalIn_agg W 9999 24 _ _ hS hp]
  simp only [Program.fieldsOf, Tryz.underlying24]
  go_simp
/-- a variable that holds a rule -/
structure RuleAt (w : World) (b : Nat) (r : HR) : Prop where
  ex : w.heap[b]? = some (.cells #[.string ⟨r.m.toArray⟩, .string ⟨r.n.toArray⟩, .int .i64 r.way, .int .u64 (r.word : Int)] 24 (0, 0))
theorem RuleAt.lt {w : World} {b : Nat} {r : HR} (h : RuleAt w b r) : b < w.heap.size := blk_lt h.ex
theorem RuleAt.below {w w' : World} {b n : Nat} {r : HR} (h : RuleAt w b r) (hb : Below n w w') (hn : b < n) : RuleAt w' b r := ⟨(hb.block b hn).trans h.ex⟩
theorem RuleAt.c0 {w : World} {b : Nat} {r : HR} (h : RuleAt w b r) : w.cell? ⟨b, 0, none⟩ = some (.string ⟨r.m.toArray⟩) := cell_blk h.ex 0
theorem RuleAt.c1 {w : World} {b : Nat} {r : HR} (h : RuleAt w b r) : w.cell? ⟨b, 1, none⟩ = some (.string ⟨r.n.toArray⟩) := cell_blk h.ex 1
theorem RuleAt.c2 {w : World} {b : Nat} {r : HR} (h : RuleAt w b r) : w.cell? ⟨b, 2, none⟩ = some (.int .i64 r.way) := cell_blk h.ex 2
theorem RuleAt.c3 {w : World} {b : Nat} {r : HR} (h : RuleAt w b r) : w.cell? ⟨b, 3, none⟩ = some (.int .u64 (r.word : Int)) := cell_blk h.ex 3
theorem RuleAt.cs {w : World} {b : Nat} {r : HR} (h : RuleAt w b r) : w.cell? ⟨b, 0, none⟩ = some (.string ⟨r.m.toArray⟩) ∧ w.cell? ⟨b, 1, none⟩ = some (.string ⟨r.n.toArray⟩) ∧ w.cell? ⟨b, 2, none⟩ = some (.int .i64 r.way) ∧ w.cell? ⟨b, 3, none⟩ = some (.int .u64 (r.word : Int)) := ⟨h.c0, h.c1, h.c2, h.c3⟩
theorem RuleAt.new (w : World) (r : HR) : RuleAt (w.alloc (.cells #[.string ⟨r.m.toArray⟩, .string ⟨r.n.toArray⟩, .int .i64 r.way, .int .u64 (r.word : Int)] 24)) w.heap.size r := ⟨heap_alloc_new w _⟩
theorem run_loadRule {w : World} {b : Nat} {r : HR} (h : RuleAt w b r) : (Instr.loadAt 24 (.pointer (some ⟨b, 0, none⟩))).run Tryz.prog w = .ok (.agg #[.string ⟨r.m.toArray⟩, .string ⟨r.n.toArray⟩, .int .i64 r.way, .int .u64 (r.word : Int)]) w := by
  have h0 := h.c0
  have h1 := h.c1
  have h2 := h.c2
  have h3 := h.c3
  go_simp
/-- what Parse answers, as a rule: the empty one where the text is none's -/
def zeroR : HR := ⟨[], [], 0, 0⟩
def ansR (s : List UInt8) : HR := if okH s then parseH s else zeroR
def ansE (s : List UInt8) : Int := if okH s then 0 else 4
theorem parseR_any (s : List UInt8) (w : World) (hl : s.length ≤ 300) (ht : Hid (LaidH w)) :
    Calls Tryz.prog 6 #[.string ⟨s.toArray⟩] w fun e w' => e = .returned (.tuple #[.agg #[.string ⟨(ansR s).m.toArray⟩, .string ⟨(ansR s).n.toArray⟩, .int .i64 (ansR s).way, .int .u64 ((ansR s).word : Int)], .int .i64 (ansE s)]) ∧ Hid (Below w.heap.size w w') := by
  refine (parseH_any s w hl ht).mono ?_
  rintro e w' ⟨rfl, hb⟩
  refine ⟨?_, hb⟩
  unfold ansR ansE
  cases okH s <;> rfl
theorem print_text {r : HR} (h : rightH r = true) : printH r = if r.way = 0 then r.m ++ [32] ++ r.n ++ [32] ++ wayL r.way else r.m ++ [32] ++ r.n ++ [32] ++ wayL r.way ++ [32] ++ Lib.itoa (signV 64 r.word) := by
  unfold printH partsH
  rw [if_pos h, join2, join2]
  by_cases hz : r.way = 0
  · simp only [if_pos hz]
    rw [Lib.join_one]
    simp
  · simp only [if_neg hz]
    rw [join2, Lib.join_one]
    simp
theorem okH_nil : okH [] = false := by unfold okH; simp

set_option maxRecDepth 100000 in
set_option maxHeartbeats 1600000 in
theorem rules_no (r : HR) (s : List UInt8) (w : World) (hm : r.m.length ≤ 60) (hn : r.n.length ≤ 60) (hw : r.word ≤ 18446744073709551615) (hs : s.length ≤ 200) (ht : Hid (LaidH w)) (hq : Hid (rightH r = false)) :
    Calls Tryz.prog 3 #[.agg #[.string ⟨r.m.toArray⟩, .string ⟨r.n.toArray⟩, .int .i64 r.way, .int .u64 (r.word : Int)], .string ⟨s.toArray⟩] w fun e w' => e = .returned (.bool true) ∧ Hid (Below w.heap.size w w') := by
  obtain ⟨b2, hb2⟩ : ∃ b, w.heap.size = b := ⟨_, rfl⟩
  obtain ⟨W, hW⟩ : ∃ W, w.alloc (.cells #[.string ⟨r.m.toArray⟩, .string ⟨r.n.toArray⟩, .int .i64 r.way, .int .u64 (r.word : Int)] 24) = W := ⟨_, rfl⟩
  have hr0 : RuleAt W b2 r := by rw [← hW, ← hb2]; exact RuleAt.new w r
  have hb0 : Below w.heap.size w W := by rw [← hW]; exact (Below.refl _ _).alloc (Nat.le_refl _) _
  have HB0 := hide hb0; have HR0 := hide hr0; have HW := hide hW; have HB2 := hide hb2
  have HA := hide (awakeH W (hide (ht.out.below hb0)))
  have l0 := hr0.c0
  have l1 := hr0.c1
  clear hW hb0 hr0 hb2
  go_enter Tryz.func3, Tryz.ntmps3
  go_upto_region 1 with fail
  rw [HW.out, HB2.out]
  go_wp2_with fail
  refine HA.out.mono ?_; rintro e w1 ⟨rfl, h1⟩
  clear l0 l1 HA
  have HR1 := hide (HR0.out.below h1.out HR0.out.lt)
  have HB1 := hide (HB0.out.trans (h1.out.mono HB0.out.size))
  obtain ⟨lza, lzb, lzc, lzd⟩ := RuleAt.cs HR1.out
  have HP1 := hide (print_no r w1 (by omega) (by omega) hw hq)
  clear h1 HR0 HB0
  go_upto_region 3 with fail
  go_wp2_with fail
  refine HP1.out.mono ?_; rintro e w2 ⟨rfl, h2⟩
  have HR2 := hide (HR1.out.below h2 HR1.out.lt)
  have HB2' := hide (HB1.out.trans (h2.mono HB1.out.size))
  have HP2 := hide (parseR_any [] w2 (by decide) (hide (ht.out.below HB2'.out)))
  have e1 : ansR [] = zeroR := by unfold ansR; rw [okH_nil]; rfl
  have e2 : ansE [] = 4 := by unfold ansE; rw [okH_nil]; rfl
  rw [e1, e2] at HP2
  clear lza lzb lzc lzd h2 HP1 HR1 HB1 e1 e2
  go_wp2_with fail
  refine HP2.out.mono ?_; rintro e w3 ⟨rfl, h3⟩
  simp only [zeroR]
  go_upto_region 5 with fail
  obtain ⟨b6, hb6⟩ : ∃ b, w3.heap.size = b := ⟨_, rfl⟩
  obtain ⟨w4, hw4⟩ : ∃ x, w3.alloc (.cells #[.string ⟨#[]⟩, .string ⟨#[]⟩, .int .i64 0, .int .u64 0] 24) = x := ⟨_, rfl⟩
  have hb34 : Below w3.heap.size w3 w4 := by rw [← hw4]; exact (Below.refl _ _).alloc (Nat.le_refl _) _
  rw [show ((0 : Nat) : Int) = 0 from rfl, hw4, hb6]
  have hb24 := h3.out.trans (hb34.mono h3.out.size)
  have HR4 := hide (HR2.out.below hb24 HR2.out.lt)
  have HB4 := hide (HB2'.out.trans (hb24.mono HB2'.out.size))
  have H5 := hide (fun W => right_any r W (by omega) (by omega) (by omega))
  have H6 := hide (fun W => lright_any r W (by omega) (by omega) (by omega))
  rw [hq.out] at H5 H6
  clear hb34 hw4 hb6 h3 HP2 hb24 HR2
  --REG5 false
  refine wp_region_factsR grew_ext (factsOf [fun yy _ => yy = .agg #[.string ⟨r.m.toArray⟩, .string ⟨r.n.toArray⟩, .int .i64 r.way, .int .u64 (r.word : Int)],
    fun yy _ => yy = .bool false,
    fun yy _ => yy = .agg #[.string ⟨r.m.toArray⟩, .string ⟨r.n.toArray⟩, .int .i64 r.way, .int .u64 (r.word : Int)],
    fun yy _ => yy = .bool false,
    fun yy _ => yy = .bool false]) (by kernel_rfl) (by kernel_rfl) ?_ ?_
  · refine ⟨?_, ?_, ?_, ?_, ?_, trivial⟩
    · refine ⟨fun ρ W hk => ?_⟩
      have o2 : ρ (.tmp 2) = .pointer (some ⟨b2, 0, none⟩) := hk.old 2 (by decide)
      exact OpOut.load (x := .tmp 2) rfl o2 (run_loadRule (HR4.out.below hk.below HR4.out.lt)) ⟨Below.refl _ _, rfl⟩
    · refine ⟨fun ρ W hk => ?_⟩
      have h0 := (hk.fact 0 38 (by decide) rfl).pure
      refine OpOut.fn (args := #[.agg #[.string ⟨r.m.toArray⟩, .string ⟨r.n.toArray⟩, .int .i64 r.way, .int .u64 (r.word : Int)]]) rfl (hk.func _) (by simp [h0]) Tryz.func7 (by kernel_rfl) rfl ?_
      refine (H5.out W).mono ?_; rintro e w5 ⟨rfl, hb5⟩
      exact ⟨_, rfl, hb5.out, rfl⟩
    · refine ⟨fun ρ W hk => ?_⟩
      have o2 : ρ (.tmp 2) = .pointer (some ⟨b2, 0, none⟩) := hk.old 2 (by decide)
      exact OpOut.load (x := .tmp 2) rfl o2 (run_loadRule (HR4.out.below hk.below HR4.out.lt)) ⟨Below.refl _ _, rfl⟩
    · refine ⟨fun ρ W hk => ?_⟩
      have h2 := (hk.fact 2 40 (by decide) rfl).pure
      refine OpOut.fn (args := #[.agg #[.string ⟨r.m.toArray⟩, .string ⟨r.n.toArray⟩, .int .i64 r.way, .int .u64 (r.word : Int)]]) rfl (hk.func _) (by simp [h2]) Tryz.func8 (by kernel_rfl) rfl ?_
      refine (H6.out W).mono ?_; rintro e w5 ⟨rfl, hb5⟩
      exact ⟨_, rfl, hb5.out, rfl⟩
    · refine ⟨fun ρ W hk => ?_⟩
      have h1 := (hk.fact 1 39 (by decide) rfl).pure
      have h3 := (hk.fact 3 41 (by decide) rfl).pure
      exact OpOut.bin (x := .tmp 39) (y := .tmp 41) (v := .bool false) rfl (by rw [h1, h3]; go_simp) (by rw [h1, h3]; go_simp) ⟨Below.refl _ _, rfl⟩
  · intro vs W5 hb hf
    have e4 := (hf 4 (by decide)).pure
    have HB5 := hide hb
    clear hf hb
    simp only [fillL]
    rw [e4]
    generalize vs 0 = v0, vs 1 = v1, vs 2 = v2, vs 3 = v3
    clear e4
    go_frame
  --ENDREG5
    have HR5 := hide (HR4.out.below HB5.out HR4.out.lt)
    have HBW5 := hide (HB4.out.trans (HB5.out.mono HB4.out.size))
    obtain ⟨lza, lzb, lzc, lzd⟩ := RuleAt.cs HR5.out
    have H7 := hide (H6.out W5)
    clear HB5 HB4 HR4
    go_wp2_with fail
    refine H7.out.mono ?_; rintro e w7 ⟨rfl, h7⟩
    have HBW7 := hide (HBW5.out.trans (h7.out.mono HBW5.out.size))
    clear h7 H7 H5 H6 lza lzb lzc lzd HR5 HBW5
    go_wp2_with fail
    refine (parseR_any s w7 (by omega) (hide (ht.out.below HBW7.out))).mono ?_; rintro e w8 ⟨rfl, h8⟩
    go_upto_region 16 with fail
    obtain ⟨b9, hb9⟩ : ∃ b, w8.heap.size = b := ⟨_, rfl⟩
    obtain ⟨w9, hw9⟩ : ∃ x, w8.alloc (.cells #[.string ⟨(ansR s).m.toArray⟩, .string ⟨(ansR s).n.toArray⟩, .int .i64 (ansR s).way, .int .u64 ((ansR s).word : Int)] 24) = x := ⟨_, rfl⟩
    rw [hw9, hb9]
    have hr9 : RuleAt w9 b9 (ansR s) := by rw [← hw9, ← hb9]; exact RuleAt.new w8 _
    have hb89 : Below w8.heap.size w8 w9 := by rw [← hw9]; exact (Below.refl _ _).alloc (Nat.le_refl _) _
    have H9 := hide ((HBW7.out.trans (h8.out.mono HBW7.out.size)).trans (hb89.mono (Nat.le_trans HBW7.out.size h8.out.size)))
    clear hw9 hb9 hb89 h8
    cases hok : okH s with
    | false =>
      have e1 : ansR s = zeroR := by unfold ansR; rw [hok]; rfl
      have e2 : ansE s = 4 := by unfold ansE; rw [hok]; rfl
      rw [e1] at hr9
      have l0 : w9.cell? ⟨b9, 0, none⟩ = some (.string ⟨#[]⟩) := hr9.c0
      have l1 : w9.cell? ⟨b9, 1, none⟩ = some (.string ⟨#[]⟩) := hr9.c1
      have l2 : w9.cell? ⟨b9, 2, none⟩ = some (.int .i64 0) := hr9.c2
      have l3 : w9.cell? ⟨b9, 3, none⟩ = some (.int .u64 0) := hr9.c3
      have q0 := run_eql_rule0
      rw [e2]
      clear hr9 e1 e2 hok
      go_wp2_with fail
      go_ret
      exact ⟨rfl, H9⟩
    | true =>
      have e1 : ansR s = parseH s := by unfold ansR; rw [hok]; rfl
      have e2 : ansE s = 0 := by unfold ansE; rw [hok]; rfl
      obtain ⟨o1, o2⟩ := okH_right hok
      obtain ⟨n1, n2, _⟩ := right_iff o1
      have n1' := named_len n1
      have n2' := named_len n2
      have ow := parseH_word s
      rw [e1] at hr9
      have HLR := hide (lright_any (parseH s) w9 (by omega) (by omega) (by omega))
      have HPR := hide (fun W (h : Below w9.heap.size w9 W) => print_any (parseH s) W (by omega) (by omega) ow (hide ((ht.out.below H9.out).below h).c))
      rw [o1] at HLR
      rw [o2] at HPR
      rw [e2]
      have HR9 := hide hr9
      clear hr9 e1 e2 hok o1 o2 n1 n2 n1' n2'
      generalize parseH s = y at *
      obtain ⟨lza, lzb, lzc, lzd⟩ := RuleAt.cs HR9.out
      go_wp2_with fail
      refine HLR.out.mono ?_; rintro e w10 ⟨rfl, h10⟩
      obtain ⟨lze, lzf, lzg, lzh⟩ := RuleAt.cs (HR9.out.below h10.out HR9.out.lt)
      clear lza lzb lzc lzd
      go_wp2_with fail
      refine (HPR.out w10 h10.out).mono ?_; rintro e w11 ⟨rfl, h11⟩
      go_wp2_with fail
      go_ret
      exact ⟨rfl, H9.out.trans ((h10.out.trans (h11.mono h10.out.size)).mono H9.out.size)⟩

theorem own5 {w : World} {g : Nat} (h : w.heap[g]? = some (.cells namesV.toArray 9 (0, 0))) (k : Nat) (hk : k ≤ 4) : w.cell? ⟨g, k, none⟩ = some (S (wayL k)) := by
  rw [cell_blk h k]
  match k, hk with
  | 0, _ => rfl
  | 1, _ => rfl
  | 2, _ => rfl
  | 3, _ => rfl
  | 4, _ => rfl
  | k + 5, hk => omega

set_option maxRecDepth 100000 in
set_option maxHeartbeats 1600000 in
theorem rules_yes (m n : List UInt8) (k v : Nat) (s : List UInt8) (w : World) (hm : m.length ≤ 60) (hn : n.length ≤ 60) (hw : v ≤ 18446744073709551615) (hs : s.length ≤ 200) (ht : Hid (LaidH w)) (hk4 : k ≤ 4) (r : HR) (hr : Hid (r = ⟨m, n, (k : Int), v⟩)) (hq : Hid (rightH r = true)) :
    Calls Tryz.prog 3 #[.agg #[.string ⟨r.m.toArray⟩, .string ⟨r.n.toArray⟩, .int .i64 r.way, .int .u64 (r.word : Int)], .string ⟨s.toArray⟩] w fun e w' => e = .returned (.bool true) ∧ Hid (Below w.heap.size w w') := by
  have hrm : r.m = m := by rw [hr.out]
  have hrn : r.n = n := by rw [hr.out]
  have hrw : r.way = (k : Int) := by rw [hr.out]
  have hrv : r.word = v := by rw [hr.out]
  have hpt := print_text hq.out
  have hpl := printH_len r (by rw [hrv]; exact hw)
  have hpe := printH_ne hq.out
  have hok : okH (printH r) = true := okH_print hq.out (by rw [hrv]; exact hw)
  have hpr : parseH (printH r) = r := parse_print hq.out (by rw [hrv]; exact hw)
  rw [hrm, hrn, hrw, hrv] at hpt
  have b1 : r.m.length ≤ 9223372036854775807 := by rw [hrm]; omega
  have b2' : r.n.length ≤ 9223372036854775807 := by rw [hrn]; omega
  have b3 : r.word ≤ 18446744073709551615 := by rw [hrv]; exact hw
  have hm60 : r.m.length ≤ 60 := by rw [hrm]; exact hm
  have hn60 : r.n.length ≤ 60 := by rw [hrn]; exact hn
  have HRM := hide hrm; have HRN := hide hrn; have HRW := hide hrw; have HRV := hide hrv
  clear hrm hrn hrw hrv
  obtain ⟨P, hP⟩ : ∃ P, printH r = P := ⟨_, rfl⟩
  rw [hP] at hpt hpl hpe hok hpr
  have HP := hide hP; have HPT := hide hpt; have HPE := hide hpe
  obtain ⟨b2, hb2⟩ : ∃ b, w.heap.size = b := ⟨_, rfl⟩
  obtain ⟨W, hW⟩ : ∃ W, w.alloc (.cells #[.string ⟨r.m.toArray⟩, .string ⟨r.n.toArray⟩, .int .i64 r.way, .int .u64 (r.word : Int)] 24) = W := ⟨_, rfl⟩
  have hr0 : RuleAt W b2 r := by rw [← hW, ← hb2]; exact RuleAt.new w r
  have hb0 : Below w.heap.size w W := by rw [← hW]; exact (Below.refl _ _).alloc (Nat.le_refl _) _
  have HB0 := hide hb0; have HR0 := hide hr0; have HW := hide hW; have HB2 := hide hb2
  have HA := hide (awakeH W (hide (ht.out.below hb0)))
  have l0 := hr0.c0
  have l1 := hr0.c1
  have e1 : ansR P = r := by unfold ansR; rw [hok, hpr]; rfl
  have e2 : ansE P = 0 := by unfold ansE; rw [hok]; rfl
  have HE1 := hide e1; have HE2 := hide e2
  clear hW hb0 hr0 hb2 hP hpt hpe hok hpr e1 e2
  go_enter Tryz.func3, Tryz.ntmps3
  go_upto_region 1 with fail
  rw [HW.out, HB2.out]
  go_wp2_with fail
  refine HA.out.mono ?_; rintro e w1 ⟨rfl, h1⟩
  clear l0 l1 HA
  have HR1 := hide (HR0.out.below h1.out HR0.out.lt)
  have HB1 := hide (HB0.out.trans (h1.out.mono HB0.out.size))
  obtain ⟨lza, lzb, lzc, lzd⟩ := RuleAt.cs HR1.out
  have HP1 := hide (print_yes r w1 b3 hq (hide (ht.out.below HB1.out).c))
  rw [HP.out] at HP1
  clear h1 HR0 HB0
  go_upto_region 3 with fail
  go_wp2_with fail
  refine HP1.out.mono ?_; rintro e w2 ⟨rfl, h2⟩
  have HR2 := hide (HR1.out.below h2 HR1.out.lt)
  have HB2' := hide (HB1.out.trans (h2.mono HB1.out.size))
  have HP2 := hide (parseR_any P w2 (by omega) (hide (ht.out.below HB2'.out)))
  rw [HE1.out, HE2.out] at HP2
  clear lza lzb lzc lzd h2 HP1 HR1 HB1
  go_wp2_with fail
  refine HP2.out.mono ?_; rintro e w3 ⟨rfl, h3⟩
  go_upto_region 5 with fail
  obtain ⟨b6, hb6⟩ : ∃ b, w3.heap.size = b := ⟨_, rfl⟩
  obtain ⟨w4, hw4⟩ : ∃ x, w3.alloc (.cells #[.string ⟨r.m.toArray⟩, .string ⟨r.n.toArray⟩, .int .i64 r.way, .int .u64 (r.word : Int)] 24) = x := ⟨_, rfl⟩
  have hb34 : Below w3.heap.size w3 w4 := by rw [← hw4]; exact (Below.refl _ _).alloc (Nat.le_refl _) _
  have h6_ : RuleAt w4 b6 r := by rw [← hw4, ← hb6]; exact RuleAt.new w3 r
  rw [hw4, hb6]
  have hb24 := h3.out.trans (hb34.mono h3.out.size)
  have HR4 := hide (HR2.out.below hb24 HR2.out.lt)
  have HR64 := hide h6_
  have HB4 := hide (HB2'.out.trans (hb24.mono HB2'.out.size))
  have H5 := hide (fun W => right_any r W b1 b2' (by omega))
  have H6 := hide (fun W => lright_any r W b1 b2' (by omega))
  rw [hq.out] at H5 H6
  clear hb34 hw4 hb6 h3 HP2 hb24 HR2 h6_
  --REG5 true
  refine wp_region_factsR grew_ext (factsOf [fun yy _ => yy = .agg #[.string ⟨r.m.toArray⟩, .string ⟨r.n.toArray⟩, .int .i64 r.way, .int .u64 (r.word : Int)],
    fun yy _ => yy = .bool true,
    fun yy _ => yy = .agg #[.string ⟨r.m.toArray⟩, .string ⟨r.n.toArray⟩, .int .i64 r.way, .int .u64 (r.word : Int)],
    fun yy _ => yy = .bool true,
    fun yy _ => yy = .bool false]) (by kernel_rfl) (by kernel_rfl) ?_ ?_
  · refine ⟨?_, ?_, ?_, ?_, ?_, trivial⟩
    · refine ⟨fun ρ W hk => ?_⟩
      have o2 : ρ (.tmp 2) = .pointer (some ⟨b2, 0, none⟩) := hk.old 2 (by decide)
      exact OpOut.load (x := .tmp 2) rfl o2 (run_loadRule (HR4.out.below hk.below HR4.out.lt)) ⟨Below.refl _ _, rfl⟩
    · refine ⟨fun ρ W hk => ?_⟩
      have h0 := (hk.fact 0 38 (by decide) rfl).pure
      refine OpOut.fn (args := #[.agg #[.string ⟨r.m.toArray⟩, .string ⟨r.n.toArray⟩, .int .i64 r.way, .int .u64 (r.word : Int)]]) rfl (hk.func _) (by simp [h0]) Tryz.func7 (by kernel_rfl) rfl ?_
      refine (H5.out W).mono ?_; rintro e w5 ⟨rfl, hb5⟩
      exact ⟨_, rfl, hb5.out, rfl⟩
    · refine ⟨fun ρ W hk => ?_⟩
      have o2 : ρ (.tmp 2) = .pointer (some ⟨b2, 0, none⟩) := hk.old 2 (by decide)
      exact OpOut.load (x := .tmp 2) rfl o2 (run_loadRule (HR4.out.below hk.below HR4.out.lt)) ⟨Below.refl _ _, rfl⟩
    · refine ⟨fun ρ W hk => ?_⟩
      have h2 := (hk.fact 2 40 (by decide) rfl).pure
      refine OpOut.fn (args := #[.agg #[.string ⟨r.m.toArray⟩, .string ⟨r.n.toArray⟩, .int .i64 r.way, .int .u64 (r.word : Int)]]) rfl (hk.func _) (by simp [h2]) Tryz.func8 (by kernel_rfl) rfl ?_
      refine (H6.out W).mono ?_; rintro e w5 ⟨rfl, hb5⟩
      exact ⟨_, rfl, hb5.out, rfl⟩
    · refine ⟨fun ρ W hk => ?_⟩
      have h1 := (hk.fact 1 39 (by decide) rfl).pure
      have h3 := (hk.fact 3 41 (by decide) rfl).pure
      exact OpOut.bin (x := .tmp 39) (y := .tmp 41) (v := .bool false) rfl (by rw [h1, h3]; go_simp) (by rw [h1, h3]; go_simp) ⟨Below.refl _ _, rfl⟩
  · intro vs W5 hb hf
    have e4 := (hf 4 (by decide)).pure
    have HB5 := hide hb
    clear hf hb
    simp only [fillL]
    rw [e4]
    generalize vs 0 = v0, vs 1 = v1, vs 2 = v2, vs 3 = v3
    clear e4
    go_frame
  --ENDREG5
    have HR5 := hide (HR4.out.below HB5.out HR4.out.lt)
    have HR65 := hide (HR64.out.below HB5.out HR64.out.lt)
    have HBW5 := hide (HB4.out.trans (HB5.out.mono HB4.out.size))
    obtain ⟨lza, lzb, lzc, lzd⟩ := RuleAt.cs HR5.out
    have H7 := hide (H6.out W5)
    clear HB5 HB4 HR4 HR64
    go_wp2_with fail
    refine H7.out.mono ?_; rintro e w7 ⟨rfl, h7⟩
    have HBW7 := hide (HBW5.out.trans (h7.out.mono HBW5.out.size))
    have HR7 := hide (HR5.out.below h7.out HR5.out.lt)
    have HR67 := hide (HR65.out.below h7.out HR65.out.lt)
    clear h7 H7 H5 H6 lza lzb lzc lzd HR5 HBW5 HR65
    go_upto_region 10 with fail
    have hlen : r.m.length + r.n.length ≤ 200 := by omega
    have hwl := wayL_len r.way
    refine wp_region_factsR grew_ext (factsOf [fun yy _ => yy = .pointer (some ⟨b2, 0, none⟩),
      fun yy _ => yy = .string ⟨r.m.toArray⟩,
      fun yy _ => yy = .string ⟨(r.m ++ [32] : List UInt8).toArray⟩,
      fun yy _ => yy = .pointer (some ⟨b2, 1, none⟩),
      fun yy _ => yy = .string ⟨r.n.toArray⟩,
      fun yy _ => yy = .string ⟨(r.m ++ [32] ++ r.n : List UInt8).toArray⟩,
      fun yy _ => yy = .string ⟨(r.m ++ [32] ++ r.n ++ [32] : List UInt8).toArray⟩,
      fun yy W => ∃ g, yy = .slice (some ⟨g, 0, none⟩) 5 5 ∧ W.heap[g]? = some (.cells namesV.toArray 9 (0, 0)),
      fun yy _ => yy = .pointer (some ⟨b2, 2, none⟩),
      fun yy _ => yy = .int .i64 (k : Int),
      fun yy W => ∃ g, yy = .pointer (some ⟨g, k, none⟩) ∧ W.heap[g]? = some (.cells namesV.toArray 9 (0, 0)),
      fun yy _ => yy = .string ⟨(wayL r.way).toArray⟩,
      fun yy _ => yy = .string ⟨(r.m ++ [32] ++ r.n ++ [32] ++ wayL r.way : List UInt8).toArray⟩,
      fun yy _ => yy = .string ⟨(r.m ++ [32] ++ r.n ++ [32] ++ wayL r.way : List UInt8).toArray⟩]) (by kernel_rfl) (by kernel_rfl) ?_ ?_
    · refine ⟨?_, ?_, ?_, ?_, ?_, ?_, ?_, ?_, ?_, ?_, ?_, ?_, ?_, ?_, trivial⟩
      · refine ⟨fun ρ W hk => ?_⟩
        have o2 : ρ (.tmp 2) = .pointer (some ⟨b2, 0, none⟩) := hk.old 2 (by decide)
        exact OpOut.fieldAddr (x := .tmp 2) rfl o2 (by go_simp) ⟨Below.refl _ _, rfl⟩
      · refine ⟨fun ρ W hk => ?_⟩
        have h0 := (hk.fact 0 52 (by decide) rfl).pure
        have hc := (HR7.out.below hk.below HR7.out.lt).c0
        exact OpOut.load (x := .tmp 52) rfl h0 (by go_simp) ⟨Below.refl _ _, rfl⟩
      · refine ⟨fun ρ W hk => ?_⟩
        have h1 := (hk.fact 1 53 (by decide) rfl).pure
        exact OpOut.bin (x := .tmp 53) (y := .const (.string ⟨#[32]⟩)) rfl (by rw [h1, hk.const]; go_simp) (by rw [h1, hk.const]; exact run_cat r.m [32] _ _ (by simp only [List.length_cons, List.length_nil]; omega)) ⟨Below.refl _ _, rfl⟩
      · refine ⟨fun ρ W hk => ?_⟩
        have o2 : ρ (.tmp 2) = .pointer (some ⟨b2, 0, none⟩) := hk.old 2 (by decide)
        exact OpOut.fieldAddr (x := .tmp 2) rfl o2 (by go_simp) ⟨Below.refl _ _, rfl⟩
      · refine ⟨fun ρ W hk => ?_⟩
        have h0 := (hk.fact 3 55 (by decide) rfl).pure
        have hc := (HR7.out.below hk.below HR7.out.lt).c1
        exact OpOut.load (x := .tmp 55) rfl h0 (by go_simp) ⟨Below.refl _ _, rfl⟩
      · refine ⟨fun ρ W hk => ?_⟩
        have h2 := (hk.fact 2 54 (by decide) rfl).pure
        have h4 := (hk.fact 4 56 (by decide) rfl).pure
        exact OpOut.bin (x := .tmp 54) (y := .tmp 56) rfl (by rw [h2, h4]; go_simp) (by rw [h2, h4]; exact run_cat (r.m ++ [32]) r.n _ _ (by simp only [List.length_append, List.length_cons, List.length_nil]; omega)) ⟨Below.refl _ _, rfl⟩
      · refine ⟨fun ρ W hk => ?_⟩
        have h5 := (hk.fact 5 57 (by decide) rfl).pure
        exact OpOut.bin (x := .tmp 57) (y := .const (.string ⟨#[32]⟩)) rfl (by rw [h5, hk.const]; go_simp) (by rw [h5, hk.const]; exact run_cat (r.m ++ [32] ++ r.n) [32] _ _ (by simp only [List.length_append, List.length_cons, List.length_nil]; omega)) ⟨Below.refl _ _, rfl⟩
      · refine ⟨fun ρ W hk => ?_⟩
        exact OpOut.buildSlice (us := #[(0, S [110, 111, 110, 101]), (1, S [99, 111, 110, 115, 116]), (2, S [115, 117, 109]), (3, S [99, 111, 117, 110, 116]), (4, S [108, 97, 115, 116])]) rfl (by simp [hk.const, S]) (by simp only [S]; go_simp; rfl) ⟨(Below.refl _ _).alloc (Nat.le_refl _) _, W.heap.size, rfl, heap_alloc_new W _⟩
      · refine ⟨fun ρ W hk => ?_⟩
        have o2 : ρ (.tmp 2) = .pointer (some ⟨b2, 0, none⟩) := hk.old 2 (by decide)
        exact OpOut.fieldAddr (x := .tmp 2) rfl o2 (by go_simp) ⟨Below.refl _ _, rfl⟩
      · refine ⟨fun ρ W hk => ?_⟩
        have h0 := (hk.fact 8 60 (by decide) rfl).pure
        have hc := (HR7.out.below hk.below HR7.out.lt).c2
        rw [HRW.out] at hc
        exact OpOut.load (x := .tmp 60) rfl h0 (by go_simp) ⟨Below.refl _ _, rfl⟩
      · refine ⟨fun ρ W hk => ?_⟩
        obtain ⟨w6, hw6, g, h7, hh⟩ := hk.fact 7 59 (by decide) rfl
        have h9 := (hk.fact 9 61 (by decide) rfl).pure
        exact OpOut.indexAddr (x := .tmp 59) (y := .tmp 61) rfl h7 h9 (by go_simp; try omega) ⟨Below.refl _ _, g, rfl, (hw6.block g (blk_lt hh)).trans hh⟩
      · refine ⟨fun ρ W hk => ?_⟩
        obtain ⟨w6, hw6, g, h10, hh⟩ := hk.fact 10 62 (by decide) rfl
        have hc := own5 ((hw6.block g (blk_lt hh)).trans hh) k hk4
        unfold S at hc
        refine OpOut.load (x := .tmp 62) (v := .string ⟨(wayL (k : Int)).toArray⟩) rfl h10 (by go_simp) ⟨Below.refl _ _, ?_⟩
        show _ = _
        rw [HRW.out]
      · refine ⟨fun ρ W hk => ?_⟩
        have h6 := (hk.fact 6 58 (by decide) rfl).pure
        have h11 := (hk.fact 11 63 (by decide) rfl).pure
        exact OpOut.bin (x := .tmp 58) (y := .tmp 63) rfl (by rw [h6, h11]; go_simp) (by rw [h6, h11]; exact run_cat (r.m ++ [32] ++ r.n ++ [32]) (wayL r.way) _ _ (by simp only [List.length_append, List.length_cons, List.length_nil]; omega)) ⟨Below.refl _ _, rfl⟩
      · refine ⟨fun ρ W hk => ?_⟩
        have h12 := (hk.fact 12 64 (by decide) rfl).pure
        exact OpOut.assign (.tmp 64) rfl ⟨Below.refl _ _, h12⟩
    · intro vs W8 hb hf
      have e13 := (hf 13 (by decide)).pure
      have HB8 := hide hb
      clear hf hb
      simp only [fillL]
      rw [e13]
      generalize vs 0 = v0, vs 1 = v1, vs 2 = v2, vs 3 = v3, vs 4 = v4, vs 5 = v5, vs 6 = v6, vs 7 = v7, vs 8 = v8, vs 9 = v9, vs 10 = v10, vs 11 = v11, vs 12 = v12
      clear e13
      go_frame
      obtain ⟨X, hX⟩ : ∃ X, (r.m ++ [32] ++ r.n ++ [32] ++ wayL r.way : List UInt8) = X := ⟨_, rfl⟩
      have hXl : X.length ≤ 300 := by rw [← hX]; simp only [List.length_append, List.length_cons, List.length_nil]; omega
      rw [hX]
      have HX := hide hX
      clear hX hlen hwl
      have HR8 := hide (HR7.out.below HB8.out HR7.out.lt)
      have HR68 := hide (HR67.out.below HB8.out HR67.out.lt)
      have HBW8 := hide (HBW7.out.trans (HB8.out.mono HBW7.out.size))
      have c2 := HR8.out.c2
      have c3 := HR8.out.c3
      rw [HRW.out] at c2
      clear HB8 HR7 HR67 HBW7
      by_cases hk0 : k = 0
      · subst hk0
        have hXP : X = P := by
          rw [HPT.out, ← HX.out, HRM.out, HRN.out, HRW.out, if_pos (show ((0 : Nat) : Int) = 0 from rfl)]
        subst hXP
        obtain ⟨lza, lzb, lzc, lzd⟩ := RuleAt.cs HR8.out
        obtain ⟨lze, lzf, lzg, lzh⟩ := RuleAt.cs HR68.out
        have lq := run_neq_rule r
        clear c3
        go_upto_region 15 with fail
        clear lza lzb lzc lzd lze lzf lzg lzh lq c2
        go_wp2_with fail
        refine (parseR_any s W8 (by omega) (hide (ht.out.below HBW8.out))).mono ?_; rintro e w8 ⟨rfl, h8⟩
        go_upto_region 16 with fail
        obtain ⟨b9, hb9⟩ : ∃ b, w8.heap.size = b := ⟨_, rfl⟩
        obtain ⟨w9, hw9⟩ : ∃ x, w8.alloc (.cells #[.string ⟨(ansR s).m.toArray⟩, .string ⟨(ansR s).n.toArray⟩, .int .i64 (ansR s).way, .int .u64 ((ansR s).word : Int)] 24) = x := ⟨_, rfl⟩
        rw [hw9, hb9]
        have hr9 : RuleAt w9 b9 (ansR s) := by rw [← hw9, ← hb9]; exact RuleAt.new w8 _
        have hb89 : Below w8.heap.size w8 w9 := by rw [← hw9]; exact (Below.refl _ _).alloc (Nat.le_refl _) _
        have H9 := hide ((HBW8.out.trans (h8.out.mono HBW8.out.size)).trans (hb89.mono (Nat.le_trans HBW8.out.size h8.out.size)))
        clear hw9 hb9 hb89 h8
        cases hok : okH s with
        | false =>
          have e1 : ansR s = zeroR := by unfold ansR; rw [hok]; rfl
          have e2 : ansE s = 4 := by unfold ansE; rw [hok]; rfl
          rw [e1] at hr9
          have l0 : w9.cell? ⟨b9, 0, none⟩ = some (.string ⟨#[]⟩) := hr9.c0
          have l1 : w9.cell? ⟨b9, 1, none⟩ = some (.string ⟨#[]⟩) := hr9.c1
          have l2 : w9.cell? ⟨b9, 2, none⟩ = some (.int .i64 0) := hr9.c2
          have l3 : w9.cell? ⟨b9, 3, none⟩ = some (.int .u64 0) := hr9.c3
          have q0 := run_eql_rule0
          rw [e2]
          clear hr9 e1 e2 hok
          go_wp2_with fail
          go_ret
          exact ⟨rfl, H9⟩
        | true =>
          have e1 : ansR s = parseH s := by unfold ansR; rw [hok]; rfl
          have e2 : ansE s = 0 := by unfold ansE; rw [hok]; rfl
          obtain ⟨o1, o2⟩ := okH_right hok
          obtain ⟨n1, n2, _⟩ := right_iff o1
          have n1' := named_len n1
          have n2' := named_len n2
          have ow := parseH_word s
          rw [e1] at hr9
          have HLR := hide (lright_any (parseH s) w9 (by omega) (by omega) (by omega))
          have HPR := hide (fun W (h : Below w9.heap.size w9 W) => print_any (parseH s) W (by omega) (by omega) ow (hide ((ht.out.below H9.out).below h).c))
          rw [o1] at HLR
          rw [o2] at HPR
          rw [e2]
          have HR9 := hide hr9
          clear hr9 e1 e2 hok o1 o2 n1 n2 n1' n2'
          generalize parseH s = y at *
          obtain ⟨lza, lzb, lzc, lzd⟩ := RuleAt.cs HR9.out
          go_wp2_with fail
          refine HLR.out.mono ?_; rintro e w10 ⟨rfl, h10⟩
          obtain ⟨lze, lzf, lzg, lzh⟩ := RuleAt.cs (HR9.out.below h10.out HR9.out.lt)
          clear lza lzb lzc lzd
          go_wp2_with fail
          refine (HPR.out w10 h10.out).mono ?_; rintro e w11 ⟨rfl, h11⟩
          go_wp2_with fail
          go_ret
          exact ⟨rfl, H9.out.trans ((h10.out.trans (h11.mono h10.out.size)).mono H9.out.size)⟩
      · have hk1 : (0 : Int) < (k : Int) := by omega
        have HCP := hide (refPrint_64 64 (by decide) v W8 hw)
        rw [HRV.out] at c3
        have htl := itoa64_len v hw
        have hXP : X ++ [32] ++ Lib.itoa (signV 64 v) = P := by
          rw [HPT.out, ← HX.out, HRM.out, HRN.out, HRW.out, if_neg (by omega)]
        unfold printL at HCP
        generalize Lib.itoa (signV 64 v) = tx at *
        have ct1 : (⟨X.toArray⟩ : ByteArray) ++ ⟨#[32]⟩ = ⟨(X ++ [32] : List UInt8).toArray⟩ := str_cat X [32]
        have ct2 : (⟨(X ++ [32] : List UInt8).toArray⟩ : ByteArray) ++ ⟨tx.toArray⟩ = ⟨(X ++ [32] ++ tx : List UInt8).toArray⟩ := str_cat (X ++ [32]) tx
        rw [hXP] at ct2
        clear hXP
        go_upto_region 12 with fail
        go_wp2_with fail
        refine HCP.out.mono ?_; rintro e w14 ⟨rfl, h14⟩
        have HB14 := hide (HBW8.out.trans (h14.mono HBW8.out.size))
        have HR14 := hide (HR8.out.below h14 HR8.out.lt)
        have HR64 := hide (HR68.out.below h14 HR68.out.lt)
        obtain ⟨lza, lzb, lzc, lzd⟩ := RuleAt.cs HR14.out
        obtain ⟨lze, lzf, lzg, lzh⟩ := RuleAt.cs HR64.out
        have lq := run_neq_rule r
        clear c2 c3 HCP h14 HR8 HR68
        go_upto_region 15 with fail
        clear lza lzb lzc lzd lze lzf lzg lzh lq ct1 ct2
        go_wp2_with fail
        refine (parseR_any s w14 (by omega) (hide (ht.out.below HB14.out))).mono ?_; rintro e w8 ⟨rfl, h8⟩
        go_upto_region 16 with fail
        obtain ⟨b9, hb9⟩ : ∃ b, w8.heap.size = b := ⟨_, rfl⟩
        obtain ⟨w9, hw9⟩ : ∃ x, w8.alloc (.cells #[.string ⟨(ansR s).m.toArray⟩, .string ⟨(ansR s).n.toArray⟩, .int .i64 (ansR s).way, .int .u64 ((ansR s).word : Int)] 24) = x := ⟨_, rfl⟩
        rw [hw9, hb9]
        have hr9 : RuleAt w9 b9 (ansR s) := by rw [← hw9, ← hb9]; exact RuleAt.new w8 _
        have hb89 : Below w8.heap.size w8 w9 := by rw [← hw9]; exact (Below.refl _ _).alloc (Nat.le_refl _) _
        have H9 := hide ((HB14.out.trans (h8.out.mono HB14.out.size)).trans (hb89.mono (Nat.le_trans HB14.out.size h8.out.size)))
        clear hw9 hb9 hb89 h8
        cases hok : okH s with
        | false =>
          have e1 : ansR s = zeroR := by unfold ansR; rw [hok]; rfl
          have e2 : ansE s = 4 := by unfold ansE; rw [hok]; rfl
          rw [e1] at hr9
          have l0 : w9.cell? ⟨b9, 0, none⟩ = some (.string ⟨#[]⟩) := hr9.c0
          have l1 : w9.cell? ⟨b9, 1, none⟩ = some (.string ⟨#[]⟩) := hr9.c1
          have l2 : w9.cell? ⟨b9, 2, none⟩ = some (.int .i64 0) := hr9.c2
          have l3 : w9.cell? ⟨b9, 3, none⟩ = some (.int .u64 0) := hr9.c3
          have q0 := run_eql_rule0
          rw [e2]
          clear hr9 e1 e2 hok
          go_wp2_with fail
          go_ret
          exact ⟨rfl, H9⟩
        | true =>
          have e1 : ansR s = parseH s := by unfold ansR; rw [hok]; rfl
          have e2 : ansE s = 0 := by unfold ansE; rw [hok]; rfl
          obtain ⟨o1, o2⟩ := okH_right hok
          obtain ⟨n1, n2, _⟩ := right_iff o1
          have n1' := named_len n1
          have n2' := named_len n2
          have ow := parseH_word s
          rw [e1] at hr9
          have HLR := hide (lright_any (parseH s) w9 (by omega) (by omega) (by omega))
          have HPR := hide (fun W (h : Below w9.heap.size w9 W) => print_any (parseH s) W (by omega) (by omega) ow (hide ((ht.out.below H9.out).below h).c))
          rw [o1] at HLR
          rw [o2] at HPR
          rw [e2]
          have HR9 := hide hr9
          clear hr9 e1 e2 hok o1 o2 n1 n2 n1' n2'
          generalize parseH s = y at *
          obtain ⟨lza, lzb, lzc, lzd⟩ := RuleAt.cs HR9.out
          go_wp2_with fail
          refine HLR.out.mono ?_; rintro e w10 ⟨rfl, h10⟩
          obtain ⟨lze, lzf, lzg, lzh⟩ := RuleAt.cs (HR9.out.below h10.out HR9.out.lt)
          clear lza lzb lzc lzd
          go_wp2_with fail
          refine (HPR.out w10 h10.out).mono ?_; rintro e w11 ⟨rfl, h11⟩
          go_wp2_with fail
          go_ret
          exact ⟨rfl, H9.out.trans ((h10.out.trans (h11.mono h10.out.size)).mono H9.out.size)⟩
end Go.Proofs.YtnfaaiifbiobiaaGreatDoor
