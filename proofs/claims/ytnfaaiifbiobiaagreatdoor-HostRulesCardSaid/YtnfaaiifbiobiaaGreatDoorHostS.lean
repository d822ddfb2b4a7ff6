/-
  HostRules: for every input.
-/
import Derived.Test.YtnfaaiifbiobiaaGreatDoorHostR
import Derived.Test.YtnfaaiifbiobiaaGreatDoorOpens
namespace Go.Proofs.YtnfaaiifbiobiaaGreatDoor
open Go.RowKit
set_option linter.unusedVariables false

/-- what the listed variables hold, one by one -/
structure LaidHF (w : World) : Prop where
  p10 : Tab w
  db : Tab2 w
  syn : ∃ tp p, w.cell? ⟨4, 0, none⟩ = some (.iface tp p)
  rng : ∃ tp p, w.cell? ⟨5, 0, none⟩ = some (.iface tp p)
  ml : ∃ m, w.cell? ⟨1, 0, none⟩ = some (.int .i64 m)
theorem LaidHF.h {w : World} (h : LaidHF w) : LaidH w := ⟨⟨h.p10, h.db, h.syn, h.rng⟩, h.ml⟩

abbrev RuleT := ByteArray × ByteArray × Int × Int × Unit
def ruleD (p : RuleT) : List Value := [.string p.1] ++ ([.string p.2.1] ++ ([.int .i64 p.2.2.1] ++ ([.int .u64 p.2.2.2.1] ++ [])))
def ruleOk (p : RuleT) : Prop := p.1.size ≤ maxLen ∧ p.2.1.size ≤ maxLen ∧ (Lit.int .i64 p.2.2.1).wf = true ∧ (Lit.int .u64 p.2.2.2.1).wf = true ∧ True
set_option maxRecDepth 100000 in
theorem HostRules_o0 {H : Type} {enc : TypeId × Value → H} {w : World} : Opens enc Tryz.prog w 24 ruleD ruleOk :=
  Opens.struct Tryz.underlying24 (by kernel_rfl) (OpensF.cons (k := 1) rfl (by kernel_rfl) (Opens.str Tryz.underlying9) (OpensF.cons (k := 1) rfl (by kernel_rfl) (Opens.str Tryz.underlying9) (OpensF.cons (k := 1) rfl (by kernel_rfl) (Opens.int Tryz.underlying3) (OpensF.cons (k := 1) rfl (by kernel_rfl) (Opens.int Tryz.underlying22) OpensF.nil))))
def toHR (p : RuleT) : HR := ⟨p.1.data.toList, p.2.1.data.toList, p.2.2.1, p.2.2.2.1.toNat⟩
theorem wf_u64 {n : Int} (h : (Lit.int .u64 n).wf = true) : 0 ≤ n ∧ n ≤ 18446744073709551615 := by
  simpa [Lit.wf, IntKind.min, IntKind.max, IntKind.signed, IntKind.bits] using h
theorem hrV_to {p : RuleT} (h : ruleOk p) : hrV (toHR p) = ruleD p := by
  obtain ⟨_, _, _, h4, _⟩ := h
  have := wf_u64 h4
  unfold hrV toHR ruleD
  simp only [List.cons_append, List.nil_append]
  rw [show ((p.2.2.2.1.toNat : Nat) : Int) = p.2.2.2.1 from by omega]

set_option maxRecDepth 100000 in
set_option maxHeartbeats 1600000 in
theorem rules_many (r : HR) (s : List UInt8) (w : World) (ht : Hid (LaidH w)) (h : 60 < r.m.length ∨ (r.m.length ≤ 60 ∧ 60 < r.n.length) ∨ (r.m.length ≤ 60 ∧ r.n.length ≤ 60 ∧ 200 < s.length)) (b1 : r.m.length ≤ 9223372036854775807) (b2 : r.n.length ≤ 9223372036854775807) (b3 : s.length ≤ 9223372036854775807) :
    Calls Tryz.prog 3 #[.agg #[.string ⟨r.m.toArray⟩, .string ⟨r.n.toArray⟩, .int .i64 r.way, .int .u64 (r.word : Int)], .string ⟨s.toArray⟩] w fun e w' => e = .returned (.bool true) ∧ Hid (Below w.heap.size w w') := by
  obtain ⟨g, hg⟩ : ∃ b, w.heap.size = b := ⟨_, rfl⟩
  obtain ⟨W, hW⟩ : ∃ W, w.alloc (.cells #[.string ⟨r.m.toArray⟩, .string ⟨r.n.toArray⟩, .int .i64 r.way, .int .u64 (r.word : Int)] 24) = W := ⟨_, rfl⟩
  have hr0 : RuleAt W g r := by rw [← hW, ← hg]; exact RuleAt.new w r
  have hb0 : Below w.heap.size w W := by rw [← hW]; exact (Below.refl _ _).alloc (Nat.le_refl _) _
  have HB0 := hide hb0; have HW := hide hW; have HG := hide hg
  have HA := hide (awakeH W (hide (ht.out.below hb0)))
  have l0 := hr0.c0
  have l1 := hr0.c1
  clear hW hb0 hr0 hg ht
  rcases h with h | ⟨h1, h⟩ | ⟨h1, h2, h⟩
  · go_enter Tryz.func3, Tryz.ntmps3
    go_upto_region 1 with fail
    rw [HW.out, HG.out]
    go_wp2_with fail
    refine HA.out.mono ?_; rintro e w1 ⟨rfl, h1⟩
    go_wp2_with fail
    go_ret
    exact ⟨rfl, HB0.out.trans (h1.out.mono HB0.out.size)⟩
  · go_enter Tryz.func3, Tryz.ntmps3
    go_upto_region 1 with fail
    rw [HW.out, HG.out]
    go_wp2_with fail
    refine HA.out.mono ?_; rintro e w1 ⟨rfl, h1⟩
    go_wp2_with fail
    go_ret
    exact ⟨rfl, HB0.out.trans (h1.out.mono HB0.out.size)⟩
  · go_enter Tryz.func3, Tryz.ntmps3
    go_upto_region 1 with fail
    rw [HW.out, HG.out]
    go_wp2_with fail
    refine HA.out.mono ?_; rintro e w1 ⟨rfl, h1⟩
    go_wp2_with fail
    go_ret
    exact ⟨rfl, HB0.out.trans (h1.out.mono HB0.out.size)⟩
theorem HostRules_walk (p : RuleT) (s : ByteArray) (w : World) (h0 : ruleOk p) (hs : s.size ≤ maxLen) (hP : LaidHF w) :
    Calls Tryz.prog 3 #[.agg (ruleD p).toArray, .string s] w fun e w' => e = .returned (.bool true) ∧ Below w.heap.size w w' := by
  rw [← hrV_to h0]
  obtain ⟨g1, g2, _, g4, _⟩ := h0
  have g4' := wf_u64 g4
  unfold maxLen at g1 g2 hs
  have b1 : (toHR p).m.length ≤ 9223372036854775807 := by show p.1.size ≤ _; omega
  have b2 : (toHR p).n.length ≤ 9223372036854775807 := by show p.2.1.size ≤ _; omega
  have b3 : (toHR p).word ≤ 18446744073709551615 := by show p.2.2.2.1.toNat ≤ _; omega
  have b4 : s.data.toList.length ≤ 9223372036854775807 := by show s.size ≤ _; omega
  generalize toHR p = r at *
  show Calls Tryz.prog 3 #[.agg #[.string ⟨r.m.toArray⟩, .string ⟨r.n.toArray⟩, .int .i64 r.way, .int .u64 (r.word : Int)], .string ⟨s.data.toList.toArray⟩] w _
  generalize s.data.toList = bs at *
  by_cases h : 60 < r.m.length ∨ (r.m.length ≤ 60 ∧ 60 < r.n.length) ∨ (r.m.length ≤ 60 ∧ r.n.length ≤ 60 ∧ 200 < bs.length)
  · exact rules_many r bs w hP.h h b1 b2 b4
  · cases hq : rightH r with
    | false => exact rules_no r bs w (by omega) (by omega) b3 (by omega) hP.h hq
    | true =>
      obtain ⟨_, _, h3, h4, _⟩ := right_iff hq
      obtain ⟨k, hk⟩ : ∃ k : Nat, r.way = k := ⟨r.way.toNat, by omega⟩
      exact rules_yes r.m r.n k r.word bs w (by omega) (by omega) b3 (by omega) hP.h (by omega) r (by rw [← hk]; exact (rfl : r = _)) hq
end Go.Proofs.YtnfaaiifbiobiaaGreatDoor
