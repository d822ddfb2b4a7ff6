/-
  HostMore: for every input.
-/
import Derived.Test.YtnfaaiifbiobiaaDoorHostP
namespace Go.Proofs.YtnfaaiifbiobiaaDoor
open Go.RowKit
set_option linter.unusedVariables false

theorem HostMore_o0 {H : Type} {enc : TypeId × Value → H} {w : World} : Opens enc Tryd.prog w 22 (fun s : Sl RuleT => [s.val]) (Sl.Ok w ruleD 4 48 ruleOk) := rules_o
theorem HostMore_o1 {H : Type} {enc : TypeId × Value → H} {w : World} : Opens enc Tryd.prog w 22 (fun s : Sl RuleT => [s.val]) (Sl.Ok w ruleD 4 48 ruleOk) := rules_o
theorem HostMore_o2 {H : Type} {enc : TypeId × Value → H} {w : World} : Opens enc Tryd.prog w 23 (fun s : Sl AskT => [s.val]) (Sl.Ok w askD 5 88 (askOk w)) := asks_o

set_option maxRecDepth 100000 in
set_option maxHeartbeats 800000 in
theorem more_many (A0 : Option Addr) (c0 n : Nat) (A3 : Option Addr) (c3 n3 : Nat) (A1 : Option Addr) (c1 m : Nat) (w : World) (ht : Hid (LaidH w)) (h : 15 < n ∨ (n ≤ 15 ∧ 15 < n3) ∨ (n ≤ 15 ∧ n3 ≤ 15 ∧ 40 < m)) :
    Calls Tryd.prog 5 #[.slice A0 n c0, .slice A3 n3 c3, .slice A1 m c1] w fun e w' => e = .returned (.bool true) ∧ Hid (Below w.heap.size w w') := by
  have HA := hide (awakeH w ht)
  clear ht
  rcases h with h | ⟨h1, h⟩ | ⟨h1, h2, h⟩
  · go_enter Tryd.func5, Tryd.ntmps5
    go_wp2_with fail
    refine HA.out.mono ?_; rintro e wa ⟨rfl, ha⟩
    go_wp2_with fail
    go_ret
    exact ⟨rfl, ha⟩
  · go_enter Tryd.func5, Tryd.ntmps5
    go_wp2_with fail
    refine HA.out.mono ?_; rintro e wa ⟨rfl, ha⟩
    go_wp2_with fail
    go_ret
    exact ⟨rfl, ha⟩
  · go_enter Tryd.func5, Tryd.ntmps5
    go_wp2_with fail
    refine HA.out.mono ?_; rintro e wa ⟨rfl, ha⟩
    go_wp2_with fail
    go_ret
    exact ⟨rfl, ha⟩
theorem HostMore_walk (s0 s1 : Sl RuleT) (s2 : Sl AskT) (w : World) (h0 : Sl.Ok w ruleD 4 48 ruleOk s0) (h1 : Sl.Ok w ruleD 4 48 ruleOk s1) (h2 : Sl.Ok w askD 5 88 (askOk w) s2) (hP : LaidHF w) :
    Calls Tryd.prog 5 #[s0.val, s1.val, s2.val] w fun e w' => e = .returned (.bool true) ∧ Below w.heap.size w w' := by
  by_cases h : 15 < s0.l.length ∨ (s0.l.length ≤ 15 ∧ 15 < s1.l.length) ∨ (s0.l.length ≤ 15 ∧ s1.l.length ≤ 15 ∧ 40 < s2.l.length)
  · exact more_many s0.at_ s0.cap s0.l.length s1.at_ s1.cap s1.l.length s2.at_ s2.cap s2.l.length w hP.h h
  · obtain ⟨rs, hl, hr, hf⟩ := rules_in h0
    obtain ⟨ms, hl3, hr3, hf3⟩ := rules_in h1
    obtain ⟨as_, hl2, ha⟩ := asks_in h2
    exact more_any s0.at_ s0.cap s0.l.length rs s1.at_ s1.cap s1.l.length ms s2.at_ s2.cap s2.l.length as_ w hr hl hf hr3 hl3 hf3 ha hl2 hP.h (by omega) (by omega) (by omega)
end Go.Proofs.YtnfaaiifbiobiaaDoor
