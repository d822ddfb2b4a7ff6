/-
  HostAnswers: for every input.
-/
import Derived.Test.YtnfaaiifbiobiaaDoorHostT
namespace Go.Proofs.YtnfaaiifbiobiaaDoor
open Go.RowKit
set_option linter.unusedVariables false

theorem HostAnswers_o0 {H : Type} {enc : TypeId × Value → H} {w : World} : Opens enc Tryd.prog w 22 (fun s : Sl RuleT => [s.val]) (Sl.Ok w ruleD 4 48 ruleOk) := rules_o
theorem HostAnswers_o1 {H : Type} {enc : TypeId × Value → H} {w : World} : Opens enc Tryd.prog w 23 (fun s : Sl AskT => [s.val]) (Sl.Ok w askD 5 88 (askOk w)) := asks_o

set_option maxRecDepth 100000 in
set_option maxHeartbeats 800000 in
theorem answers_many (A0 : Option Addr) (c0 n : Nat) (A1 : Option Addr) (c1 m : Nat) (w : World) (ht : Hid (LaidH w)) (h : 40 < n ∨ (n ≤ 40 ∧ 40 < m)) :
    Calls Tryd.prog 3 #[.slice A0 n c0, .slice A1 m c1] w fun e w' => e = .returned (.bool true) ∧ Hid (Below w.heap.size w w') := by
  have HA := hide (awakeH w ht)
  clear ht
  rcases h with h | ⟨h1, h⟩
  · go_enter Tryd.func3, Tryd.ntmps3
    go_wp2_with fail
    refine HA.out.mono ?_; rintro e wa ⟨rfl, ha⟩
    go_wp2_with fail
    go_ret
    exact ⟨rfl, ha⟩
  · go_enter Tryd.func3, Tryd.ntmps3
    go_wp2_with fail
    refine HA.out.mono ?_; rintro e wa ⟨rfl, ha⟩
    go_wp2_with fail
    go_ret
    exact ⟨rfl, ha⟩
theorem HostAnswers_walk (s0 : Sl RuleT) (s1 : Sl AskT) (w : World) (h0 : Sl.Ok w ruleD 4 48 ruleOk s0) (h1 : Sl.Ok w askD 5 88 (askOk w) s1) (hP : LaidHF w) :
    Calls Tryd.prog 3 #[s0.val, s1.val] w fun e w' => e = .returned (.bool true) ∧ Below w.heap.size w w' := by
  by_cases h : 40 < s0.l.length ∨ (s0.l.length ≤ 40 ∧ 40 < s1.l.length)
  · exact answers_many s0.at_ s0.cap s0.l.length s1.at_ s1.cap s1.l.length w hP.h h
  · obtain ⟨rs, hl, hr, hf⟩ := rules_in h0
    obtain ⟨as_, hl2, ha⟩ := asks_in h1
    exact answers_any s0.at_ s0.cap s0.l.length rs s1.at_ s1.cap s1.l.length as_ w hr hl hf ha hl2 hP.h (by omega) (by omega)
end Go.Proofs.YtnfaaiifbiobiaaDoor
