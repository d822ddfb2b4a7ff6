/-
  HostSame: for every input.
-/
import Derived.Test.YtnfaaiifbiobiaaDoorHostN
namespace Go.Proofs.YtnfaaiifbiobiaaDoor
open Go.RowKit
set_option linter.unusedVariables false

/-- what the listed variables hold, one by one -/
structure LaidHF (w : World) : Prop where
  p10 : Tab w
  db : Tab2 w
  syn : ∃ tp p, w.cell? ⟨3, 0, none⟩ = some (.iface tp p)
  rng : ∃ tp p, w.cell? ⟨4, 0, none⟩ = some (.iface tp p)
  ml : ∃ m, w.cell? ⟨0, 0, none⟩ = some (.int .i64 m)
theorem LaidHF.h {w : World} (h : LaidHF w) : LaidH w := ⟨⟨h.p10, h.db, h.syn, h.rng⟩, h.ml⟩

theorem HostSame_o0 {H : Type} {enc : TypeId × Value → H} {w : World} : Opens enc Tryd.prog w 22 (fun s : Sl RuleT => [s.val]) (Sl.Ok w ruleD 4 48 ruleOk) := rules_o
theorem HostSame_o1 {H : Type} {enc : TypeId × Value → H} {w : World} : Opens enc Tryd.prog w 23 (fun s : Sl AskT => [s.val]) (Sl.Ok w askD 5 88 (askOk w)) := asks_o

set_option maxRecDepth 100000 in
set_option maxHeartbeats 800000 in
theorem same_many (A0 : Option Addr) (c0 n : Nat) (A1 : Option Addr) (c1 m : Nat) (w : World) (ht : Hid (LaidH w)) (h : 40 < n ∨ 40 < m) :
    Calls Tryd.prog 4 #[.slice A0 n c0, .slice A1 m c1] w fun e w' => e = .returned (.bool true) ∧ Hid (Below w.heap.size w w') := by
  have HA := hide (awakeH w ht)
  clear ht
  rcases h with h | h
  · go_enter Tryd.func4, Tryd.ntmps4
    go_wp2_with fail
    refine HA.out.mono ?_; rintro e wa ⟨rfl, ha⟩
    go_wp2_with fail
    go_ret
    exact ⟨rfl, ha⟩
  · by_cases hn : 40 < n
    · go_enter Tryd.func4, Tryd.ntmps4
      go_wp2_with fail
      refine HA.out.mono ?_; rintro e wa ⟨rfl, ha⟩
      go_wp2_with fail
      go_ret
      exact ⟨rfl, ha⟩
    · go_enter Tryd.func4, Tryd.ntmps4
      go_wp2_with fail
      refine HA.out.mono ?_; rintro e wa ⟨rfl, ha⟩
      go_wp2_with fail
      go_ret
      exact ⟨rfl, ha⟩
theorem HostSame_walk (s0 : Sl RuleT) (s1 : Sl AskT) (w : World) (h0 : Sl.Ok w ruleD 4 48 ruleOk s0) (h1 : Sl.Ok w askD 5 88 (askOk w) s1) (hP : LaidHF w) :
    Calls Tryd.prog 4 #[s0.val, s1.val] w fun e w' => e = .returned (.bool true) ∧ Below w.heap.size w w' := by
  by_cases h : 40 < s0.l.length ∨ 40 < s1.l.length
  · exact same_many s0.at_ s0.cap s0.l.length s1.at_ s1.cap s1.l.length w hP.h h
  · obtain ⟨rs, hl, hr, hf⟩ := rules_in h0
    obtain ⟨as_, hl2, ha⟩ := asks_in h1
    exact same_any s0.at_ s0.cap s0.l.length rs s1.at_ s1.cap s1.l.length as_ w hr hl hf ha hl2 hP.h (by omega) (by omega)
end Go.Proofs.YtnfaaiifbiobiaaDoor
