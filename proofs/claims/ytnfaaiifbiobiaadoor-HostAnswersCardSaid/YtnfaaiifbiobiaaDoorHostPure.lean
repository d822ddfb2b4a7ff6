/-
  host: rules as texts: the plain law.
-/
import Derived.Test.YtnfaaiifbiobiaaDoorNumTxt
import Derived.Lib.SplitLaws
namespace Go.Proofs.YtnfaaiifbiobiaaDoor
set_option linter.unusedVariables false

/-- may a text be a rule's name? -/
def namedL (s : List UInt8) : Bool := s.all (fun c => decide (33 ≤ c.toNat) && decide (c.toNat ≤ 126)) && decide (0 < s.length) && decide (s.length ≤ 30)
/-- a rule: its module, its name, its way, its word -/
structure HR where
  m : List UInt8
  n : List UInt8
  way : Int
  word : Nat
def rightH (r : HR) : Bool := namedL r.m && namedL r.n && decide (0 ≤ r.way) && decide (r.way ≤ 4) && (decide (r.way ≠ 0) || decide (r.word = 0))
def wayL (k : Int) : List UInt8 := if k = 0 then [110, 111, 110, 101] else if k = 1 then [99, 111, 110, 115, 116] else if k = 2 then [115, 117, 109] else if k = 3 then [99, 111, 117, 110, 116] else [108, 97, 115, 116]
/-- does a rule fit an import? -/
def fitsH (r : HR) (m n : List UInt8) : Bool := (decide (r.m = [42]) || decide (r.m = m)) && (decide (r.n = [42]) || decide (r.n = n))
/-- the first rule that fits, from place i on -/
def findH : List HR → List UInt8 → List UInt8 → Nat → Option Nat
  | [], _, _, _ => none
  | r :: l, m, n, i => if fitsH r m n then some i else findH l m n (i + 1)
/-- what a rule gives, asked so often, given these -/
def resultH (r : HR) (k : Nat) (given : List Nat) : Nat :=
  if r.way = 2 then given.foldl (fun v g => (v + g) % 18446744073709551616) r.word
  else if r.way = 3 then (r.word + k) % 18446744073709551616
  else if r.way = 4 then given.getLast?.getD r.word
  else r.word
theorem named_space {s : List UInt8} (h : namedL s = true) : (32 : UInt8) ∉ s := by
  intro hm
  unfold namedL at h
  simp only [Bool.and_eq_true, List.all_eq_true, decide_eq_true_eq] at h
  have := (h.1.1 32 hm).1
  simp at this
end Go.Proofs.YtnfaaiifbiobiaaDoor
