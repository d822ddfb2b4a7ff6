/-
  instr: what bytes are as an instruction, in plain Lean.
-/
import Derived.Test.YtdhmkapknaphpaaLebPure
import Derived.Test.YtdhmkapknaphpaaRefOpN
namespace Go.Proofs.Ytdhmkapknaphpaa
set_option linter.unusedVariables false

/-- the first byte; how many were read; the error -/
def byteL : List UInt8 → Nat × Nat × Nat
  | [] => (0, 0, 3)
  | b :: _ => (b.toNat, 1, 0)

/-- an op's code, how many bytes it has, ahead of what it may be; the error -/
def codeL0 (l : List UInt8) : Nat × Nat × Nat :=
  match l with
  | [] => (0, 0, 3)
  | b :: r => if b.toNat = 252 then (64512 + min (unsignedL r 32).1 65535, 1 + (unsignedL r 32).2.1, (unsignedL r 32).2.2) else (b.toNat, 1, 0)
def codeE (c : Nat) (e : Nat) : Nat := if e ≠ 0 then e else if refForeign (c : Int) = true then 6 else if (opRow (c : Int)).isNone = true then 4 else 0

/-- what was read, or why not: the error, how many bytes, A, B, the align, the labels -/
structure DR where
  e : Nat
  k : Nat
  a : Nat
  b : Nat
  al : Nat
  l : List Nat

def failR (e : Nat) : DR := ⟨e, 0, 0, 0, 0, []⟩
def labelsL : Nat → List UInt8 → Nat × Nat × List Nat
  | 0, _ => (0, 0, [])
  | n + 1, l =>
    if (unsignedL l 32).2.2 ≠ 0 then ((unsignedL l 32).2.2, 0, [])
    else if (labelsL n (l.drop (unsignedL l 32).2.1)).1 ≠ 0 then ((labelsL n (l.drop (unsignedL l 32).2.1)).1, 0, [])
    else (0, (unsignedL l 32).2.1 + (labelsL n (l.drop (unsignedL l 32).2.1)).2.1, (unsignedL l 32).1 :: (labelsL n (l.drop (unsignedL l 32).2.1)).2.2)

def blockR (l : List UInt8) : DR := let q := byteL l
  if q.2.2 ≠ 0 then failR q.2.2 else if q.1 = 64 ∨ q.1 = 126 ∨ q.1 = 127 then ⟨0, 1, q.1, 0, 0, []⟩ else failR 4
def oneR (l : List UInt8) : DR := let q := unsignedL l 32
  if q.2.2 ≠ 0 then failR q.2.2 else ⟨0, q.2.1, q.1, 0, 0, []⟩
/-- all labels: how many, they, and the last one -/
def tableR (l : List UInt8) : DR := let q := unsignedL l 32
  if q.2.2 ≠ 0 then failR q.2.2 else if 100 < q.1 then failR 15 else
  let p := labelsL q.1 (l.drop q.2.1)
  if p.1 ≠ 0 then failR p.1 else
  let s := unsignedL ((l.drop q.2.1).drop p.2.1) 32
  if s.2.2 ≠ 0 then failR s.2.2 else ⟨0, q.2.1 + p.2.1 + s.2.1, s.1, 0, 0, p.2.2⟩
def twoR (l : List UInt8) : DR := let q := unsignedL l 32
  if q.2.2 ≠ 0 then failR q.2.2 else
  let p := unsignedL (l.drop q.2.1) 32
  if p.2.2 ≠ 0 then failR p.2.2 else ⟨0, q.2.1 + p.2.1, q.1, p.1, 0, []⟩
def memR (l : List UInt8) : DR := let q := unsignedL l 32
  if q.2.2 ≠ 0 then failR q.2.2 else
  let m := q.1 / 64 % 2
  let al := q.1 - 64 * m
  if 31 < al then failR 4 else
  let s := if m = 1 then unsignedL (l.drop q.2.1) 32 else (0, 0, 0)
  if s.2.2 ≠ 0 then failR s.2.2 else
  let p := unsignedL ((l.drop q.2.1).drop s.2.1) 64
  if p.2.2 ≠ 0 then failR p.2.2 else ⟨0, q.2.1 + s.2.1 + p.2.1, s.1, p.1, al, []⟩
/-- a word of a number with a sign -/
def wordN (wide : Bool) (v : Int) : Nat := if wide then (v % 18446744073709551616).toNat else (v % 18446744073709551616 % 4294967296).toNat
def constR (c : Nat) (l : List UInt8) : DR := let q := signedL l (if c = 66 then 64 else 32)
  if q.2.2 ≠ 0 then failR q.2.2 else ⟨0, q.2.1, wordN (decide (c = 66)) q.1, 0, 0, []⟩

/-- the numbers of a code's form -/
def numbersR (c : Nat) (l : List UInt8) : DR :=
  let f := refForm (c : Int)
  if f = 1 then blockR l else if f = 2 ∨ f = 4 ∨ f = 6 ∨ f = 7 ∨ f = 9 then oneR l else if f = 3 then tableR l else if f = 5 ∨ f = 10 then twoR l
  else if f = 8 then memR l else if f = 11 then constR c l else ⟨0, 0, 0, 0, 0, []⟩

/-- an instruction: its code, its numbers; how many bytes; the error -/
def decodeR (l : List UInt8) : Nat × DR :=
  let q := codeL0 l
  let e := codeE q.1 q.2.2
  if e ≠ 0 then (0, failR e) else
  let n := numbersR q.1 (l.drop q.2.1)
  if n.e ≠ 0 then (0, failR n.e) else (q.1, { n with k := q.2.1 + n.k })
end Go.Proofs.Ytdhmkapknaphpaa
