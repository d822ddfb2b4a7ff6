/-
  The document's answer on ops: Name: contract; what the program's table tells is what the document tells.
  instr: what bytes are as an instruction, in plain Lean.
  A body of bytes, in plain Lean: what code.Read answers, and the document's Read.
  Words of bytes and strings, for regions that draw their order.
-/
import Derived.Test.YtpanlhbdphobdaaGreatDoorApAG
import Derived.Test.YtpanlhbdphobdaaGreatDoorApAH
import Derived.Test.YtpanlhbdphobdaaGreatDoorApAL
import Derived.Test.YtpanlhbdphobdaaGreatDoorApAC
import Derived.Test.YtpanlhbdphobdaaGreatDoorApAB
import Derived.Test.YtpanlhbdphobdaaGreatDoorApAE
import Derived.Test.YtpanlhbdphobdaaGreatDoorRows
import Derived.Laws.Entries
namespace Go.Proofs.YtpanlhbdphobdaaGreatDoor
open Go.RowKit
set_option linter.unusedVariables false

def refName (c : Int) : ByteArray :=
  if c = 64522 then ⟨#[109, 101, 109, 111, 114, 121, 46, 99, 111, 112, 121]⟩ else if c = 64523 then ⟨#[109, 101, 109, 111, 114, 121, 46, 102, 105, 108, 108]⟩
  else if c < 0 ∨ 196 < c then ⟨#[]⟩ else refNames.getD c.toNat ⟨#[]⟩

theorem string_elem : IsElem Tryz.prog 67 9 1 16 := IsElem.mk' Tryz.underlying67 (z := .string ⟨#[]⟩) (by kernel_rfl) rfl (by omega)

set_option maxRecDepth 100000 in
set_option maxHeartbeats 3200000 in
theorem refName_any (c : Int) (w : World) (h1 : -9223372036854775808 ≤ c) (h2 : c ≤ 9223372036854775807) :
    Calls Tryz.prog 29 #[.int .i64 c] w fun e w' => e = .returned (.string (refName c)) ∧ Hid (Below w.heap.size w w') := by
  by_cases e1 : c = 64522
  · subst e1
    have hv : refName 64522 = ⟨#[109, 101, 109, 111, 114, 121, 46, 99, 111, 112, 121]⟩ := rfl
    rw [hv]
    clear hv
    go_enter Tryz.func29, Tryz.ntmps29
    go_wp2_with fail
    go_ret
    exact ⟨rfl, Below.refl _ _⟩
  · by_cases e2 : c = 64523
    · subst e2
      have hv : refName 64523 = ⟨#[109, 101, 109, 111, 114, 121, 46, 102, 105, 108, 108]⟩ := rfl
      rw [hv]
      clear hv
      go_enter Tryz.func29, Tryz.ntmps29
      go_wp2_with fail
      go_ret
      exact ⟨rfl, Below.refl _ _⟩
    · have f1 : (c == 64522) = false := by simpa using e1
      have f2 : (c == 64523) = false := by simpa using e2
      by_cases e3 : c < 0
      · have hv : refName c = ⟨#[]⟩ := by unfold refName; rw [if_neg e1, if_neg e2, if_pos (.inl e3)]
        rw [hv]
        clear hv e1 e2
        have f3 : decide (c < 0) = true := by simpa using e3
        go_enter Tryz.func29, Tryz.ntmps29
        go_wp2_with fail
        go_ret
        exact ⟨rfl, Below.refl _ _⟩
      · have f3 : decide (c < 0) = false := by simpa using e3
        by_cases e4 : 196 < c
        · have hv : refName c = ⟨#[]⟩ := by unfold refName; rw [if_neg e1, if_neg e2, if_pos (.inr e4)]
          rw [hv]
          clear hv e1 e2 e3
          have f4 : decide (196 < c) = true := by simpa using e4
          go_enter Tryz.func29, Tryz.ntmps29
          go_wp2_with fail
          go_ret
          exact ⟨rfl, Below.refl _ _⟩
        · have f4 : decide (196 < c) = false := by simpa using e4
          obtain ⟨n, rfl⟩ : ∃ n : Nat, c = n := ⟨c.toNat, by omega⟩
          have hn : n < 197 := by omega
          obtain ⟨nm, hnm⟩ : ∃ nm, refNames[n]? = some nm := ⟨_, List.getElem?_eq_getElem (by simpa [refNames] using hn)⟩
          have hv : refName (n : Int) = nm := by
            unfold refName
            rw [if_neg e1, if_neg e2, if_neg (by omega), Int.toNat_natCast, List.getD_eq_getElem?_getD, hnm]
            rfl
          rw [hv]
          have hcell : (refNames.map Value.string)[n]? = some (.string nm) := by rw [List.getElem?_map, hnm]; rfl
          have hbl : Hid (Below w.heap.size w (w.alloc (.cells (refNames.map Value.string).toArray 9))) := (Below.refl _ _).alloc (Nat.le_refl _) _
          obtain ⟨VS, hVS⟩ : ∃ VS, refNames.map Value.string = VS := ⟨_, rfl⟩
          have hlen : VS.length = 197 := by rw [← hVS]; rfl
          have hone : ∀ v ∈ VS, v.cells = #[v] := by
            intro v hv
            rw [← hVS] at hv
            obtain ⟨s, _, rfl⟩ := List.mem_map.1 hv
            rfl
          rw [hVS] at hcell hbl
          have HL := hide hlen; have HO := hide hone; have HV := hide hVS
          clear hv hnm e1 e2 e3 e4 hlen hone hVS
          go_enter Tryz.func29, Tryz.ntmps29
          go_wp2_with (refine wpList_buildSlice_ones rfl 67 197 _ rfl string_elem VS HL.out (by omega) HO.out (by rw [← HV.out]; as_aux_lemma => rfl) ?_)
          go_ret
          exact ⟨rfl, hbl⟩

/-- all codes that there are -/
def allCodes : List Int := opRows1.map (·.code) ++ opRows2.map (·.code) ++ opSpans.flatMap (fun s => (List.range s.many.toNat).map (fun i : Nat => s.first + (i : Int)))
theorem opRow_code {c : Int} {r : OpRow} (h : opRow c = some r) : c ∈ allCodes := by
  unfold opRow at h
  unfold allCodes
  cases h1 : opRows1.find? (fun r => r.code == c) with
  | some x =>
    have := List.find?_some h1
    simp only [beq_iff_eq] at this
    simp only [List.mem_append, List.mem_map]
    exact .inl (.inl ⟨x, List.mem_of_find?_eq_some h1, this⟩)
  | none =>
    rw [h1] at h
    cases h2 : opRows2.find? (fun r => r.code == c) with
    | some x =>
      have := List.find?_some h2
      simp only [beq_iff_eq] at this
      simp only [List.mem_append, List.mem_map]
      exact .inl (.inr ⟨x, List.mem_of_find?_eq_some h2, this⟩)
    | none =>
      rw [h2] at h
      simp only [Option.none_or] at h
      unfold numRow at h
      cases h3 : numSpan c with
      | none => rw [h3] at h; cases h
      | some s =>
        have hin : inSpan c s = true := List.find?_some h3
        have hm : s ∈ opSpans := List.mem_of_find?_eq_some h3
        unfold inSpan at hin
        simp only [Bool.and_eq_true, decide_eq_true_eq] at hin
        simp only [List.mem_append, List.mem_flatMap, List.mem_map, List.mem_range]
        exact .inr ⟨s, hm, (c - s.first).toNat, by omega, by omega⟩
/-- what the program's table tells of a code: the document tells the same -/
def codeOk (c : Int) : Bool :=
  match opRow c with
  | none => false
  | some r => decide (r.name = refName c) && r.form == refForm c && !decide (refName c = ⟨#[]⟩) && !refForeign c && !foreignL c && r.code == c
theorem codes_ok : ∀ c ∈ allCodes, codeOk c = true := by decide +kernel
theorem opRow_ref {c : Int} {r : OpRow} (h : opRow c = some r) : r.name = refName c ∧ r.form = refForm c ∧ refName c ≠ ⟨#[]⟩ ∧ refForeign c = false ∧ foreignL c = false ∧ r.code = c := by
  have := codes_ok c (opRow_code h)
  unfold codeOk at this
  rw [h] at this
  simpa [and_assoc] using this
/-- of each code of the document's list of names: there is none, or the program has it -/
theorem names_none : ∀ n : Fin 197, refName ((n.val : Nat) : Int) = ⟨#[]⟩ ∨ (opRow ((n.val : Nat) : Int)).isSome = true := by decide +kernel
theorem opRow_none {c : Int} (h : opRow c = none) : refName c = ⟨#[]⟩ := by
  by_cases e1 : c = 64522
  · subst e1; exact absurd h (by decide +kernel)
  · by_cases e2 : c = 64523
    · subst e2; exact absurd h (by decide +kernel)
    · by_cases e3 : c < 0 ∨ 196 < c
      · unfold refName; rw [if_neg e1, if_neg e2, if_pos e3]
      · rcases names_none ⟨c.toNat, by omega⟩ with h1 | h1
        · simpa [show ((c.toNat : Nat) : Int) = c from by omega] using h1
        · simp only [show ((c.toNat : Nat) : Int) = c from by omega] at h1
          rw [h] at h1
          cases h1
/-- outside the profile: the program's list and the document's -/
theorem foreign_eq (c : Int) : foreignL c = refForeign c := by
  unfold foreignL refForeign opFor
  simp only [List.any_cons, List.any_nil, Bool.or_false]
  split
  · rename_i h
    simp only [Bool.or_eq_true, Bool.and_eq_true, decide_eq_true_eq]
    omega
  · split
    · rename_i h
      simp only [Bool.or_eq_true, Bool.and_eq_true, decide_eq_true_eq]
      omega
    · rename_i h h'
      rw [Bool.eq_false_iff]
      simp only [ne_eq, Bool.or_eq_true, Bool.and_eq_true, decide_eq_true_eq]
      omega
end Go.Proofs.YtpanlhbdphobdaaGreatDoor

namespace Go.Proofs.YtpanlhbdphobdaaGreatDoor
set_option linter.unusedVariables false

/-- the first byte; how many were read; the error -/
def byteL : List UInt8 → Nat × Nat × Nat
  | [] => (0, 0, 3)
  | b :: _ => (b.toNat, 1, 0)

/-- an op's code, how many bytes it has, ahead of what it may be; the error -/
def codeL0 (l : List UInt8) : Nat × Nat × Nat :=
  match l with
  | [] => (0, 0, 3)
  | b :: r => if b.toNat = 252 then (64512 + min (unsignedL r 32).1 65535, 1 + (unsignedL r 32).2.1, (unsignedL r 32).2.2) else (b.toNat, 1, 0)
def codeE (c : Nat) (e : Nat) : Nat := if e ≠ 0 then e else if refForeign (c : Int) = true then 6 else if (opRow (c : Int)).isNone = true then 4 else 0

/-- what was read, or why not: the error, how many bytes, A, B, the align, the labels -/
structure DR where
  e : Nat
  k : Nat
  a : Nat
  b : Nat
  al : Nat
  l : List Nat

def failR (e : Nat) : DR := ⟨e, 0, 0, 0, 0, []⟩
def labelsL : Nat → List UInt8 → Nat × Nat × List Nat
  | 0, _ => (0, 0, [])
  | n + 1, l =>
    if (unsignedL l 32).2.2 ≠ 0 then ((unsignedL l 32).2.2, 0, [])
    else if (labelsL n (l.drop (unsignedL l 32).2.1)).1 ≠ 0 then ((labelsL n (l.drop (unsignedL l 32).2.1)).1, 0, [])
    else (0, (unsignedL l 32).2.1 + (labelsL n (l.drop (unsignedL l 32).2.1)).2.1, (unsignedL l 32).1 :: (labelsL n (l.drop (unsignedL l 32).2.1)).2.2)

def blockR (l : List UInt8) : DR := let q := byteL l
  if q.2.2 ≠ 0 then failR q.2.2 else if q.1 = 64 ∨ q.1 = 126 ∨ q.1 = 127 then ⟨0, 1, q.1, 0, 0, []⟩ else failR 4
def oneR (l : List UInt8) : DR := let q := unsignedL l 32
  if q.2.2 ≠ 0 then failR q.2.2 else ⟨0, q.2.1, q.1, 0, 0, []⟩
/-- all labels: how many, they, and the last one -/
def tableR (l : List UInt8) : DR := let q := unsignedL l 32
  if q.2.2 ≠ 0 then failR q.2.2 else if 100 < q.1 then failR 15 else
  let p := labelsL q.1 (l.drop q.2.1)
  if p.1 ≠ 0 then failR p.1 else
  let s := unsignedL ((l.drop q.2.1).drop p.2.1) 32
  if s.2.2 ≠ 0 then failR s.2.2 else ⟨0, q.2.1 + p.2.1 + s.2.1, s.1, 0, 0, p.2.2⟩
def twoR (l : List UInt8) : DR := let q := unsignedL l 32
  if q.2.2 ≠ 0 then failR q.2.2 else
  let p := unsignedL (l.drop q.2.1) 32
  if p.2.2 ≠ 0 then failR p.2.2 else ⟨0, q.2.1 + p.2.1, q.1, p.1, 0, []⟩
def memR (l : List UInt8) : DR := let q := unsignedL l 32
  if q.2.2 ≠ 0 then failR q.2.2 else
  let m := q.1 / 64 % 2
  let al := q.1 - 64 * m
  if 31 < al then failR 4 else
  let s := if m = 1 then unsignedL (l.drop q.2.1) 32 else (0, 0, 0)
  if s.2.2 ≠ 0 then failR s.2.2 else
  let p := unsignedL ((l.drop q.2.1).drop s.2.1) 64
  if p.2.2 ≠ 0 then failR p.2.2 else ⟨0, q.2.1 + s.2.1 + p.2.1, s.1, p.1, al, []⟩
/-- a word of a number with a sign -/
def wordN (wide : Bool) (v : Int) : Nat := if wide then (v % 18446744073709551616).toNat else (v % 18446744073709551616 % 4294967296).toNat
def constR (c : Nat) (l : List UInt8) : DR := let q := signedL l (if c = 66 then 64 else 32)
  if q.2.2 ≠ 0 then failR q.2.2 else ⟨0, q.2.1, wordN (decide (c = 66)) q.1, 0, 0, []⟩

/-- the numbers of a code's form -/
def numbersR (c : Nat) (l : List UInt8) : DR :=
  let f := refForm (c : Int)
  if f = 1 then blockR l else if f = 2 ∨ f = 4 ∨ f = 6 ∨ f = 7 ∨ f = 9 then oneR l else if f = 3 then tableR l else if f = 5 ∨ f = 10 then twoR l
  else if f = 8 then memR l else if f = 11 then constR c l else ⟨0, 0, 0, 0, 0, []⟩

/-- an instruction: its code, its numbers; how many bytes; the error -/
def decodeR (l : List UInt8) : Nat × DR :=
  let q := codeL0 l
  let e := codeE q.1 q.2.2
  if e ≠ 0 then (0, failR e) else
  let n := numbersR q.1 (l.drop q.2.1)
  if n.e ≠ 0 then (0, failR n.e) else (q.1, { n with k := q.2.1 + n.k })
end Go.Proofs.YtpanlhbdphobdaaGreatDoor

namespace Go.Proofs.YtpanlhbdphobdaaGreatDoor
set_option linter.unusedVariables false

/-- a run of locals at a place: the error, where; how many bytes, the type, how many -/
def runL (l : List UInt8) (at_ n : Nat) : Nat × Nat × Nat × UInt8 × Nat :=
  let q := unsignedL l 32
  if q.2.2 ≠ 0 then (q.2.2, at_, 0, 0, 0) else
  match l.drop q.2.1 with
  | [] => (3, at_ + q.2.1, 0, 0, 0)
  | t :: _ => if t.toNat ≠ 126 ∧ t.toNat ≠ 127 then (4, at_ + q.2.1, 0, 0, 0) else if 50 - n < q.1 then (15, at_, 0, 0, 0) else (0, 0, q.2.1 + 1, t, q.1)

/-- so many runs, from a place on -/
def runsL (bs : List UInt8) : Nat → Nat → List UInt8 → Nat × Nat × List UInt8
  | 0, at_, locs => (0, at_, locs)
  | k + 1, at_, locs =>
    if (runL (bs.drop at_) at_ locs.length).1 ≠ 0 then ((runL (bs.drop at_) at_ locs.length).1, (runL (bs.drop at_) at_ locs.length).2.1, [])
    else runsL bs k (at_ + (runL (bs.drop at_) at_ locs.length).2.2.1) (locs ++ List.replicate (runL (bs.drop at_) at_ locs.length).2.2.2.2 (runL (bs.drop at_) at_ locs.length).2.2.2.1)

/-- an instruction, read -/
structure DI where
  code : Nat
  a : Nat
  b : Nat
  al : Nat
  l : List Nat
def diOf (r : Nat × DR) : DI := ⟨r.1, r.2.a, r.2.b, r.2.al, r.2.l⟩
def codesD (xs : List DI) : List Int := xs.map fun x => (x.code : Int)

/-- instructions, from a place on, behind others: the error, the place; they -/
def insL (bs : List UInt8) : Nat → Nat → NS → List DI → Nat × Nat × List DI
  | 0, at_, _, _ => (4, at_, [])
  | f + 1, at_, s, xs =>
    if bs.length ≤ at_ then (if s.closed then (0, 0, xs) else (4, at_, []))
    else if s.closed then (4, at_, [])
    else if (decodeR (bs.drop at_)).2.e ≠ 0 then ((decodeR (bs.drop at_)).2.e, at_, [])
    else if (stepN (codesD xs ++ [((decodeR (bs.drop at_)).1 : Int)]) (decodeR (bs.drop at_)).1 xs.length s).1 ≠ 0 then ((stepN (codesD xs ++ [((decodeR (bs.drop at_)).1 : Int)]) (decodeR (bs.drop at_)).1 xs.length s).1, at_, [])
    else insL bs f (at_ + (decodeR (bs.drop at_)).2.k) (stepN (codesD xs ++ [((decodeR (bs.drop at_)).1 : Int)]) (decodeR (bs.drop at_)).1 xs.length s).2 (xs ++ [diOf (decodeR (bs.drop at_))])

/-- a body of bytes: the error, the place; the locals, the instructions -/
def readR (bs : List UInt8) : Nat × Nat × List UInt8 × List DI :=
  let q := unsignedL bs 32
  if q.2.2 ≠ 0 then (q.2.2, 0, [], []) else
  let p := runsL bs q.1 q.2.1 []
  if p.1 ≠ 0 then (p.1, p.2.1, [], []) else
  let i := insL bs (bs.length + 1) p.2.1 initN []
  if i.1 ≠ 0 then (i.1, i.2.1, [], []) else (0, 0, p.2.2, i.2.2)

theorem codeN_ext {cs ds : List Int} {x : Int} (h0 : 0 ≤ x) (h : x < cs.length) : codeN (cs ++ ds) x = codeN cs x := by
  unfold codeN
  rw [List.getD_eq_getElem?_getD, List.getD_eq_getElem?_getD, List.getElem?_append_left (by omega)]
theorem NInv.ext {cs ds : List Int} {i : Nat} {s : NS} (h : NInv cs i s) (hi : i ≤ cs.length) : NInv (cs ++ ds) i s := by
  refine ⟨?_, ?_, h.inc, ?_, h.olt, h.oinc, ?_, h.nest, h.clo⟩
  · rw [h.cnt, List.take_append_of_le_length hi]
  · intro j x hx
    obtain ⟨a, b, c⟩ := h.beg j x hx
    exact ⟨a, b, by rw [codeN_ext a (by omega)]; exact c⟩
  · intro j x hx
    obtain ⟨a, b, _⟩ := h.beg j x hx
    rcases h.els j x hx with k | ⟨k1, k2, k3, k4, k5⟩
    · exact .inl k
    · exact .inr ⟨k1, k2, by rw [codeN_ext (by omega) (by omega)]; exact k3, by rw [codeN_ext a (by omega)]; exact k4, k5⟩
  · intro j x hx hj
    obtain ⟨a, b, _⟩ := h.beg j x hx
    obtain ⟨k1, k2, k3⟩ := h.cls j x hx hj
    exact ⟨k1, k2, by rw [codeN_ext (by omega) (by omega)]; exact k3⟩
/-- a step looks at no code behind its place -/
theorem stepN_ext {cs ds : List Int} {c : Int} {i : Nat} {s : NS} (h : NInv cs i s) (hi : i ≤ cs.length) : stepN (cs ++ ds) c i s = stepN cs c i s := by
  unfold stepN
  split
  · rfl
  · split
    · rfl
    · split
      · cases hl : s.opn.getLast? with
        | none => rfl
        | some t =>
          have ht := h.olt t (getLast_mem hl)
          have hg := List.getElem?_eq_getElem ht
          obtain ⟨a, b, _⟩ := h.beg t _ hg
          have hs : spanN s t = s.spans[t] := by unfold spanN; rw [List.getD_eq_getElem?_getD, hg]; rfl
          simp only
          rw [hs, codeN_ext a (by omega)]
      · rfl
/-- the walk over these codes, and whatever follows, comes to this state behind them -/
structure Came (cs : List Int) (s : NS) : Prop where
  go : ∀ ds, goN (cs ++ ds) (cs ++ ds) 0 initN = goN (cs ++ ds) ds cs.length s
  inv : NInv cs cs.length s
theorem Came.init : Came [] initN := ⟨fun ds => rfl, NInv.init []⟩
theorem Came.step {cs : List Int} {s : NS} {c : Int} (h : Came cs s) (h0 : (stepN (cs ++ [c]) c cs.length s).1 = 0) : Came (cs ++ [c]) (stepN (cs ++ [c]) c cs.length s).2 := by
  have hi : NInv (cs ++ [c]) cs.length s := h.inv.ext (Nat.le_refl _)
  refine ⟨fun ds => ?_, ?_⟩
  · have hs : stepN (cs ++ [c] ++ ds) c cs.length s = stepN (cs ++ [c]) c cs.length s := stepN_ext hi (by simp)
    have hg := h.go ([c] ++ ds)
    rw [← List.append_assoc] at hg
    rw [hg]
    show goN (cs ++ [c] ++ ds) (c :: ds) cs.length s = _
    rw [goN, hs, if_neg (fun x => x h0)]
    simp
  · have := hi.step (c := c) (by simp) h0
    simpa using this
/-- what the walk over these codes alone answers -/
theorem Came.stands {cs : List Int} {s : NS} (h : Came cs s) : goP cs 0 initN = if s.closed then (0, 0) else (cs.length, 4) := by
  have := h.go []
  rw [List.append_nil] at this
  unfold goP
  rw [List.drop_zero, this, goN]
  split <;> rfl
/-- and with one more -/
theorem Came.bad {cs : List Int} {s : NS} {c : Int} (h : Came cs s) (h0 : (stepN (cs ++ [c]) c cs.length s).1 ≠ 0) : goP (cs ++ [c]) 0 initN = (cs.length, (stepN (cs ++ [c]) c cs.length s).1) := by
  have := h.go [c]
  unfold goP
  rw [List.drop_zero, this, goN, if_pos h0]
theorem Came.open_ {s : NS} (h : Came [] s) : s.closed = false := by
  have := h.go []
  rw [List.append_nil, goN] at this
  simp only [initN, goN] at this
  cases hc : s.closed with
  | false => rfl
  | true => rw [hc] at this; simp at this

theorem insL_end {bs : List UInt8} {f at_ : Nat} {s : NS} {xs : List DI} (h : bs.length ≤ at_) : insL bs (f + 1) at_ s xs = if s.closed then (0, 0, xs) else (4, at_, []) := by rw [insL, if_pos h]
theorem insL_closed {bs : List UInt8} {f at_ : Nat} {s : NS} {xs : List DI} (h : at_ < bs.length) (hc : s.closed = true) : insL bs (f + 1) at_ s xs = (4, at_, []) := by rw [insL, if_neg (by omega), if_pos hc]
theorem insL_dec {bs : List UInt8} {f at_ : Nat} {s : NS} {xs : List DI} (h : at_ < bs.length) (hc : s.closed = false) (h1 : (decodeR (bs.drop at_)).2.e ≠ 0) : insL bs (f + 1) at_ s xs = ((decodeR (bs.drop at_)).2.e, at_, []) := by
  rw [insL, if_neg (by omega), if_neg (by simp [hc]), if_pos h1]
theorem insL_step {bs : List UInt8} {f at_ : Nat} {s : NS} {xs : List DI} (h : at_ < bs.length) (hc : s.closed = false) (h1 : (decodeR (bs.drop at_)).2.e = 0) (r : Nat × NS) (hr : stepN (codesD xs ++ [((decodeR (bs.drop at_)).1 : Int)]) (decodeR (bs.drop at_)).1 xs.length s = r) :
    insL bs (f + 1) at_ s xs = if r.1 ≠ 0 then (r.1, at_, []) else insL bs f (at_ + (decodeR (bs.drop at_)).2.k) r.2 (xs ++ [diOf (decodeR (bs.drop at_))]) := by
  subst hr
  rw [insL, if_neg (by omega), if_neg (by simp [hc]), if_neg (fun x => x h1)]
theorem codesD_snoc (xs : List DI) (x : DI) : codesD (xs ++ [x]) = codesD xs ++ [(x.code : Int)] := by simp [codesD]
theorem codesD_len (xs : List DI) : (codesD xs).length = xs.length := by simp [codesD]
end Go.Proofs.YtpanlhbdphobdaaGreatDoor

namespace Go.Proofs.YtpanlhbdphobdaaGreatDoor
open Go.RowKit
set_option linter.unusedVariables false

theorem str_reads {w : World} {Bk : Nat} {A : Option Addr} {bs : List UInt8} (c : Nat) (h : Reads w Bk 1 A bs.length (bs.map B)) (W : World) (hW : ∀ p : Addr, W.cell? p = w.cell? p) :
    (convert 39 9 (.slice A bs.length c)).run Tryz.prog W = .ok (.string ⟨bs.toArray⟩) W :=
  run_string_reads _ _ 5 c Tryz.underlying39 Tryz.underlying5 Tryz.underlying9 (h.keep fun p _ => hW p)
theorem str_reads' {W : World} {Bk : Nat} {A : Option Addr} {bs : List UInt8} (n c : Nat) (hn : bs.length = n) (h : Reads W Bk 1 A n (bs.map B)) :
    (convert 39 9 (.slice A n c)).run Tryz.prog W = .ok (.string ⟨bs.toArray⟩) W := by
  subst hn
  exact str_reads c h W (fun _ => rfl)
theorem str_cat (xs ys : List UInt8) : (⟨xs.toArray⟩ : ByteArray) ++ ⟨ys.toArray⟩ = ⟨(xs ++ ys).toArray⟩ := by
  apply ByteArray.ext
  simp [ByteArray.data_append]
theorem run_cat (xs ys : List UInt8) (t : TypeId) (W : World) (h : xs.length + ys.length ≤ 9223372036854775807) : (binOp .add t (.string ⟨xs.toArray⟩) (.string ⟨ys.toArray⟩)).run Tryz.prog W = .ok (.string ⟨(xs ++ ys).toArray⟩) W := by
  go_simp
  rw [if_neg (by omega), str_cat]
theorem run_neq_same (s : ByteArray) (W : World) : (binOp .neq 9 (.string s) (.string s)).run Tryz.prog W = .ok (.bool false) W := by
  go_simp
theorem run_eql_same (s : ByteArray) (W : World) : (binOp .eql 9 (.string s) (.string s)).run Tryz.prog W = .ok (.bool true) W := by
  go_simp

section
variable {P : Program} {o : Oper} {ρ : Operand → Value} {W : World} {post : Value → World → Prop}
theorem OpOut.un {op : UnOp} {t : TypeId} {x : Operand} {v : Value} (ho : o.op = .unOp op t x) (hr : (Op.unary op (ρ x)).run P W = .ok v W) (h : post v W) : OpOut P o ρ W post :=
  ⟨by unfold execOp; rw [ho]; simp only [Sem.run_bind, Sem.run_pure, hr, Result.andThen_ok]; exact h⟩
theorem OpOut.len {x : Operand} {t : TypeId} {A : Option Addr} {n c : Nat} (ho : o.op = .call { callee := .builtin .len, args := #[x], argTypes := #[t] }) (hu : P.underlying t = some (.slice (P.elem t))) (hx : ρ x = .slice A n c) (h : post (.int .i64 n) W) : OpOut P o ρ W post :=
  ⟨by unfold execOp; simp only [ho, resolve, invoke, builtin, Sem.run_bind, Sem.run_pure, Result.andThen_ok, List.map_toArray, List.map_cons, List.map_nil, hx, run_len_slice (h := hu)]; exact h⟩
end
end Go.Proofs.YtpanlhbdphobdaaGreatDoor
