/-
  A body of bytes, in plain Lean: what code.Read answers, and the document's Read.
-/
import Derived.Test.YtdhmkapknaphpaaBlockPure
import Derived.Test.YtdhmkapknaphpaaDecPure
namespace Go.Proofs.Ytdhmkapknaphpaa
set_option linter.unusedVariables false

/-- a run of locals at a place: the error, where; how many bytes, the type, how many -/
def runL (l : List UInt8) (at_ n : Nat) : Nat × Nat × Nat × UInt8 × Nat :=
  let q := unsignedL l 32
  if q.2.2 ≠ 0 then (q.2.2, at_, 0, 0, 0) else
  match l.drop q.2.1 with
  | [] => (3, at_ + q.2.1, 0, 0, 0)
  | t :: _ => if t.toNat ≠ 126 ∧ t.toNat ≠ 127 then (4, at_ + q.2.1, 0, 0, 0) else if 50 - n < q.1 then (15, at_, 0, 0, 0) else (0, 0, q.2.1 + 1, t, q.1)

/-- so many runs, from a place on -/
def runsL (bs : List UInt8) : Nat → Nat → List UInt8 → Nat × Nat × List UInt8
  | 0, at_, locs => (0, at_, locs)
  | k + 1, at_, locs =>
    if (runL (bs.drop at_) at_ locs.length).1 ≠ 0 then ((runL (bs.drop at_) at_ locs.length).1, (runL (bs.drop at_) at_ locs.length).2.1, [])
    else runsL bs k (at_ + (runL (bs.drop at_) at_ locs.length).2.2.1) (locs ++ List.replicate (runL (bs.drop at_) at_ locs.length).2.2.2.2 (runL (bs.drop at_) at_ locs.length).2.2.2.1)

/-- an instruction, read -/
structure DI where
  code : Nat
  a : Nat
  b : Nat
  al : Nat
  l : List Nat
def diOf (r : Nat × DR) : DI := ⟨r.1, r.2.a, r.2.b, r.2.al, r.2.l⟩
def codesD (xs : List DI) : List Int := xs.map fun x => (x.code : Int)

/-- instructions, from a place on, behind others: the error, the place; they -/
def insL (bs : List UInt8) : Nat → Nat → NS → List DI → Nat × Nat × List DI
  | 0, at_, _, _ => (4, at_, [])
  | f + 1, at_, s, xs =>
    if bs.length ≤ at_ then (if s.closed then (0, 0, xs) else (4, at_, []))
    else if s.closed then (4, at_, [])
    else if (decodeR (bs.drop at_)).2.e ≠ 0 then ((decodeR (bs.drop at_)).2.e, at_, [])
    else if (stepN (codesD xs ++ [((decodeR (bs.drop at_)).1 : Int)]) (decodeR (bs.drop at_)).1 xs.length s).1 ≠ 0 then ((stepN (codesD xs ++ [((decodeR (bs.drop at_)).1 : Int)]) (decodeR (bs.drop at_)).1 xs.length s).1, at_, [])
    else insL bs f (at_ + (decodeR (bs.drop at_)).2.k) (stepN (codesD xs ++ [((decodeR (bs.drop at_)).1 : Int)]) (decodeR (bs.drop at_)).1 xs.length s).2 (xs ++ [diOf (decodeR (bs.drop at_))])

/-- a body of bytes: the error, the place; the locals, the instructions -/
def readR (bs : List UInt8) : Nat × Nat × List UInt8 × List DI :=
  let q := unsignedL bs 32
  if q.2.2 ≠ 0 then (q.2.2, 0, [], []) else
  let p := runsL bs q.1 q.2.1 []
  if p.1 ≠ 0 then (p.1, p.2.1, [], []) else
  let i := insL bs (bs.length + 1) p.2.1 initN []
  if i.1 ≠ 0 then (i.1, i.2.1, [], []) else (0, 0, p.2.2, i.2.2)

theorem codeN_ext {cs ds : List Int} {x : Int} (h0 : 0 ≤ x) (h : x < cs.length) : codeN (cs ++ ds) x = codeN cs x := by
  unfold codeN
  rw [List.getD_eq_getElem?_getD, List.getD_eq_getElem?_getD, List.getElem?_append_left (by omega)]
theorem NInv.ext {cs ds : List Int} {i : Nat} {s : NS} (h : NInv cs i s) (hi : i ≤ cs.length) : NInv (cs ++ ds) i s := by
  refine ⟨?_, ?_, h.inc, ?_, h.olt, h.oinc, ?_, h.nest, h.clo⟩
  · rw [h.cnt, List.take_append_of_le_length hi]
  · intro j x hx
    obtain ⟨a, b, c⟩ := h.beg j x hx
    exact ⟨a, b, by rw [codeN_ext a (by omega)]; exact c⟩
  · intro j x hx
    obtain ⟨a, b, _⟩ := h.beg j x hx
    rcases h.els j x hx with k | ⟨k1, k2, k3, k4, k5⟩
    · exact .inl k
    · exact .inr ⟨k1, k2, by rw [codeN_ext (by omega) (by omega)]; exact k3, by rw [codeN_ext a (by omega)]; exact k4, k5⟩
  · intro j x hx hj
    obtain ⟨a, b, _⟩ := h.beg j x hx
    obtain ⟨k1, k2, k3⟩ := h.cls j x hx hj
    exact ⟨k1, k2, by rw [codeN_ext (by omega) (by omega)]; exact k3⟩
/-- a step looks at no code behind its place -/
theorem stepN_ext {cs ds : List Int} {c : Int} {i : Nat} {s : NS} (h : NInv cs i s) (hi : i ≤ cs.length) : stepN (cs ++ ds) c i s = stepN cs c i s := by
  unfold stepN
  split
  · rfl
  · split
    · rfl
    · split
      · cases hl : s.opn.getLast? with
        | none => rfl
        | some t =>
          have ht := h.olt t (getLast_mem hl)
          have hg := List.getElem?_eq_getElem ht
          obtain ⟨a, b, _⟩ := h.beg t _ hg
          have hs : spanN s t = s.spans[t] := by unfold spanN; rw [List.getD_eq_getElem?_getD, hg]; rfl
          simp only
          rw [hs, codeN_ext a (by omega)]
      · rfl
/-- the walk over these codes, and whatever follows, comes to this state behind them -/
structure Came (cs : List Int) (s : NS) : Prop where
  go : ∀ ds, goN (cs ++ ds) (cs ++ ds) 0 initN = goN (cs ++ ds) ds cs.length s
  inv : NInv cs cs.length s
theorem Came.init : Came [] initN := ⟨fun ds => rfl, NInv.init []⟩
theorem Came.step {cs : List Int} {s : NS} {c : Int} (h : Came cs s) (h0 : (stepN (cs ++ [c]) c cs.length s).1 = 0) : Came (cs ++ [c]) (stepN (cs ++ [c]) c cs.length s).2 := by
  have hi : NInv (cs ++ [c]) cs.length s := h.inv.ext (Nat.le_refl _)
  refine ⟨fun ds => ?_, ?_⟩
  · have hs : stepN (cs ++ [c] ++ ds) c cs.length s = stepN (cs ++ [c]) c cs.length s := stepN_ext hi (by simp)
    have hg := h.go ([c] ++ ds)
    rw [← List.append_assoc] at hg
    rw [hg]
    show goN (cs ++ [c] ++ ds) (c :: ds) cs.length s = _
    rw [goN, hs, if_neg (fun x => x h0)]
    simp
  · have := hi.step (c := c) (by simp) h0
    simpa using this
/-- what the walk over these codes alone answers -/
theorem Came.stands {cs : List Int} {s : NS} (h : Came cs s) : goP cs 0 initN = if s.closed then (0, 0) else (cs.length, 4) := by
  have := h.go []
  rw [List.append_nil] at this
  unfold goP
  rw [List.drop_zero, this, goN]
  split <;> rfl
/-- and with one more -/
theorem Came.bad {cs : List Int} {s : NS} {c : Int} (h : Came cs s) (h0 : (stepN (cs ++ [c]) c cs.length s).1 ≠ 0) : goP (cs ++ [c]) 0 initN = (cs.length, (stepN (cs ++ [c]) c cs.length s).1) := by
  have := h.go [c]
  unfold goP
  rw [List.drop_zero, this, goN, if_pos h0]
theorem Came.open_ {s : NS} (h : Came [] s) : s.closed = false := by
  have := h.go []
  rw [List.append_nil, goN] at this
  simp only [initN, goN] at this
  cases hc : s.closed with
  | false => rfl
  | true => rw [hc] at this; simp at this

theorem insL_end {bs : List UInt8} {f at_ : Nat} {s : NS} {xs : List DI} (h : bs.length ≤ at_) : insL bs (f + 1) at_ s xs = if s.closed then (0, 0, xs) else (4, at_, []) := by rw [insL, if_pos h]
theorem insL_closed {bs : List UInt8} {f at_ : Nat} {s : NS} {xs : List DI} (h : at_ < bs.length) (hc : s.closed = true) : insL bs (f + 1) at_ s xs = (4, at_, []) := by rw [insL, if_neg (by omega), if_pos hc]
theorem insL_dec {bs : List UInt8} {f at_ : Nat} {s : NS} {xs : List DI} (h : at_ < bs.length) (hc : s.closed = false) (h1 : (decodeR (bs.drop at_)).2.e ≠ 0) : insL bs (f + 1) at_ s xs = ((decodeR (bs.drop at_)).2.e, at_, []) := by
  rw [insL, if_neg (by omega), if_neg (by simp [hc]), if_pos h1]
theorem insL_step {bs : List UInt8} {f at_ : Nat} {s : NS} {xs : List DI} (h : at_ < bs.length) (hc : s.closed = false) (h1 : (decodeR (bs.drop at_)).2.e = 0) (r : Nat × NS) (hr : stepN (codesD xs ++ [((decodeR (bs.drop at_)).1 : Int)]) (decodeR (bs.drop at_)).1 xs.length s = r) :
    insL bs (f + 1) at_ s xs = if r.1 ≠ 0 then (r.1, at_, []) else insL bs f (at_ + (decodeR (bs.drop at_)).2.k) r.2 (xs ++ [diOf (decodeR (bs.drop at_))]) := by
  subst hr
  rw [insL, if_neg (by omega), if_neg (by simp [hc]), if_neg (fun x => x h1)]
theorem codesD_snoc (xs : List DI) (x : DI) : codesD (xs ++ [x]) = codesD xs ++ [(x.code : Int)] := by simp [codesD]
theorem codesD_len (xs : List DI) : (codesD xs).length = xs.length := by simp [codesD]
end Go.Proofs.Ytdhmkapknaphpaa
