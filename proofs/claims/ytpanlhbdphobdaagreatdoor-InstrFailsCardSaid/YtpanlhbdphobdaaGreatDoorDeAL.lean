/-
  instr: what bytes are as an instruction, in plain Lean.
  A body of bytes, in plain Lean: what code.Read answers, and the document's Read.
  Words of bytes and strings, for regions that draw their order.
  leb: each function's contract.
-/
import Derived.Test.YtpanlhbdphobdaaGreatDoorDeAB
import Derived.Test.YtpanlhbdphobdaaGreatDoorDeAK
import Derived.Test.YtpanlhbdphobdaaGreatDoorDeAC
import Derived.Test.YtpanlhbdphobdaaGreatDoorDeAD
import Derived.Test.YtpanlhbdphobdaaGreatDoorRows
import Derived.Laws.Entries
import Derived.Outline
namespace Go.Proofs.YtpanlhbdphobdaaGreatDoor
set_option linter.unusedVariables false

/-- the first byte; how many were read; the error -/
def byteL : List UInt8 → Nat × Nat × Nat
  | [] => (0, 0, 3)
  | b :: _ => (b.toNat, 1, 0)

/-- an op's code, how many bytes it has, ahead of what it may be; the error -/
def codeL0 (l : List UInt8) : Nat × Nat × Nat :=
  match l with
  | [] => (0, 0, 3)
  | b :: r => if b.toNat = 252 then (64512 + min (unsignedL r 32).1 65535, 1 + (unsignedL r 32).2.1, (unsignedL r 32).2.2) else (b.toNat, 1, 0)
def codeE (c : Nat) (e : Nat) : Nat := if e ≠ 0 then e else if refForeign (c : Int) = true then 6 else if (opRow (c : Int)).isNone = true then 4 else 0

/-- what was read, or why not: the error, how many bytes, A, B, the align, the labels -/
structure DR where
  e : Nat
  k : Nat
  a : Nat
  b : Nat
  al : Nat
  l : List Nat

def failR (e : Nat) : DR := ⟨e, 0, 0, 0, 0, []⟩
def labelsL : Nat → List UInt8 → Nat × Nat × List Nat
  | 0, _ => (0, 0, [])
  | n + 1, l =>
    if (unsignedL l 32).2.2 ≠ 0 then ((unsignedL l 32).2.2, 0, [])
    else if (labelsL n (l.drop (unsignedL l 32).2.1)).1 ≠ 0 then ((labelsL n (l.drop (unsignedL l 32).2.1)).1, 0, [])
    else (0, (unsignedL l 32).2.1 + (labelsL n (l.drop (unsignedL l 32).2.1)).2.1, (unsignedL l 32).1 :: (labelsL n (l.drop (unsignedL l 32).2.1)).2.2)

def blockR (l : List UInt8) : DR := let q := byteL l
  if q.2.2 ≠ 0 then failR q.2.2 else if q.1 = 64 ∨ q.1 = 126 ∨ q.1 = 127 then ⟨0, 1, q.1, 0, 0, []⟩ else failR 4
def oneR (l : List UInt8) : DR := let q := unsignedL l 32
  if q.2.2 ≠ 0 then failR q.2.2 else ⟨0, q.2.1, q.1, 0, 0, []⟩
/-- all labels: how many, they, and the last one -/
def tableR (l : List UInt8) : DR := let q := unsignedL l 32
  if q.2.2 ≠ 0 then failR q.2.2 else if 100 < q.1 then failR 15 else
  let p := labelsL q.1 (l.drop q.2.1)
  if p.1 ≠ 0 then failR p.1 else
  let s := unsignedL ((l.drop q.2.1).drop p.2.1) 32
  if s.2.2 ≠ 0 then failR s.2.2 else ⟨0, q.2.1 + p.2.1 + s.2.1, s.1, 0, 0, p.2.2⟩
def twoR (l : List UInt8) : DR := let q := unsignedL l 32
  if q.2.2 ≠ 0 then failR q.2.2 else
  let p := unsignedL (l.drop q.2.1) 32
  if p.2.2 ≠ 0 then failR p.2.2 else ⟨0, q.2.1 + p.2.1, q.1, p.1, 0, []⟩
def memR (l : List UInt8) : DR := let q := unsignedL l 32
  if q.2.2 ≠ 0 then failR q.2.2 else
  let m := q.1 / 64 % 2
  let al := q.1 - 64 * m
  if 31 < al then failR 4 else
  let s := if m = 1 then unsignedL (l.drop q.2.1) 32 else (0, 0, 0)
  if s.2.2 ≠ 0 then failR s.2.2 else
  let p := unsignedL ((l.drop q.2.1).drop s.2.1) 64
  if p.2.2 ≠ 0 then failR p.2.2 else ⟨0, q.2.1 + s.2.1 + p.2.1, s.1, p.1, al, []⟩
/-- a word of a number with a sign -/
def wordN (wide : Bool) (v : Int) : Nat := if wide then (v % 18446744073709551616).toNat else (v % 18446744073709551616 % 4294967296).toNat
def constR (c : Nat) (l : List UInt8) : DR := let q := signedL l (if c = 66 then 64 else 32)
  if q.2.2 ≠ 0 then failR q.2.2 else ⟨0, q.2.1, wordN (decide (c = 66)) q.1, 0, 0, []⟩

/-- the numbers of a code's form -/
def numbersR (c : Nat) (l : List UInt8) : DR :=
  let f := refForm (c : Int)
  if f = 1 then blockR l else if f = 2 ∨ f = 4 ∨ f = 6 ∨ f = 7 ∨ f = 9 then oneR l else if f = 3 then tableR l else if f = 5 ∨ f = 10 then twoR l
  else if f = 8 then memR l else if f = 11 then constR c l else ⟨0, 0, 0, 0, 0, []⟩

/-- an instruction: its code, its numbers; how many bytes; the error -/
def decodeR (l : List UInt8) : Nat × DR :=
  let q := codeL0 l
  let e := codeE q.1 q.2.2
  if e ≠ 0 then (0, failR e) else
  let n := numbersR q.1 (l.drop q.2.1)
  if n.e ≠ 0 then (0, failR n.e) else (q.1, { n with k := q.2.1 + n.k })
end Go.Proofs.YtpanlhbdphobdaaGreatDoor

namespace Go.Proofs.YtpanlhbdphobdaaGreatDoor
set_option linter.unusedVariables false

/-- a run of locals at a place: the error, where; how many bytes, the type, how many -/
def runL (l : List UInt8) (at_ n : Nat) : Nat × Nat × Nat × UInt8 × Nat :=
  let q := unsignedL l 32
  if q.2.2 ≠ 0 then (q.2.2, at_, 0, 0, 0) else
  match l.drop q.2.1 with
  | [] => (3, at_ + q.2.1, 0, 0, 0)
  | t :: _ => if t.toNat ≠ 126 ∧ t.toNat ≠ 127 then (4, at_ + q.2.1, 0, 0, 0) else if 50 - n < q.1 then (15, at_, 0, 0, 0) else (0, 0, q.2.1 + 1, t, q.1)

/-- so many runs, from a place on -/
def runsL (bs : List UInt8) : Nat → Nat → List UInt8 → Nat × Nat × List UInt8
  | 0, at_, locs => (0, at_, locs)
  | k + 1, at_, locs =>
    if (runL (bs.drop at_) at_ locs.length).1 ≠ 0 then ((runL (bs.drop at_) at_ locs.length).1, (runL (bs.drop at_) at_ locs.length).2.1, [])
    else runsL bs k (at_ + (runL (bs.drop at_) at_ locs.length).2.2.1) (locs ++ List.replicate (runL (bs.drop at_) at_ locs.length).2.2.2.2 (runL (bs.drop at_) at_ locs.length).2.2.2.1)

/-- an instruction, read -/
structure DI where
  code : Nat
  a : Nat
  b : Nat
  al : Nat
  l : List Nat
def diOf (r : Nat × DR) : DI := ⟨r.1, r.2.a, r.2.b, r.2.al, r.2.l⟩
def codesD (xs : List DI) : List Int := xs.map fun x => (x.code : Int)

/-- instructions, from a place on, behind others: the error, the place; they -/
def insL (bs : List UInt8) : Nat → Nat → NS → List DI → Nat × Nat × List DI
  | 0, at_, _, _ => (4, at_, [])
  | f + 1, at_, s, xs =>
    if bs.length ≤ at_ then (if s.closed then (0, 0, xs) else (4, at_, []))
    else if s.closed then (4, at_, [])
    else if (decodeR (bs.drop at_)).2.e ≠ 0 then ((decodeR (bs.drop at_)).2.e, at_, [])
    else if (stepN (codesD xs ++ [((decodeR (bs.drop at_)).1 : Int)]) (decodeR (bs.drop at_)).1 xs.length s).1 ≠ 0 then ((stepN (codesD xs ++ [((decodeR (bs.drop at_)).1 : Int)]) (decodeR (bs.drop at_)).1 xs.length s).1, at_, [])
    else insL bs f (at_ + (decodeR (bs.drop at_)).2.k) (stepN (codesD xs ++ [((decodeR (bs.drop at_)).1 : Int)]) (decodeR (bs.drop at_)).1 xs.length s).2 (xs ++ [diOf (decodeR (bs.drop at_))])

/-- a body of bytes: the error, the place; the locals, the instructions -/
def readR (bs : List UInt8) : Nat × Nat × List UInt8 × List DI :=
  let q := unsignedL bs 32
  if q.2.2 ≠ 0 then (q.2.2, 0, [], []) else
  let p := runsL bs q.1 q.2.1 []
  if p.1 ≠ 0 then (p.1, p.2.1, [], []) else
  let i := insL bs (bs.length + 1) p.2.1 initN []
  if i.1 ≠ 0 then (i.1, i.2.1, [], []) else (0, 0, p.2.2, i.2.2)

theorem codeN_ext {cs ds : List Int} {x : Int} (h0 : 0 ≤ x) (h : x < cs.length) : codeN (cs ++ ds) x = codeN cs x := by
  unfold codeN
  rw [List.getD_eq_getElem?_getD, List.getD_eq_getElem?_getD, List.getElem?_append_left (by omega)]
theorem NInv.ext {cs ds : List Int} {i : Nat} {s : NS} (h : NInv cs i s) (hi : i ≤ cs.length) : NInv (cs ++ ds) i s := by
  refine ⟨?_, ?_, h.inc, ?_, h.olt, h.oinc, ?_, h.nest, h.clo⟩
  · rw [h.cnt, List.take_append_of_le_length hi]
  · intro j x hx
    obtain ⟨a, b, c⟩ := h.beg j x hx
    exact ⟨a, b, by rw [codeN_ext a (by omega)]; exact c⟩
  · intro j x hx
    obtain ⟨a, b, _⟩ := h.beg j x hx
    rcases h.els j x hx with k | ⟨k1, k2, k3, k4, k5⟩
    · exact .inl k
    · exact .inr ⟨k1, k2, by rw [codeN_ext (by omega) (by omega)]; exact k3, by rw [codeN_ext a (by omega)]; exact k4, k5⟩
  · intro j x hx hj
    obtain ⟨a, b, _⟩ := h.beg j x hx
    obtain ⟨k1, k2, k3⟩ := h.cls j x hx hj
    exact ⟨k1, k2, by rw [codeN_ext (by omega) (by omega)]; exact k3⟩
/-- a step looks at no code behind its place -/
theorem stepN_ext {cs ds : List Int} {c : Int} {i : Nat} {s : NS} (h : NInv cs i s) (hi : i ≤ cs.length) : stepN (cs ++ ds) c i s = stepN cs c i s := by
  unfold stepN
  split
  · rfl
  · split
    · rfl
    · split
      · cases hl : s.opn.getLast? with
        | none => rfl
        | some t =>
          have ht := h.olt t (getLast_mem hl)
          have hg := List.getElem?_eq_getElem ht
          obtain ⟨a, b, _⟩ := h.beg t _ hg
          have hs : spanN s t = s.spans[t] := by unfold spanN; rw [List.getD_eq_getElem?_getD, hg]; rfl
          simp only
          rw [hs, codeN_ext a (by omega)]
      · rfl
/-- the walk over these codes, and whatever follows, comes to this state behind them -/
structure Came (cs : List Int) (s : NS) : Prop where
  go : ∀ ds, goN (cs ++ ds) (cs ++ ds) 0 initN = goN (cs ++ ds) ds cs.length s
  inv : NInv cs cs.length s
theorem Came.init : Came [] initN := ⟨fun ds => rfl, NInv.init []⟩
theorem Came.step {cs : List Int} {s : NS} {c : Int} (h : Came cs s) (h0 : (stepN (cs ++ [c]) c cs.length s).1 = 0) : Came (cs ++ [c]) (stepN (cs ++ [c]) c cs.length s).2 := by
  have hi : NInv (cs ++ [c]) cs.length s := h.inv.ext (Nat.le_refl _)
  refine ⟨fun ds => ?_, ?_⟩
  · have hs : stepN (cs ++ [c] ++ ds) c cs.length s = stepN (cs ++ [c]) c cs.length s := stepN_ext hi (by simp)
    have hg := h.go ([c] ++ ds)
    rw [← List.append_assoc] at hg
    rw [hg]
    show goN (cs ++ [c] ++ ds) (c :: ds) cs.length s = _
    rw [goN, hs, if_neg (fun x => x h0)]
    simp
  · have := hi.step (c := c) (by simp) h0
    simpa using this
/-- what the walk over these codes alone answers -/
theorem Came.stands {cs : List Int} {s : NS} (h : Came cs s) : goP cs 0 initN = if s.closed then (0, 0) else (cs.length, 4) := by
  have := h.go []
  rw [List.append_nil] at this
  unfold goP
  rw [List.drop_zero, this, goN]
  split <;> rfl
/-- and with one more -/
theorem Came.bad {cs : List Int} {s : NS} {c : Int} (h : Came cs s) (h0 : (stepN (cs ++ [c]) c cs.length s).1 ≠ 0) : goP (cs ++ [c]) 0 initN = (cs.length, (stepN (cs ++ [c]) c cs.length s).1) := by
  have := h.go [c]
  unfold goP
  rw [List.drop_zero, this, goN, if_pos h0]
theorem Came.open_ {s : NS} (h : Came [] s) : s.closed = false := by
  have := h.go []
  rw [List.append_nil, goN] at this
  simp only [initN, goN] at this
  cases hc : s.closed with
  | false => rfl
  | true => rw [hc] at this; simp at this

theorem insL_end {bs : List UInt8} {f at_ : Nat} {s : NS} {xs : List DI} (h : bs.length ≤ at_) : insL bs (f + 1) at_ s xs = if s.closed then (0, 0, xs) else (4, at_, []) := by rw [insL, if_pos h]
theorem insL_closed {bs : List UInt8} {f at_ : Nat} {s : NS} {xs : List DI} (h : at_ < bs.length) (hc : s.closed = true) : insL bs (f + 1) at_ s xs = (4, at_, []) := by rw [insL, if_neg (by omega), if_pos hc]
theorem insL_dec {bs : List UInt8} {f at_ : Nat} {s : NS} {xs : List DI} (h : at_ < bs.length) (hc : s.closed = false) (h1 : (decodeR (bs.drop at_)).2.e ≠ 0) : insL bs (f + 1) at_ s xs = ((decodeR (bs.drop at_)).2.e, at_, []) := by
  rw [insL, if_neg (by omega), if_neg (by simp [hc]), if_pos h1]
theorem insL_step {bs : List UInt8} {f at_ : Nat} {s : NS} {xs : List DI} (h : at_ < bs.length) (hc : s.closed = false) (h1 : (decodeR (bs.drop at_)).2.e = 0) (r : Nat × NS) (hr : stepN (codesD xs ++ [((decodeR (bs.drop at_)).1 : Int)]) (decodeR (bs.drop at_)).1 xs.length s = r) :
    insL bs (f + 1) at_ s xs = if r.1 ≠ 0 then (r.1, at_, []) else insL bs f (at_ + (decodeR (bs.drop at_)).2.k) r.2 (xs ++ [diOf (decodeR (bs.drop at_))]) := by
  subst hr
  rw [insL, if_neg (by omega), if_neg (by simp [hc]), if_neg (fun x => x h1)]
theorem codesD_snoc (xs : List DI) (x : DI) : codesD (xs ++ [x]) = codesD xs ++ [(x.code : Int)] := by simp [codesD]
theorem codesD_len (xs : List DI) : (codesD xs).length = xs.length := by simp [codesD]
end Go.Proofs.YtpanlhbdphobdaaGreatDoor

namespace Go.Proofs.YtpanlhbdphobdaaGreatDoor
open Go.RowKit
set_option linter.unusedVariables false

theorem str_reads {w : World} {Bk : Nat} {A : Option Addr} {bs : List UInt8} (c : Nat) (h : Reads w Bk 1 A bs.length (bs.map B)) (W : World) (hW : ∀ p : Addr, W.cell? p = w.cell? p) :
    (convert 39 9 (.slice A bs.length c)).run Tryz.prog W = .ok (.string ⟨bs.toArray⟩) W :=
  run_string_reads _ _ 5 c Tryz.underlying39 Tryz.underlying5 Tryz.underlying9 (h.keep fun p _ => hW p)
theorem str_reads' {W : World} {Bk : Nat} {A : Option Addr} {bs : List UInt8} (n c : Nat) (hn : bs.length = n) (h : Reads W Bk 1 A n (bs.map B)) :
    (convert 39 9 (.slice A n c)).run Tryz.prog W = .ok (.string ⟨bs.toArray⟩) W := by
  subst hn
  exact str_reads c h W (fun _ => rfl)
theorem str_cat (xs ys : List UInt8) : (⟨xs.toArray⟩ : ByteArray) ++ ⟨ys.toArray⟩ = ⟨(xs ++ ys).toArray⟩ := by
  apply ByteArray.ext
  simp [ByteArray.data_append]
theorem run_cat (xs ys : List UInt8) (t : TypeId) (W : World) (h : xs.length + ys.length ≤ 9223372036854775807) : (binOp .add t (.string ⟨xs.toArray⟩) (.string ⟨ys.toArray⟩)).run Tryz.prog W = .ok (.string ⟨(xs ++ ys).toArray⟩) W := by
  go_simp
  rw [if_neg (by omega), str_cat]
theorem run_neq_same (s : ByteArray) (W : World) : (binOp .neq 9 (.string s) (.string s)).run Tryz.prog W = .ok (.bool false) W := by
  go_simp
theorem run_eql_same (s : ByteArray) (W : World) : (binOp .eql 9 (.string s) (.string s)).run Tryz.prog W = .ok (.bool true) W := by
  go_simp

section
variable {P : Program} {o : Oper} {ρ : Operand → Value} {W : World} {post : Value → World → Prop}
theorem OpOut.un {op : UnOp} {t : TypeId} {x : Operand} {v : Value} (ho : o.op = .unOp op t x) (hr : (Op.unary op (ρ x)).run P W = .ok v W) (h : post v W) : OpOut P o ρ W post :=
  ⟨by unfold execOp; rw [ho]; simp only [Sem.run_bind, Sem.run_pure, hr, Result.andThen_ok]; exact h⟩
theorem OpOut.len {x : Operand} {t : TypeId} {A : Option Addr} {n c : Nat} (ho : o.op = .call { callee := .builtin .len, args := #[x], argTypes := #[t] }) (hu : P.underlying t = some (.slice (P.elem t))) (hx : ρ x = .slice A n c) (h : post (.int .i64 n) W) : OpOut P o ρ W post :=
  ⟨by unfold execOp; simp only [ho, resolve, invoke, builtin, Sem.run_bind, Sem.run_pure, Result.andThen_ok, List.map_toArray, List.map_cons, List.map_nil, hx, run_len_slice (h := hu)]; exact h⟩
end
end Go.Proofs.YtpanlhbdphobdaaGreatDoor

namespace Go.Proofs.YtpanlhbdphobdaaGreatDoor
open Go.RowKit
set_option linter.unusedVariables false

set_option maxHeartbeats 400000 in
theorem count_any (n : Int) (c : Nat) (hc : Hid (cntN n.toNat = c)) (w : World) (h0 : 0 ≤ n) (h1 : n ≤ 1000000) :
    Calls Tryz.prog 143 #[.int .i64 n] w fun e w' => e = .returned (.int .i64 (c : Int)) ∧ w = w' := by
  go_enter Tryz.func143, Tryz.ntmps143
  go_wp2
  go_ret
  refine ⟨ret_int ?_, rfl⟩
  rw [← hc.out]; unfold cntN; omega

theorem or_step (acc c k : Nat) (ha : acc < 2 ^ 64) (hc : c ≤ 255) :
    bits .or .u64 (acc : Int) (IntKind.u64.wrap (IntKind.u64.wrap (bits .and .u8 (c : Int) 127) * 2 ^ (7 * k))) = ((acc ||| (c % 128 * 2 ^ (7 * k) % 2 ^ 64) : Nat) : Int) := by
  have h1 : bits .and .u8 (c : Int) 127 = ((c % 128 : Nat) : Int) := by
    have := u8_and_nat c 127 (by omega) (by omega)
    rw [and127] at this
    exact this
  have h0 : ((c % 128 : Nat) : Int) % 18446744073709551616 = ((c % 128 : Nat) : Int) := Int.emod_eq_of_lt (by omega) (by omega)
  rw [h1, IntKind.wrap_u64, IntKind.wrap_u64, h0]
  have h2 : ((c % 128 : Nat) : Int) * 2 ^ (7 * k) % 18446744073709551616 = ((c % 128 * 2 ^ (7 * k) % 18446744073709551616 : Nat) : Int) := by
    generalize c % 128 = d
    rw [Int.natCast_emod, Int.natCast_mul, Int.natCast_pow]; rfl
  simp only [Nat.reducePow] at ha ⊢
  rw [h2, u64_or_nat _ _ ha (Nat.mod_lt _ (by omega))]

/-- one round of raw, each way -/
theorem rawGo_bad {cnt k acc : Nat} {bs : List UInt8} {c : UInt8} (hc : bs[k]? = some c) (h1 : k + 1 = cnt) (h2 : (128 : Int) ≤ (c.toNat : Int)) : rawGo cnt (bs.drop k) k acc = (0, 0, 0, 4) := by
  obtain ⟨hk, hv⟩ := List.getElem?_eq_some_iff.1 hc
  rw [List.drop_eq_getElem_cons hk, hv, rawGo, if_pos ⟨h1, by omega⟩]
theorem rawGo_end {cnt k acc : Nat} {bs : List UInt8} {c : UInt8} (hc : bs[k]? = some c) (h2 : (c.toNat : Int) < 128) : rawGo cnt (bs.drop k) k acc = (acc ||| (c.toNat % 128 * 2 ^ (7 * k) % 2 ^ 64), k + 1, c.toNat, 0) := by
  obtain ⟨hk, hv⟩ := List.getElem?_eq_some_iff.1 hc
  rw [List.drop_eq_getElem_cons hk, hv, rawGo, if_neg (by omega), if_pos (by omega)]
theorem rawGo_on {cnt k acc : Nat} {bs : List UInt8} {c : UInt8} (hc : bs[k]? = some c) (h1 : k + 1 < cnt) (h2 : (128 : Int) ≤ (c.toNat : Int)) : rawGo cnt (bs.drop k) k acc = rawGo cnt (bs.drop (k + 1)) (k + 1) (acc ||| (c.toNat % 128 * 2 ^ (7 * k) % 2 ^ 64)) := by
  obtain ⟨hk, hv⟩ := List.getElem?_eq_some_iff.1 hc
  rw [List.drop_eq_getElem_cons hk, hv, rawGo, if_neg (by omega), if_neg (by omega)]
theorem rawGo_nil {cnt k acc : Nat} {bs : List UInt8} (h : bs.length ≤ k) : rawGo cnt (bs.drop k) k acc = (0, 0, 0, 3) := by
  rw [List.drop_eq_nil_of_le h, rawGo]

set_option maxHeartbeats 400000 in
set_option maxRecDepth 100000 in
theorem raw_any (A : Option Addr) (cap : Nat) (bs : List UInt8) (n : Int) (w : World) (h0 : 1 ≤ n) (h1 : n ≤ 64) (hr : Reads w w.heap.size 1 A bs.length (bs.map B)) (hl : bs.length ≤ 70000):
    Calls Tryz.prog 175 #[.slice A bs.length cap, .int .i64 n] w fun e w' => e = .returned (.tuple #[.int .u64 (rawL bs n).1, .int .i64 (rawL bs n).2.1, .int .u8 (rawL bs n).2.2.1, .int .i64 (rawL bs n).2.2.2]) ∧ w = w' := by
  have H := Lib.hid hr; clear hr
  have hR : rawL bs n = rawGo (cntN n.toNat) bs 0 0 := by unfold rawL; rw [if_neg (by omega)]
  obtain ⟨cnt, hcnt⟩ : ∃ c, cntN n.toNat = c := ⟨_, rfl⟩
  have hc1 : 1 ≤ cnt := by rw [← hcnt]; unfold cntN; omega
  have hc2 : cnt ≤ 10 := by rw [← hcnt]; unfold cntN; omega
  rw [hR, hcnt]
  have HC := Lib.hid hcnt; clear hcnt hR
  go_enter Tryz.func175, Tryz.ntmps175
  go_wp2_with fail
  go_loop [8, 20] (fun v i => ∃ k acc : Nat, k ≤ bs.length ∧ i = .int .i64 k ∧ v = .int .u64 acc ∧ Hid (acc < 2 ^ 64) ∧ k < cnt ∧ Hid (rawGo cnt bs 0 0 = rawGo cnt (bs.drop k) k acc)) (fun _ i => bs.length - (intOf i).toNat)
  case atStart => exact ⟨0, 0, Nat.zero_le _, rfl, rfl, by show (0:Nat) < 2^64; omega, by omega, rfl⟩
  case round =>
    obtain ⟨k, acc, hk, rfl, rfl, HA, hkc, HG⟩ := hrel
    by_cases hlt : k < bs.length
    · obtain ⟨ad, c, rfl, Hc, hc, c0, c1⟩ := H.out.byte hlt
      have hor := Lib.hid (or_step acc c.toNat k HA.out (by omega))
      by_cases hlast : k + 1 = cnt
      · subst hlast
        go_wp2_with (go_at_call 143; refine (count_any _ _ HC _ (by omega) (by omega)).mono ?_; rintro e w' ⟨rfl, rfl⟩)
        · refine bodyPost_ret (results_tmp4 rfl _ _ _) rfl ⟨?_, rfl⟩
          rw [HG.out, rawGo_bad Hc.out rfl (by assumption)]
          rfl
        · refine bodyPost_ret (results_tmp4 rfl _ _ _) rfl ⟨?_, rfl⟩
          rw [HG.out, rawGo_end Hc.out (by assumption)]
          exact tup4 (int_congr hor.out) rfl rfl rfl
      · have hlt2 : k + 1 < cnt := by omega
        clear hlast
        go_wp2_with (go_at_call 143; refine (count_any _ _ HC _ (by omega) (by omega)).mono ?_; rintro e w' ⟨rfl, rfl⟩)
        · refine bodyPost_ret (results_tmp4 rfl _ _ _) rfl ⟨?_, rfl⟩
          rw [HG.out, rawGo_end Hc.out (by assumption)]
          exact tup4 (int_congr hor.out) rfl rfl rfl
        · go_round
          case rel => exact ⟨k + 1, _, by omega, by go_num, int_congr hor.out, Nat.or_lt_two_pow HA.out (Nat.mod_lt _ (by omega)), hlt2, HG.out.trans (rawGo_on Hc.out hlt2 (by assumption))⟩
          case measure => simp [intOf]; omega
    · go_wp2
      refine bodyPost_ret (results_tmp4 rfl _ _ _) rfl ⟨?_, rfl⟩
      rw [HG.out, rawGo_nil (by omega)]
      rfl

set_option maxHeartbeats 400000 in
theorem raw_arg (A : Option Addr) (l cap : Nat) (bs : List UInt8) (n : Int) (w : World) (h0 : n < 1 ∨ 64 < n) :
    Calls Tryz.prog 175 #[.slice A l cap, .int .i64 n] w fun e w' => e = .returned (.tuple #[.int .u64 (rawL bs n).1, .int .i64 (rawL bs n).2.1, .int .u8 (rawL bs n).2.2.1, .int .i64 (rawL bs n).2.2.2]) ∧ w = w' := by
  have hR : rawL bs n = (0, 0, 0, 1) := by unfold rawL; rw [if_pos h0]
  rw [hR]
  clear hR
  rcases h0 with h0 | h0
  · go_enter Tryz.func175, Tryz.ntmps175
    go_wp2
    exact bodyPost_ret (results_tmp4 rfl _ _ _) rfl ⟨rfl, rfl⟩
  · by_cases h1 : n < 1
    · omega
    · go_enter Tryz.func175, Tryz.ntmps175
      go_wp2
      exact bodyPost_ret (results_tmp4 rfl _ _ _) rfl ⟨rfl, rfl⟩

theorem raw_eq (A : Option Addr) (cap : Nat) (bs : List UInt8) (n : Int) (w : World) (hr : Hid (Reads w w.heap.size 1 A bs.length (bs.map B))) (hl : bs.length ≤ 70000)
    (v size c e : Nat) (hR : Hid (rawL bs n = (v, size, c, e))) :
    Calls Tryz.prog 175 #[.slice A bs.length cap, .int .i64 n] w fun e' w' => e' = .returned (.tuple #[.int .u64 v, .int .i64 size, .int .u8 c, .int .i64 e]) ∧ w = w' := by
  by_cases h : n < 1 ∨ 64 < n
  · have := raw_arg A bs.length cap bs n w h
    rw [hR.out] at this
    exact this
  · have := raw_any A cap bs n w (by omega) (by omega) hr.out hl
    rw [hR.out] at this
    exact this

theorem and_u8_127 (c : Nat) (hc : c ≤ 127) : bits .and .u8 (c : Int) 127 = (c : Int) := by
  have := u8_and_nat c 127 (by omega) (by omega)
  rw [and127, Nat.mod_eq_of_lt (by omega)] at this
  exact this

set_option maxHeartbeats 400000 in
theorem beyond_any (c size : Nat) (n : Int) (x k : Nat) (hx : Hid (beyondL c size n.toNat = (x, k))) (w : World) (hc : c ≤ 127) (h0 : 1 ≤ n) (h1 : n ≤ 64) (h2 : 1 ≤ size) (h3 : size ≤ 10) (h4 : 7 * (size : Int) < n + 7) :
    Calls Tryz.prog 176 #[.int .u8 c, .int .i64 size, .int .i64 n] w fun e w' => e = .returned (.tuple #[.int .u8 x, .int .i64 k]) ∧ w = w' := by
  have hb := hide (and_u8_127 c hc)
  go_enter Tryz.func176, Tryz.ntmps176
  go_wp2
  · go_ret2
    have h := hx.out
    unfold beyondL at h
    rw [if_pos (by omega)] at h
    injection h with e1 e2
    subst e1 e2
    exact ⟨rfl, rfl⟩
  · go_ret2
    have h := hx.out
    unfold beyondL at h
    rw [if_neg (by omega)] at h
    injection h with e1 e2
    subst e1 e2
    refine ⟨tup2 (int_congr ?_) (int_congr (by omega)), rfl⟩
    rw [hb.out, Nat.mod_eq_of_lt (by omega)]
    rw [show (n - 7 * ((size : Int) - 1)).toNat = n.toNat + 7 - 7 * size from by omega]
    rw [Int.natCast_ediv, Int.natCast_pow]
    rfl

set_option maxHeartbeats 400000 in
theorem unsigned_any (A : Option Addr) (cap : Nat) (bs : List UInt8) (n : Int) (w : World) (hr : Hid (Reads w w.heap.size 1 A bs.length (bs.map B))) (hl : bs.length ≤ 70000)
    (v size e : Nat) (hR : Hid (unsignedL bs n = (v, size, e))) :
    Calls Tryz.prog 148 #[.slice A bs.length cap, .int .i64 n] w fun e' w' => e' = .returned (.tuple #[.int .u64 v, .int .i64 size, .int .i64 e]) ∧ w = w' := by
  rcases rawL_cases bs n with ⟨v', size', c, h, h0, h1, h2, h3, h4, h5, h6⟩ | ⟨e', h, he⟩
  · have hR' := hR.out
    unfold unsignedL at hR'
    rw [h] at hR'
    simp only [ne_eq, not_true_eq_false, if_false] at hR'
    have H := Lib.hid h; clear h h6
    obtain ⟨x, k, hx⟩ : ∃ x k, beyondL c size' n.toNat = (x, k) := ⟨_, _, rfl⟩
    rw [hx] at hR'
    have HX := Lib.hid hx; clear hx
    by_cases hx0 : x = 0
    · subst hx0
      rw [if_neg (by simp)] at hR'
      injection hR' with e1 e2
      injection e2 with e2 e3
      subst e1 e2 e3
      go_enter Tryz.func148, Tryz.ntmps148
      go_wp2_with fail
      refine (raw_eq A cap bs n w hr hl _ _ _ _ H).mono ?_; rintro e w' ⟨rfl, rfl⟩
      go_wp2_with fail
      refine (beyond_any c size' n 0 k HX w h4 h0 h1 h2 h5 h3).mono ?_; rintro e w' ⟨rfl, rfl⟩
      go_wp2_with fail
      go_ret3
      exact ⟨rfl, rfl⟩
    · rw [if_pos hx0] at hR'
      injection hR' with e1 e2
      injection e2 with e2 e3
      subst e1 e2 e3
      have hx1 : 0 < x := by omega
      clear hx0
      go_enter Tryz.func148, Tryz.ntmps148
      go_wp2_with fail
      refine (raw_eq A cap bs n w hr hl _ _ _ _ H).mono ?_; rintro e w' ⟨rfl, rfl⟩
      go_wp2_with fail
      refine (beyond_any c size' n x k HX w h4 h0 h1 h2 h5 h3).mono ?_; rintro e w' ⟨rfl, rfl⟩
      go_wp2_with fail
      go_ret3
      exact ⟨rfl, rfl⟩
  · have hR' := hR.out
    unfold unsignedL at hR'
    rw [h] at hR'
    have he1 : 0 < e' := by omega
    simp only [ne_eq, show ¬ e' = 0 from by omega, not_false_eq_true, if_true] at hR'
    injection hR' with e1 e2
    injection e2 with e2 e3
    subst e1 e2 e3
    have H := Lib.hid h; clear h he
    go_enter Tryz.func148, Tryz.ntmps148
    go_wp2_with fail
    refine (raw_eq A cap bs n w hr hl _ _ _ _ H).mono ?_; rintro e w' ⟨rfl, rfl⟩
    go_wp2_with fail
    go_ret3
    exact ⟨rfl, rfl⟩

end Go.Proofs.YtpanlhbdphobdaaGreatDoor
