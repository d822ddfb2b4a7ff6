import Derived.Test.YtcfmbdkhefdgdaaGreatRows
import Derived.RowKit
import Derived.Test.YtcfmbdkhefdgdaaGreatQAA
import Derived.Below
import Derived.Lib.BitFns
set_option linter.unusedVariables false
namespace Go.Proofs.YtcfmbdkhefdgdaaGreat
open Go.RowKit
def byD (n : Int) : List Value := [.int .u8 n]
def byOk (n : Int) : Prop := (Lit.int .u8 n).wf = true
abbrev RIA := Int × Int × Int × Int × Sl Int × Unit
def wdD (n : Int) : List Value := [.int .u64 n]
def wdOk (n : Int) : Prop := (Lit.int .u64 n).wf = true
def nmD (n : Int) : List Value := [.int .i64 n]
def nmOk (n : Int) : Prop := (Lit.int .i64 n).wf = true
def riaD (x : RIA) : List Value := [.int .i64 x.1] ++ ([.int .u64 x.2.1] ++ ([.int .u64 x.2.2.1] ++ ([.int .i64 x.2.2.2.1] ++ ([x.2.2.2.2.1.val] ++ []))))
def riaOk (w : World) (x : RIA) : Prop := (Lit.int .i64 x.1).wf = true ∧ (Lit.int .u64 x.2.1).wf = true ∧ (Lit.int .u64 x.2.2.1).wf = true ∧ (Lit.int .i64 x.2.2.2.1).wf = true ∧ x.2.2.2.2.1.Ok w wdD 1 8 wdOk ∧ True
abbrev SgA := Sl Int × Sl Int × Unit
def sgD (x : SgA) : List Value := [x.1.val] ++ ([x.2.1.val] ++ [])
def sgOk (w : World) (x : SgA) : Prop := x.1.Ok w byD 1 1 byOk ∧ x.2.1.Ok w byD 1 1 byOk ∧ True
abbrev ImA := ByteArray × ByteArray × Int × Unit
def imD (x : ImA) : List Value := [.string x.1] ++ ([.string x.2.1] ++ ([.int .i64 x.2.2.1] ++ []))
def imOk (x : ImA) : Prop := x.1.size ≤ 140737488351232 ∧ x.2.1.size ≤ 140737488351232 ∧ (Lit.int .i64 x.2.2.1).wf = true ∧ True
abbrev BdA := Sl Int × Sl RIA × Unit
def bdD (x : BdA) : List Value := [x.1.val] ++ ([x.2.1.val] ++ [])
def bdOk (w : World) (x : BdA) : Prop := x.1.Ok w byD 1 1 byOk ∧ x.2.1.Ok w riaD 5 56 (riaOk w) ∧ True
abbrev FnA := Int × BdA × Unit
def fnD (x : FnA) : List Value := [.int .i64 x.1] ++ (bdD x.2.1 ++ [])
def fnOk (w : World) (x : FnA) : Prop := (Lit.int .i64 x.1).wf = true ∧ bdOk w x.2.1 ∧ True
abbrev LmA := Int × Int × Bool × Unit
def lmD (x : LmA) : List Value := [.int .i64 x.1] ++ ([.int .i64 x.2.1] ++ ([.bool x.2.2.1] ++ []))
def lmOk (x : LmA) : Prop := (Lit.int .i64 x.1).wf = true ∧ (Lit.int .i64 x.2.1).wf = true ∧ True ∧ True
abbrev GlA := Int × Bool × Int × Unit
def glD (x : GlA) : List Value := [.int .u8 x.1] ++ ([.bool x.2.1] ++ ([.int .u64 x.2.2.1] ++ []))
def glOk (x : GlA) : Prop := (Lit.int .u8 x.1).wf = true ∧ True ∧ (Lit.int .u64 x.2.2.1).wf = true ∧ True
abbrev ExA := ByteArray × Int × Int × Unit
def exD (x : ExA) : List Value := [.string x.1] ++ ([.int .i64 x.2.1] ++ ([.int .i64 x.2.2.1] ++ []))
def exOk (x : ExA) : Prop := x.1.size ≤ 140737488351232 ∧ (Lit.int .i64 x.2.1).wf = true ∧ (Lit.int .i64 x.2.2.1).wf = true ∧ True
abbrev ElA := Int × Sl Int × Unit
def elD (x : ElA) : List Value := [.int .u64 x.1] ++ ([x.2.1.val] ++ [])
def elOk (w : World) (x : ElA) : Prop := (Lit.int .u64 x.1).wf = true ∧ x.2.1.Ok w nmD 1 8 nmOk ∧ True
abbrev DtA := Int × Int × Sl Int × Unit
def dtD (x : DtA) : List Value := [.int .i64 x.1] ++ ([.int .u64 x.2.1] ++ ([x.2.2.1.val] ++ []))
def dtOk (w : World) (x : DtA) : Prop := (Lit.int .i64 x.1).wf = true ∧ (Lit.int .u64 x.2.1).wf = true ∧ x.2.2.1.Ok w byD 1 1 byOk ∧ True
abbrev MoA := Sl SgA × Sl ImA × Sl FnA × Int × Sl LmA × Sl GlA × Sl ExA × Int × Sl ElA × Sl DtA × Unit
def moD (x : MoA) : List Value := [x.1.val] ++ ([x.2.1.val] ++ ([x.2.2.1.val] ++ ([.int .i64 x.2.2.2.1] ++ ([x.2.2.2.2.1.val] ++ ([x.2.2.2.2.2.1.val] ++ ([x.2.2.2.2.2.2.1.val] ++ ([.int .i64 x.2.2.2.2.2.2.2.1] ++ ([x.2.2.2.2.2.2.2.2.1.val] ++ ([x.2.2.2.2.2.2.2.2.2.1.val] ++ [])))))))))
def moOk (w : World) (x : MoA) : Prop := x.1.Ok w sgD 2 48 (sgOk w) ∧ x.2.1.Ok w imD 3 40 imOk ∧ x.2.2.1.Ok w fnD 3 56 (fnOk w) ∧ (Lit.int .i64 x.2.2.2.1).wf = true ∧ x.2.2.2.2.1.Ok w lmD 3 24 lmOk ∧ x.2.2.2.2.2.1.Ok w glD 3 16 glOk ∧ x.2.2.2.2.2.2.1.Ok w exD 3 32 exOk ∧ (Lit.int .i64 x.2.2.2.2.2.2.2.1).wf = true ∧ x.2.2.2.2.2.2.2.2.1.Ok w elD 2 32 (elOk w) ∧ x.2.2.2.2.2.2.2.2.2.1.Ok w dtD 3 40 (dtOk w) ∧ True
section
variable {H : Type} {enc : TypeId × Value → H} {w : World}
set_option maxRecDepth 100000
theorem strR_opens {P : Program} {e : TypeId} (he : P.underlying e = some .string) : Opens enc P w e (fun s : ByteArray => [.string s]) (fun s => s.size ≤ 140737488351232) := by
  intro spare held m cs y h hw
  obtain ⟨s, rfl, hy, hs⟩ := DataW.trod_string he h
  refine ⟨s, rfl, ?_⟩
  have := hw s.size (by rw [hy]; simp [DataW.weights])
  simpa [reachBytes] using this
theorem by_opens : Opens enc Tryz.prog w 44 (fun s : Sl Int => [s.val]) (Sl.Ok w byD 1 1 byOk) :=
  Opens.slice Tryz.underlying44 (by kernel_rfl) (by kernel_rfl) (by omega) (fun _ => rfl) (Opens.int Tryz.underlying5)
theorem sg_opens : Opens enc Tryz.prog w 22 (fun s : Sl SgA => [s.val]) (Sl.Ok w sgD 2 48 (sgOk w)) :=
  Opens.slice Tryz.underlying22 (by kernel_rfl) (by kernel_rfl) (by omega) (fun _ => rfl)
    (Opens.struct Tryz.underlying81 (by kernel_rfl) (OpensF.cons (k := 1) (dec := fun s : Sl Int => [s.val]) (ok := Sl.Ok w byD 1 1 byOk) rfl (by kernel_rfl) (by exact by_opens) (OpensF.cons (k := 1) (dec := fun s : Sl Int => [s.val]) (ok := Sl.Ok w byD 1 1 byOk) rfl (by kernel_rfl) (by exact by_opens) OpensF.nil)))
theorem im_opens : Opens enc Tryz.prog w 23 (fun s : Sl ImA => [s.val]) (Sl.Ok w imD 3 40 imOk) :=
  Opens.slice Tryz.underlying23 (by kernel_rfl) (by kernel_rfl) (by omega) (fun _ => rfl)
    (Opens.struct Tryz.underlying83 (by kernel_rfl) (OpensF.cons (k := 1) rfl (by kernel_rfl) (strR_opens Tryz.underlying9) (OpensF.cons (k := 1) rfl (by kernel_rfl) (strR_opens Tryz.underlying9) (OpensF.cons (k := 1) rfl (by kernel_rfl) (Opens.int Tryz.underlying3) OpensF.nil))))
theorem ria_opens : Opens enc Tryz.prog w 51 (fun s : Sl RIA => [s.val]) (Sl.Ok w riaD 5 56 (riaOk w)) :=
  Opens.slice Tryz.underlying51 (by kernel_rfl) (by kernel_rfl) (by omega) (fun _ => rfl)
    (Opens.struct Tryz.underlying59 (by kernel_rfl) (OpensF.cons (k := 1) rfl (by kernel_rfl) (Opens.int Tryz.underlying3) (OpensF.cons (k := 1) rfl (by kernel_rfl) (Opens.int Tryz.underlying56) (OpensF.cons (k := 1) rfl (by kernel_rfl) (Opens.int Tryz.underlying56)
      (OpensF.cons (k := 1) rfl (by kernel_rfl) (Opens.int Tryz.underlying3) (OpensF.cons (k := 1) rfl (by kernel_rfl) (Opens.slice (size := 1) (bytes := 8) Tryz.underlying57 (by kernel_rfl) (by kernel_rfl) (by omega) (fun _ => rfl) (Opens.int Tryz.underlying56)) OpensF.nil))))))
theorem bd_opens : Opens enc Tryz.prog w 53 bdD (bdOk w) :=
  Opens.struct Tryz.underlying53 (by kernel_rfl) (OpensF.cons (k := 1) (dec := fun s : Sl Int => [s.val]) (ok := Sl.Ok w byD 1 1 byOk) rfl (by kernel_rfl) (by exact by_opens) (OpensF.cons (k := 1) (dec := fun s : Sl RIA => [s.val]) (ok := Sl.Ok w riaD 5 56 (riaOk w)) rfl (by kernel_rfl) (by exact ria_opens) OpensF.nil))
theorem fn_opens : Opens enc Tryz.prog w 24 (fun s : Sl FnA => [s.val]) (Sl.Ok w fnD 3 56 (fnOk w)) :=
  Opens.slice Tryz.underlying24 (by kernel_rfl) (by kernel_rfl) (by omega) (fun _ => rfl)
    (Opens.struct Tryz.underlying55 (by kernel_rfl) (OpensF.cons (k := 1) rfl (by kernel_rfl) (Opens.int Tryz.underlying3) (OpensF.cons (k := 2) (dec := bdD) (ok := bdOk w) rfl (by kernel_rfl) (by exact bd_opens) OpensF.nil)))
theorem lm_opens : Opens enc Tryz.prog w 25 (fun s : Sl LmA => [s.val]) (Sl.Ok w lmD 3 24 lmOk) :=
  Opens.slice Tryz.underlying25 (by kernel_rfl) (by kernel_rfl) (by omega) (fun _ => rfl)
    (Opens.struct Tryz.underlying75 (by kernel_rfl) (OpensF.cons (k := 1) rfl (by kernel_rfl) (Opens.int Tryz.underlying3) (OpensF.cons (k := 1) rfl (by kernel_rfl) (Opens.int Tryz.underlying3) (OpensF.cons (k := 1) rfl (by kernel_rfl) (Opens.bool Tryz.underlying4) OpensF.nil))))
theorem gl_opens : Opens enc Tryz.prog w 26 (fun s : Sl GlA => [s.val]) (Sl.Ok w glD 3 16 glOk) :=
  Opens.slice Tryz.underlying26 (by kernel_rfl) (by kernel_rfl) (by omega) (fun _ => rfl)
    (Opens.struct Tryz.underlying94 (by kernel_rfl) (OpensF.cons (k := 1) rfl (by kernel_rfl) (Opens.int Tryz.underlying36) (OpensF.cons (k := 1) rfl (by kernel_rfl) (Opens.bool Tryz.underlying4) (OpensF.cons (k := 1) rfl (by kernel_rfl) (Opens.int Tryz.underlying56) OpensF.nil))))
theorem ex_opens : Opens enc Tryz.prog w 27 (fun s : Sl ExA => [s.val]) (Sl.Ok w exD 3 32 exOk) :=
  Opens.slice Tryz.underlying27 (by kernel_rfl) (by kernel_rfl) (by omega) (fun _ => rfl)
    (Opens.struct Tryz.underlying86 (by kernel_rfl) (OpensF.cons (k := 1) rfl (by kernel_rfl) (strR_opens Tryz.underlying9) (OpensF.cons (k := 1) rfl (by kernel_rfl) (Opens.int Tryz.underlying3) (OpensF.cons (k := 1) rfl (by kernel_rfl) (Opens.int Tryz.underlying3) OpensF.nil))))
theorem el_opens : Opens enc Tryz.prog w 28 (fun s : Sl ElA => [s.val]) (Sl.Ok w elD 2 32 (elOk w)) :=
  Opens.slice Tryz.underlying28 (by kernel_rfl) (by kernel_rfl) (by omega) (fun _ => rfl)
    (Opens.struct Tryz.underlying88 (by kernel_rfl) (OpensF.cons (k := 1) rfl (by kernel_rfl) (Opens.int Tryz.underlying56) (OpensF.cons (k := 1) rfl (by kernel_rfl) (Opens.slice (size := 1) (bytes := 8) Tryz.underlying66 (by kernel_rfl) (by kernel_rfl) (by omega) (fun _ => rfl) (Opens.int Tryz.underlying3)) OpensF.nil)))
theorem dt_opens : Opens enc Tryz.prog w 29 (fun s : Sl DtA => [s.val]) (Sl.Ok w dtD 3 40 (dtOk w)) :=
  Opens.slice Tryz.underlying29 (by kernel_rfl) (by kernel_rfl) (by omega) (fun _ => rfl)
    (Opens.struct Tryz.underlying90 (by kernel_rfl) (OpensF.cons (k := 1) rfl (by kernel_rfl) (Opens.int Tryz.underlying3) (OpensF.cons (k := 1) rfl (by kernel_rfl) (Opens.int Tryz.underlying56) (OpensF.cons (k := 1) (dec := fun s : Sl Int => [s.val]) (ok := Sl.Ok w byD 1 1 byOk) rfl (by kernel_rfl) (by exact by_opens) OpensF.nil))))
theorem mo_opens : Opens enc Tryz.prog w 31 moD (moOk w) :=
  Opens.struct Tryz.underlying31 (by kernel_rfl) (OpensF.cons (k := 1) (dec := fun s : Sl SgA => [s.val]) (ok := Sl.Ok w sgD 2 48 (sgOk w)) rfl (by kernel_rfl) (by exact sg_opens) (OpensF.cons (k := 1) (dec := fun s : Sl ImA => [s.val]) (ok := Sl.Ok w imD 3 40 imOk) rfl (by kernel_rfl) (by exact im_opens) (OpensF.cons (k := 1) (dec := fun s : Sl FnA => [s.val]) (ok := Sl.Ok w fnD 3 56 (fnOk w)) rfl (by kernel_rfl) (by exact fn_opens) (OpensF.cons (k := 1) rfl (by kernel_rfl) (Opens.int Tryz.underlying3)
    (OpensF.cons (k := 1) (dec := fun s : Sl LmA => [s.val]) (ok := Sl.Ok w lmD 3 24 lmOk) rfl (by kernel_rfl) (by exact lm_opens) (OpensF.cons (k := 1) (dec := fun s : Sl GlA => [s.val]) (ok := Sl.Ok w glD 3 16 glOk) rfl (by kernel_rfl) (by exact gl_opens) (OpensF.cons (k := 1) (dec := fun s : Sl ExA => [s.val]) (ok := Sl.Ok w exD 3 32 exOk) rfl (by kernel_rfl) (by exact ex_opens) (OpensF.cons (k := 1) rfl (by kernel_rfl) (Opens.int Tryz.underlying3) (OpensF.cons (k := 1) (dec := fun s : Sl ElA => [s.val]) (ok := Sl.Ok w elD 2 32 (elOk w)) rfl (by kernel_rfl) (by exact el_opens) (OpensF.cons (k := 1) (dec := fun s : Sl DtA => [s.val]) (ok := Sl.Ok w dtD 3 40 (dtOk w)) rfl (by kernel_rfl) (by exact dt_opens) OpensF.nil))))))))))
end
end Go.Proofs.YtcfmbdkhefdgdaaGreat
namespace Go.Proofs.YtcfmbdkhefdgdaaGreat
structure NS where
  spans : List (Int × Int × Int)
  opn : List Nat
  closed : Bool
  deep : Nat
def opensC (c : Int) : Prop := c = 2 ∨ c = 3 ∨ c = 4
instance (c : Int) : Decidable (opensC c) := by unfold opensC; infer_instance
def spanN (s : NS) (t : Nat) : Int × Int × Int := s.spans.getD t (0, 0, 0)
def codeN (cs : List Int) (i : Int) : Int := cs.getD i.toNat 0
def stepN (cs : List Int) (c : Int) (i : Nat) (s : NS) : Nat × NS :=
  if s.closed then (4, s)
  else if opensC c then
    if s.opn.length = 64 then (15, s)
    else (0, { spans := s.spans ++ [((i : Int), -1, -1)], opn := s.opn ++ [s.spans.length], closed := false, deep := max s.deep (s.opn.length + 1) })
  else if c = 5 then
    match s.opn.getLast? with
    | none => (4, s)
    | some t => if codeN cs (spanN s t).1 = 4 ∧ (spanN s t).2.1 = -1 then (0, { s with spans := s.spans.set t ((spanN s t).1, (i : Int), (spanN s t).2.2) }) else (4, s)
  else if c = 11 then
    match s.opn.getLast? with
    | none => (0, { s with closed := true })
    | some t => (0, { s with spans := s.spans.set t ((spanN s t).1, (spanN s t).2.1, (i : Int)), opn := s.opn.dropLast })
  else (0, s)
def initN : NS := ⟨[], [], false, 0⟩
def goN (cs : List Int) : List Int → Nat → NS → Nat × Nat × NS
  | [], i, s => if s.closed then (0, 0, s) else (i, 4, s)
  | c :: r, i, s => if (stepN cs c i s).1 ≠ 0 then (i, (stepN cs c i s).1, (stepN cs c i s).2) else goN cs r (i + 1) (stepN cs c i s).2
structure NInv (cs : List Int) (i : Nat) (s : NS) : Prop where
  cnt : s.spans.length = ((cs.take i).filter (fun c => decide (opensC c))).length
  beg : ∀ (j : Nat) x, s.spans[j]? = some x → 0 ≤ x.1 ∧ x.1 < i ∧ opensC (codeN cs x.1)
  inc : ∀ (k j : Nat) x y, k < j → s.spans[k]? = some x → s.spans[j]? = some y → x.1 < y.1
  els : ∀ (j : Nat) x, s.spans[j]? = some x → x.2.1 = -1 ∨ (x.1 < x.2.1 ∧ x.2.1 < i ∧ codeN cs x.2.1 = 5 ∧ codeN cs x.1 = 4 ∧ (j ∈ s.opn ∨ x.2.1 < x.2.2))
  olt : ∀ t ∈ s.opn, t < s.spans.length
  oinc : s.opn.Pairwise (· < ·)
  cls : ∀ (j : Nat) x, s.spans[j]? = some x → j ∉ s.opn → x.1 < x.2.2 ∧ x.2.2 < i ∧ codeN cs x.2.2 = 11
  nest : ∀ (k j : Nat) x y, k < j → s.spans[k]? = some x → s.spans[j]? = some y → k ∉ s.opn → x.2.2 < y.1 ∨ (j ∉ s.opn ∧ y.2.2 < x.2.2)
  clo : s.closed = true → s.opn = []
theorem NInv.init (cs : List Int) : NInv cs 0 initN := by
  constructor <;> simp [initN]
theorem getLast_mem {α : Type} {l : List α} {t : α} (h : l.getLast? = some t) : t ∈ l := List.mem_of_getLast? h
theorem last_max {l : List Nat} {t : Nat} (hp : l.Pairwise (· < ·)) (h : l.getLast? = some t) : ∀ x ∈ l, x ≤ t := by
  obtain ⟨r, rfl⟩ := List.getLast?_eq_some_iff.1 h
  intro x hx
  rw [List.pairwise_append] at hp
  rcases List.mem_append.1 hx with h1 | h1
  · exact Nat.le_of_lt (hp.2.2 x h1 t (by simp))
  · simp at h1; omega
theorem drop_last {l : List Nat} {t : Nat} (hp : l.Pairwise (· < ·)) (h : l.getLast? = some t) : ∀ x, x ∈ l.dropLast ↔ x ∈ l ∧ x ≠ t := by
  obtain ⟨r, rfl⟩ := List.getLast?_eq_some_iff.1 h
  intro x
  rw [List.pairwise_append] at hp
  simp only [List.dropLast_concat, List.mem_append, List.mem_singleton]
  constructor
  · intro hx
    exact ⟨.inl hx, fun e => by subst e; have := hp.2.2 x hx x (by simp); omega⟩
  · rintro ⟨h1 | h1, h2⟩
    · exact h1
    · exact absurd h1 h2
theorem NInv.step {cs : List Int} {i : Nat} {s : NS} {c : Int} (h : NInv cs i s) (hc : cs[i]? = some c) (he : (stepN cs c i s).1 = 0) : NInv cs (i + 1) (stepN cs c i s).2 := by
  have hcode : codeN cs (i : Int) = c := by
    unfold codeN
    rw [Int.toNat_natCast, List.getD_eq_getElem?_getD, hc]
    rfl
  obtain ⟨hil, hcv⟩ := List.getElem?_eq_some_iff.1 hc
  have htake : ((cs.take (i + 1)).filter (fun c => decide (opensC c))).length = ((cs.take i).filter (fun c => decide (opensC c))).length + (if opensC c then 1 else 0) := by
    rw [List.take_succ_eq_append_getElem hil, hcv, List.filter_append, List.length_append]
    by_cases ho : opensC c <;> simp [ho]
  by_cases hcl : s.closed = true
  · unfold stepN at he; rw [if_pos hcl] at he; cases he
  · by_cases ho : opensC c
    · by_cases h64 : s.opn.length = 64
      · unfold stepN at he; rw [if_neg hcl, if_pos ho, if_pos h64] at he; cases he
      · have e : (stepN cs c i s).2 = { spans := s.spans ++ [((i : Int), -1, -1)], opn := s.opn ++ [s.spans.length], closed := false, deep := max s.deep (s.opn.length + 1) } := by
          unfold stepN; rw [if_neg hcl, if_pos ho, if_neg h64]
        rw [e]
        have hsp : ∀ (j : Nat) x, (s.spans ++ [((i : Int), -1, -1)])[j]? = some x → (j < s.spans.length ∧ s.spans[j]? = some x) ∨ (j = s.spans.length ∧ x = ((i : Int), -1, -1)) := by
          intro j x hx
          by_cases hj : j < s.spans.length
          · rw [List.getElem?_append_left hj] at hx; exact .inl ⟨hj, hx⟩
          · rw [List.getElem?_append_right (by omega)] at hx
            have := (List.getElem?_eq_some_iff.1 hx).1
            simp at this
            rw [show j - s.spans.length = 0 from by omega] at hx
            exact .inr ⟨by omega, by simpa using hx.symm⟩
        refine ⟨?_, ?_, ?_, ?_, ?_, ?_, ?_, ?_, ?_⟩
        · rw [htake, if_pos ho, ← h.cnt]; simp
        · intro j x hx
          rcases hsp j x hx with ⟨_, hx⟩ | ⟨_, rfl⟩
          · obtain ⟨a, b, d⟩ := h.beg j x hx
            exact ⟨a, by omega, d⟩
          · exact ⟨by simp, by simp; omega, by show opensC (codeN cs (i : Int)); rw [hcode]; exact ho⟩
        · intro k j x y hkj hx hy
          rcases hsp k x hx with ⟨hk, hx⟩ | ⟨hk, rfl⟩
          · rcases hsp j y hy with ⟨_, hy⟩ | ⟨_, rfl⟩
            · exact h.inc k j x y hkj hx hy
            · exact (h.beg k x hx).2.1
          · rcases hsp j y hy with ⟨hj, hy⟩ | ⟨hj, rfl⟩ <;> omega
        · intro j x hx
          rcases hsp j x hx with ⟨_, hx⟩ | ⟨_, rfl⟩
          · rcases h.els j x hx with a | ⟨a, b, d, e, f⟩
            · exact .inl a
            · exact .inr ⟨a, by omega, d, e, f.elim (fun g => .inl (List.mem_append_left _ g)) .inr⟩
          · exact .inl rfl
        · intro t ht
          simp only [List.length_append, List.length_cons, List.length_nil]
          rcases List.mem_append.1 ht with h1 | h1
          · have := h.olt t h1; omega
          · simp at h1; omega
        · rw [List.pairwise_append]
          refine ⟨h.oinc, by simp, fun a ha b hb => ?_⟩
          simp at hb
          subst hb
          exact h.olt a ha
        · intro j x hx hj
          rcases hsp j x hx with ⟨_, hx⟩ | ⟨hj', rfl⟩
          · obtain ⟨a, b, d⟩ := h.cls j x hx (fun g => hj (List.mem_append_left _ g))
            exact ⟨a, by omega, d⟩
          · exact absurd (List.mem_append_right s.opn (by simp [hj'])) hj
        · intro k j x y hkj hx hy hk
          rcases hsp k x hx with ⟨hk', hx⟩ | ⟨hk', rfl⟩
          · have hk2 : k ∉ s.opn := fun g => hk (List.mem_append_left _ g)
            rcases hsp j y hy with ⟨hj', hy⟩ | ⟨_, rfl⟩
            · rcases h.nest k j x y hkj hx hy hk2 with a | ⟨a, b⟩
              · exact .inl a
              · refine .inr ⟨fun g => ?_, b⟩
                rcases List.mem_append.1 g with g | g
                · exact a g
                · simp at g; omega
            · exact .inl (h.cls k x hx hk2).2.1
          · rcases hsp j y hy with ⟨hj, hy⟩ | ⟨hj, rfl⟩ <;> omega
        · intro g; cases g
    · have htk : ((cs.take (i + 1)).filter (fun c => decide (opensC c))).length = ((cs.take i).filter (fun c => decide (opensC c))).length := by rw [htake, if_neg ho]; rfl
      by_cases h5 : c = 5
      · cases hl : s.opn.getLast? with
        | none => unfold stepN at he; rw [if_neg hcl, if_neg ho, if_pos h5, hl] at he; cases he
        | some t =>
          by_cases hq : codeN cs (spanN s t).1 = 4 ∧ (spanN s t).2.1 = -1
          · have e : (stepN cs c i s).2 = { s with spans := s.spans.set t ((spanN s t).1, (i : Int), (spanN s t).2.2) } := by
              unfold stepN; rw [if_neg hcl, if_neg ho, if_pos h5, hl]; simp only; rw [if_pos hq]
            rw [e]
            have htm := getLast_mem hl
            have htl := h.olt t htm
            have hst : s.spans[t]? = some (spanN s t) := by unfold spanN; rw [List.getD_eq_getElem?_getD, List.getElem?_eq_getElem htl]; rfl
            have hsp : ∀ (j : Nat) x, (s.spans.set t ((spanN s t).1, (i : Int), (spanN s t).2.2))[j]? = some x → (j ≠ t ∧ s.spans[j]? = some x) ∨ (j = t ∧ x = ((spanN s t).1, (i : Int), (spanN s t).2.2)) := by
              intro j x hx
              by_cases hj : j = t
              · subst hj
                rw [List.getElem?_set_self htl] at hx
                exact .inr ⟨rfl, by simpa using hx.symm⟩
              · rw [List.getElem?_set_ne (fun e => hj e.symm)] at hx
                exact .inl ⟨hj, hx⟩
            have hin : ∀ (j : Nat) x, (s.spans.set t ((spanN s t).1, (i : Int), (spanN s t).2.2))[j]? = some x → ∃ y, s.spans[j]? = some y ∧ x.1 = y.1 ∧ x.2.2 = y.2.2 := by
              intro j x hx
              rcases hsp j x hx with ⟨_, hx⟩ | ⟨rfl, rfl⟩
              · exact ⟨x, hx, rfl, rfl⟩
              · exact ⟨_, hst, rfl, rfl⟩
            refine ⟨by rw [htk, ← h.cnt]; simp, ?_, ?_, ?_, by simpa using h.olt, h.oinc, ?_, ?_, h.clo⟩
            · intro j x hx
              obtain ⟨y, hy, e1, _⟩ := hin j x hx
              obtain ⟨a, b, d⟩ := h.beg j y hy
              rw [e1]
              exact ⟨a, by omega, d⟩
            · intro k j x y hkj hx hy
              obtain ⟨x', hx', e1, _⟩ := hin k x hx
              obtain ⟨y', hy', e2, _⟩ := hin j y hy
              rw [e1, e2]
              exact h.inc k j x' y' hkj hx' hy'
            · intro j x hx
              rcases hsp j x hx with ⟨_, hx⟩ | ⟨rfl, rfl⟩
              · rcases h.els j x hx with a | ⟨a, b, d, e, f⟩
                · exact .inl a
                · exact .inr ⟨a, by omega, d, e, f⟩
              · exact .inr ⟨(h.beg _ _ hst).2.1, by simp; omega, by show codeN cs (i : Int) = 5; rw [hcode]; exact h5, hq.1, .inl htm⟩
            · intro j x hx hj
              obtain ⟨y, hy, e1, e2⟩ := hin j x hx
              obtain ⟨a, b, d⟩ := h.cls j y hy hj
              rw [e1, e2]
              exact ⟨a, by omega, d⟩
            · intro k j x y hkj hx hy hk
              obtain ⟨x', hx', e1, e3⟩ := hin k x hx
              obtain ⟨y', hy', e2, e4⟩ := hin j y hy
              rw [e2, e3, e4]
              exact h.nest k j x' y' hkj hx' hy' hk
          · unfold stepN at he; rw [if_neg hcl, if_neg ho, if_pos h5, hl] at he; simp only at he; rw [if_neg hq] at he; cases he
      · by_cases h11 : c = 11
        · cases hl : s.opn.getLast? with
          | none =>
            have e : (stepN cs c i s).2 = { s with closed := true } := by unfold stepN; rw [if_neg hcl, if_neg ho, if_neg h5, if_pos h11, hl]
            rw [e]
            have hnil : s.opn = [] := List.getLast?_eq_none_iff.1 hl
            refine ⟨by rw [htk, ← h.cnt], fun j x hx => ?_, h.inc, fun j x hx => ?_, h.olt, h.oinc, fun j x hx hj => ?_, h.nest, fun _ => hnil⟩
            · obtain ⟨a, b, d⟩ := h.beg j x hx
              exact ⟨a, by omega, d⟩
            · rcases h.els j x hx with a | ⟨a, b, d, e, f⟩
              · exact .inl a
              · exact .inr ⟨a, by omega, d, e, f⟩
            · obtain ⟨a, b, d⟩ := h.cls j x hx hj
              exact ⟨a, by omega, d⟩
          | some t =>
            have e : (stepN cs c i s).2 = { s with spans := s.spans.set t ((spanN s t).1, (spanN s t).2.1, (i : Int)), opn := s.opn.dropLast } := by
              unfold stepN; rw [if_neg hcl, if_neg ho, if_neg h5, if_pos h11, hl]
            rw [e]
            have htm := getLast_mem hl
            have htl := h.olt t htm
            have hst : s.spans[t]? = some (spanN s t) := by unfold spanN; rw [List.getD_eq_getElem?_getD, List.getElem?_eq_getElem htl]; rfl
            have hmax := last_max h.oinc hl
            have hdl := drop_last h.oinc hl
            have hsp : ∀ (j : Nat) x, (s.spans.set t ((spanN s t).1, (spanN s t).2.1, (i : Int)))[j]? = some x → (j ≠ t ∧ s.spans[j]? = some x) ∨ (j = t ∧ x = ((spanN s t).1, (spanN s t).2.1, (i : Int))) := by
              intro j x hx
              by_cases hj : j = t
              · subst hj
                rw [List.getElem?_set_self htl] at hx
                exact .inr ⟨rfl, by simpa using hx.symm⟩
              · rw [List.getElem?_set_ne (fun e => hj e.symm)] at hx
                exact .inl ⟨hj, hx⟩
            have hin : ∀ (j : Nat) x, (s.spans.set t ((spanN s t).1, (spanN s t).2.1, (i : Int)))[j]? = some x → ∃ y, s.spans[j]? = some y ∧ x.1 = y.1 ∧ x.2.1 = y.2.1 := by
              intro j x hx
              rcases hsp j x hx with ⟨_, hx⟩ | ⟨rfl, rfl⟩
              · exact ⟨x, hx, rfl, rfl⟩
              · exact ⟨_, hst, rfl, rfl⟩
            refine ⟨by rw [htk, ← h.cnt]; simp, ?_, ?_, ?_, ?_, ?_, ?_, ?_, fun g => ?_⟩
            · intro j x hx
              obtain ⟨y, hy, e1, _⟩ := hin j x hx
              obtain ⟨a, b, d⟩ := h.beg j y hy
              rw [e1]
              exact ⟨a, by omega, d⟩
            · intro k j x y hkj hx hy
              obtain ⟨x', hx', e1, _⟩ := hin k x hx
              obtain ⟨y', hy', e2, _⟩ := hin j y hy
              rw [e1, e2]
              exact h.inc k j x' y' hkj hx' hy'
            · intro j x hx
              rcases hsp j x hx with ⟨hjt, hx⟩ | ⟨rfl, rfl⟩
              · rcases h.els j x hx with a | ⟨a, b, d, e, f⟩
                · exact .inl a
                · refine .inr ⟨a, by omega, d, e, f.elim (fun g => .inl ((hdl j).2 ⟨g, hjt⟩)) .inr⟩
              · rcases h.els _ _ hst with a | ⟨a, b, d, e, f⟩
                · exact .inl a
                · exact .inr ⟨a, by simp only; omega, d, e, .inr b⟩
            · intro u hu
              rw [List.length_set]
              exact h.olt u ((hdl u).1 hu).1
            · exact List.Pairwise.sublist (List.dropLast_sublist _) h.oinc
            · intro j x hx hj
              rcases hsp j x hx with ⟨hjt, hx⟩ | ⟨rfl, rfl⟩
              · obtain ⟨a, b, d⟩ := h.cls j x hx (fun g => hj ((hdl j).2 ⟨g, hjt⟩))
                exact ⟨a, by omega, d⟩
              · exact ⟨(h.beg _ _ hst).2.1, by simp; omega, by show codeN cs (i : Int) = 11; rw [hcode]; exact h11⟩
            · intro k j x y hkj hx hy hk
              rcases hsp k x hx with ⟨hkt, hx1⟩ | ⟨rfl, rfl⟩
              · have hk2 : k ∉ s.opn := fun g => hk ((hdl k).2 ⟨g, hkt⟩)
                rcases hsp j y hy with ⟨hjt, hy⟩ | ⟨rfl, rfl⟩
                · rcases h.nest k j x y hkj hx1 hy hk2 with a | ⟨a, b⟩
                  · exact .inl a
                  · exact .inr ⟨fun g => a ((hdl j).1 g).1, b⟩
                · rcases h.nest k _ x _ hkj hx1 hst hk2 with a | ⟨a, b⟩
                  · exact .inl a
                  · exact absurd htm a
              · rcases hsp j y hy with ⟨hjt, hy⟩ | ⟨rfl, rfl⟩
                · have hjo : j ∉ s.opn := fun g => by have := hmax j g; omega
                  exact .inr ⟨fun g => hjo ((hdl j).1 g).1, (h.cls j y hy hjo).2.1⟩
                · omega
            · have := h.clo g
              rw [this] at hl
              cases hl
        · have e : (stepN cs c i s).2 = s := by unfold stepN; rw [if_neg hcl, if_neg ho, if_neg h5, if_neg h11]
          rw [e]
          refine ⟨by rw [htk, ← h.cnt], fun j x hx => ?_, h.inc, fun j x hx => ?_, h.olt, h.oinc, fun j x hx hj => ?_, h.nest, h.clo⟩
          · obtain ⟨a, b, d⟩ := h.beg j x hx
            exact ⟨a, by omega, d⟩
          · rcases h.els j x hx with a | ⟨a, b, d, e, f⟩
            · exact .inl a
            · exact .inr ⟨a, by omega, d, e, f⟩
          · obtain ⟨a, b, d⟩ := h.cls j x hx hj
            exact ⟨a, by omega, d⟩
end Go.Proofs.YtcfmbdkhefdgdaaGreat
namespace Go.Proofs.YtcfmbdkhefdgdaaGreat
def goP (cs : List Int) (i : Nat) (s : NS) : Nat × Nat := ((goN cs (cs.drop i) i s).1, (goN cs (cs.drop i) i s).2.1)
structure Kept (s s' : NS) : Prop where
  opn : s'.opn = s.opn
  closed : s'.closed = false
  len : s.spans.length ≤ s'.spans.length
  sp : ∀ t, t < s.spans.length → spanN s' t = spanN s t
theorem Kept.refl {s : NS} (h : s.closed = false) : Kept s s := ⟨rfl, h, Nat.le_refl _, fun _ _ => rfl⟩
theorem Kept.trans {a b c : NS} (h : Kept a b) (k : Kept b c) : Kept a c := ⟨k.opn.trans h.opn, k.closed, Nat.le_trans h.len k.len, fun t ht => (k.sp t (Nat.lt_of_lt_of_le ht h.len)).trans (h.sp t ht)⟩
end Go.Proofs.YtcfmbdkhefdgdaaGreat
namespace Go.Proofs.YtcfmbdkhefdgdaaGreat
def cntN (n : Nat) : Nat := (n + 6) / 7
theorem and127 (x : Nat) : x &&& 127 = x % 128 := Nat.and_two_pow_sub_one_eq_mod x 7
def putF : Nat → Nat → List UInt8
  | 0, n => [UInt8.ofNat n]
  | k + 1, n => if n < 128 then [UInt8.ofNat n] else UInt8.ofNat (n % 128 + 128) :: putF k (n / 128)
def putN (n : Nat) : List UInt8 := putF 9 n
theorem putF_more : ∀ (k n : Nat), n < 128 ^ (k + 1) → putF (k + 1) n = putF k n := by
  intro k
  induction k with
  | zero => intro n h; simp only [putF]; rw [if_pos (by simpa using h)]
  | succ k ih =>
    intro n h
    by_cases h1 : n < 128
    · rw [putF, if_pos h1, putF, if_pos h1]
    · rw [putF, if_neg h1, ih (n / 128) (by rw [Nat.div_lt_iff_lt_mul (by omega)]; rw [Nat.pow_succ] at h; exact h)]
      rw [putF, if_neg h1]
theorem putN_small (n : Nat) (h : n < 128) : putN n = [UInt8.ofNat n] := by
  unfold putN; rw [putF, if_pos h]
theorem putN_step (n : Nat) (h : 128 ≤ n) (h2 : n < 2 ^ 64) : putN n = UInt8.ofNat (n % 128 + 128) :: putN (n / 128) := by
  unfold putN
  rw [putF, if_neg (by omega), putF_more 8]
  omega
theorem putF_length : ∀ (k n : Nat), 1 ≤ (putF k n).length ∧ (putF k n).length ≤ k + 1 := by
  intro k
  induction k with
  | zero => intro n; simp [putF]
  | succ k ih =>
    intro n
    rw [putF]
    split
    · simp
    · have := ih (n / 128); simp; omega
def magN (n : Int) : Nat := if n < 0 then (-n - 1).toNat else n.toNat
def sizeS (n : Int) : Nat := (Lib.bitLen (magN n) + 7) / 7
def putS : Nat → Int → List UInt8
  | 0, n => [UInt8.ofNat (n % 128).toNat]
  | k + 1, n => UInt8.ofNat ((n % 128).toNat + 128) :: putS k (n / 128)
def putSN (n : Int) : List UInt8 := putS (sizeS n - 1) n
theorem putS_length : ∀ (k : Nat) (n : Int), (putS k n).length = k + 1 := by
  intro k
  induction k with
  | zero => intro n; rfl
  | succ k ih => intro n; rw [putS, List.length_cons, ih]
theorem magN_lt (n : Int) (h1 : -9223372036854775808 ≤ n) (h2 : n ≤ 9223372036854775807) : magN n < 2 ^ 63 := by
  unfold magN; simp only [Nat.reducePow]; split <;> omega
theorem sizeS_bd (n : Int) (h1 : -9223372036854775808 ≤ n) (h2 : n ≤ 9223372036854775807) : 1 ≤ sizeS n ∧ sizeS n ≤ 10 := by
  have := Lib.bitLen_le (magN n) 63 (by omega) (magN_lt n h1 h2)
  unfold sizeS; omega
theorem putN_length (n : Nat) : 1 ≤ (putN n).length ∧ (putN n).length ≤ 10 := putF_length 9 n
end Go.Proofs.YtcfmbdkhefdgdaaGreat
