/-
  code: the blocks that are open, as they lie in memory; each function's contract.
  code: opens, other, end, step: contracts.
  code: step, walk, Spans: contracts.
  code: walk, Spans: contracts.
  code's laws: Great, To, List, the example: contracts.
-/
import Derived.Test.YtpanlhbdphobdaaGreatDoorDeAE
import Derived.Test.YtpanlhbdphobdaaGreatDoorRows
import Derived.Test.YtpanlhbdphobdaaGreatDoorDeAD
import Derived.Test.YtpanlhbdphobdaaGreatDoorFaBJ
import Derived.Test.YtpanlhbdphobdaaGreatDoorDeAA
import Derived.Maps.RangeWalk
import Derived.Deep.QuietTactic
import Derived.Deep.RegionHeld3
import Derived.Deep.RegionLaw
import Derived.Deep.AppendLies
import Derived.Deep.DeepCutAuto
import Derived.BigQuiet
import Derived.IntWalk
import Derived.Outline
import Derived.Test.YtpanlhbdphobdaaGreatDoorDeAH
import Derived.Test.YtpanlhbdphobdaaGreatDoorDeAI
namespace Go.Proofs.YtpanlhbdphobdaaGreatDoor
open Go.RowKit
set_option linter.unusedVariables false


def spanD (x : Int × Int × Int) : List Value := [.int .i64 x.1, .int .i64 x.2.1, .int .i64 x.2.2]
def placeD (x : Nat) : List Value := [.int .i64 (x : Int)]

/-- what a step on the blocks may have written -/
structure NW (w w' : World) (nb : Nat) (vs vo vs' vo' : Value) : Prop where
  only : Only (nb :: (vs.ownBlock.toList ++ vo.ownBlock.toList)) w w'
  ls : Lies w vs vs'
  lo : Lies w vo vo'

theorem NW.trans {w w1 w2 : World} {nb : Nat} {vs vo vs1 vo1 vs2 vo2 : Value} (h : NW w w1 nb vs vo vs1 vo1) (k : NW w1 w2 nb vs1 vo1 vs2 vo2) : NW w w2 nb vs vo vs2 vo2 := by
  refine ⟨?_, h.ls.trans k.ls h.only.size, h.lo.trans k.lo h.only.size⟩
  refine ⟨k.only.os.trans h.only.os, k.only.tape.trans h.only.tape, k.only.output.trans h.only.output, Nat.le_trans h.only.size k.only.size, fun i hi hn => ?_⟩
  refine (k.only.block i (Nat.lt_of_lt_of_le hi h.only.size) fun hx => hn ?_).trans (h.only.block i hi hn)
  simp only [List.mem_cons, List.mem_append, Option.mem_toList] at hx ⊢
  rcases hx with hx | hx | hx
  · exact .inl hx
  · rcases h.ls with e | ⟨g, e, hg⟩
    · exact .inr (.inl (e ▸ hx))
    · rw [e] at hx; injection hx with hx; omega
  · rcases h.lo with e | ⟨g, e, hg⟩
    · exact .inr (.inr (e ▸ hx))
    · rw [e] at hx; injection hx with hx; omega
/-- one cell of the nest's own block is written -/
theorem NW.cell {w : World} (nb i : Nat) (u vs vo : Value) : NW w (w.setCell ⟨nb, i, none⟩ u) nb vs vo vs vo :=
  ⟨Only.setCell w (p := ⟨nb, i, none⟩) (by simp) u, Lies.refl _ _, Lies.refl _ _⟩

end Go.Proofs.YtpanlhbdphobdaaGreatDoor

namespace Go.Proofs.YtpanlhbdphobdaaGreatDoor
open Go.RowKit
set_option linter.unusedVariables false

theorem own_setCell {w : World} {base : Nat} {e : TypeId} {size n : Nat} {v : Value} {xs : List Value} {g : Nat} (h : w.ownsRow base e size v n xs) (hg : v.ownBlock = some g) (k : Nat) (hk : k < n * size) (u : Value) : (w.setCell ⟨g, k, none⟩ u).ownsRow base e size v n (xs.set k u) := by
  refine ⟨by rw [List.length_set]; exact h.1, ?_⟩
  rcases h.2 with ⟨rfl, _⟩ | ⟨g', cap, cur, rfl, hbg, hh, h1, h2, h3, h4⟩
  · cases hg
  · have : g' = g := by injection hg
    subst this
    refine .inr ⟨g', cap, cur.setIfInBounds k u, rfl, hbg, setCell_blk hh k u, h1, h2, by simpa using h3, ?_⟩
    rw [← h4, Array.toList_setIfInBounds, List.take_set]
theorem flatMap_set {α : Type} {dec : α → List Value} {size : Nat} (hd : ∀ a, (dec a).length = size) : ∀ (ys : List α) (t j : Nat) (a b : α) (u : Value), ys[t]? = some a → j < size → dec b = (dec a).set j u → (ys.flatMap dec).set (t * size + j) u = (ys.set t b).flatMap dec := by
  intro ys
  induction ys with
  | nil => intro t j a b u h; simp at h
  | cons c r ih =>
    intro t j a b u h hj hu
    rw [List.flatMap_cons]
    cases t with
    | zero =>
      have : c = a := by simpa using h
      subst this
      rw [Nat.zero_mul, Nat.zero_add, List.set_append_left _ _ (by rw [hd]; exact hj), List.set_cons_zero, List.flatMap_cons, hu]
    | succ t =>
      rw [List.set_append_right _ _ (by rw [hd, Nat.succ_mul]; omega), hd, List.set_cons_succ, List.flatMap_cons, show (t + 1) * size + j - size = t * size + j from by rw [Nat.succ_mul]; omega, ih t j a b u (by simpa using h) hj hu]
theorem own_short {w : World} {base : Nat} {e : TypeId} {size n c : Nat} {A : Option Addr} {xs : List Value} (h : w.ownsRow base e size (.slice A (n + 1) c) (n + 1) xs) : w.ownsRow base e size (.slice A n c) n (xs.take (n * size)) := by
  refine ⟨by rw [List.length_take, h.1, Nat.succ_mul]; omega, ?_⟩
  rcases h.2 with ⟨h1, _⟩ | ⟨g', cap, cur, h0, hbg, hh, h1, h2, h3, h4⟩
  · injection h1 with _ h1; omega
  · injection h0 with h0 h5 h6
    subst h0
    subst h6
    refine .inr ⟨g', c, cur, rfl, hbg, hh, by omega, h2, h3, ?_⟩
    rw [← h4, List.take_take, Nat.min_eq_left (by rw [Nat.succ_mul]; omega)]

/-- an instruction as it lies -/
def insD (x : Int × Int × Int × Int × Value) : List Value := [.int .i64 x.1, .int .u64 x.2.1, .int .u64 x.2.2.1, .int .i64 x.2.2.2.1, x.2.2.2.2]
/-- the instructions: their codes are 'cs' -/
structure IL (w : World) (Al : Option Addr) (n : Nat) (xs : List (Int × Int × Int × Int × Value)) (cs : List Int) : Prop where
  reads : Reads w w.heap.size 5 Al n (xs.flatMap insD)
  len : xs.length = n
  codes : xs.map (·.1) = cs
  bd : ∀ c ∈ cs, -9223372036854775808 ≤ c ∧ c ≤ 9223372036854775807
  one : ∀ x ∈ xs, x.2.2.2.2.oneCell' = true

theorem IL.code {w : World} {Al : Option Addr} {n : Nat} {xs : List (Int × Int × Int × Int × Value)} {cs : List Int} (h : IL w Al n xs cs) {i : Nat} (hi : i < n) :
    ∃ (ad : Addr) (c a b al : Int) (v : Value), Al = some ad ∧ cs[i]? = some c ∧ v.oneCell' = true ∧ w.cell? (ad.add (i * 5)) = some (.int .i64 c) ∧ w.cell? ⟨(ad.add (i * 5)).block, (ad.add (i * 5)).off + 1, none⟩ = some (.int .u64 a) ∧
      w.cell? ⟨(ad.add (i * 5)).block, (ad.add (i * 5)).off + 2, none⟩ = some (.int .u64 b) ∧ w.cell? ⟨(ad.add (i * 5)).block, (ad.add (i * 5)).off + 3, none⟩ = some (.int .i64 al) ∧ w.cell? ⟨(ad.add (i * 5)).block, (ad.add (i * 5)).off + 4, none⟩ = some v ∧
      -9223372036854775808 ≤ c ∧ c ≤ 9223372036854775807 := by
  obtain ⟨ad, h1, _, h2⟩ := h.reads.2 (by omega)
  have hi' : i < xs.length := by rw [h.len]; exact hi
  have hg := List.getElem?_eq_getElem hi'
  have hc : cs[i]? = some (xs[i]).1 := by rw [← h.codes, List.getElem?_map, hg]; rfl
  have hk : ∀ j, j < 5 → ∀ u, (insD xs[i])[j]? = some u → w.cell? ((ad.add (i * 5)).add j) = some u := by
    intro j hj u hu
    rw [add_of_add]
    exact h2 _ _ (by rw [flatMap_get (dec := insD) (size := 5) (fun _ => rfl) xs i j _ hg hj]; exact hu)
  have hb := h.bd _ (List.mem_of_getElem? hc)
  refine ⟨ad, _, (xs[i]).2.1, (xs[i]).2.2.1, (xs[i]).2.2.2.1, (xs[i]).2.2.2.2, h1, hc, h.one _ (List.getElem_mem hi'), ?_, hk 1 (by omega) _ rfl, hk 2 (by omega) _ rfl, hk 3 (by omega) _ rfl, hk 4 (by omega) _ rfl, hb.1, hb.2⟩
  have := hk 0 (by omega) _ rfl
  rwa [show (ad.add (i * 5)).add 0 = ad.add (i * 5) from by simp [Addr.add]] at this

theorem NW.quiet {w w' : World} {nb : Nat} {vs vo : Value} (ho : Only [] w w') : NW w w' nb vs vo vs vo := ⟨ho.more (by simp), Lies.refl _ _, Lies.refl _ _⟩
theorem IL.keep {w w' : World} {Al : Option Addr} {n : Nat} {xs : List (Int × Int × Int × Int × Value)} {cs : List Int} (h : IL w Al n xs cs) (ho : Only [] w w') : IL w' Al n xs cs :=
  ⟨(h.reads.below (ho.below (Nat.le_refl _) (by simp))).more ho.size, h.len, h.codes, h.bd, h.one⟩

end Go.Proofs.YtpanlhbdphobdaaGreatDoor

namespace Go.Proofs.YtpanlhbdphobdaaGreatDoor
open Go.RowKit
set_option linter.unusedVariables false

/-- how great the blocks are -/
structure NSz (i : Nat) (s : NS) : Prop where
  o : s.opn.length ≤ 64
  d : s.deep ≤ 64
  sp : s.spans.length ≤ i
theorem NSz.step {cs : List Int} {c : Int} {i : Nat} {s : NS} (h : NSz i s) : NSz (i + 1) (stepN cs c i s).2 := by
  obtain ⟨h1, h2, h3⟩ := h
  unfold stepN
  split
  · exact ⟨h1, h2, by simp only; omega⟩
  · split
    · split
      · exact ⟨h1, h2, by simp only; omega⟩
      · exact ⟨by simp; omega, by simp only; omega, by simp; omega⟩
    · split
      · split
        · exact ⟨h1, h2, by simp only; omega⟩
        · split
          · exact ⟨h1, h2, by simp; omega⟩
          · exact ⟨h1, h2, by simp only; omega⟩
      · split
        · split
          · exact ⟨h1, h2, by simp only; omega⟩
          · exact ⟨by simp; omega, h2, by simp; omega⟩
        · exact ⟨h1, h2, by simp only; omega⟩

end Go.Proofs.YtpanlhbdphobdaaGreatDoor

namespace Go.Proofs.YtpanlhbdphobdaaGreatDoor
open Go.RowKit
set_option linter.unusedVariables false

theorem IL.below {w w' : World} {nb : Nat} {Al : Option Addr} {n : Nat} {xs : List (Int × Int × Int × Int × Value)} {cs : List Int} (h : IL w Al n xs cs) (hr : Reads w nb 5 Al n (xs.flatMap insD)) (hb : Below nb w w') (hs : nb ≤ w'.heap.size) : IL w' Al n xs cs :=
  ⟨(hr.below hb).more hs, h.len, h.codes, h.bd, h.one⟩

theorem drop_cons {α : Type} {l : List α} {k : Nat} {c : α} (h : l[k]? = some c) : l.drop k = c :: l.drop (k + 1) := by
  obtain ⟨hk, hv⟩ := List.getElem?_eq_some_iff.1 h
  rw [List.drop_eq_getElem_cons hk, hv]

end Go.Proofs.YtpanlhbdphobdaaGreatDoor

namespace Go.Proofs.YtpanlhbdphobdaaGreatDoor
open Go.RowKit
set_option linter.unusedVariables false

/-- a reference's instruction: code, A, B, align, labels -/
abbrev RI := Int × Int × Int × Int × Sl Int × Unit
def u64D (n : Int) : List Value := [.int .u64 n]
def u64Ok (n : Int) : Prop := (Lit.int .u64 n).wf = true
def riD (x : RI) : List Value := [.int .i64 x.1] ++ ([.int .u64 x.2.1] ++ ([.int .u64 x.2.2.1] ++ ([.int .i64 x.2.2.2.1] ++ ([x.2.2.2.2.1.val] ++ []))))
def riOk (w : World) (x : RI) : Prop := (Lit.int .i64 x.1).wf = true ∧ (Lit.int .u64 x.2.1).wf = true ∧ (Lit.int .u64 x.2.2.1).wf = true ∧ (Lit.int .i64 x.2.2.2.1).wf = true ∧ x.2.2.2.2.1.Ok w u64D 1 8 u64Ok ∧ True
theorem ri_at {w w' : World} {s : Sl RI} (h : s.Ok w riD 5 56 (riOk w)) (hb : Below w.heap.size w w') {i : Nat} (hi : i < s.l.length) :
    ∃ (ad : Addr) (x : RI), s.at_ = some ad ∧ Hid (s.l[i]? = some x) ∧ Hid (riOk w x) ∧ w'.cell? (ad.add (i * 5)) = some (.int .i64 x.1) ∧ w'.cell? ⟨(ad.add (i * 5)).block, (ad.add (i * 5)).off + 1, none⟩ = some (.int .u64 x.2.1) ∧
      w'.cell? ⟨(ad.add (i * 5)).block, (ad.add (i * 5)).off + 2, none⟩ = some (.int .u64 x.2.2.1) ∧ w'.cell? ⟨(ad.add (i * 5)).block, (ad.add (i * 5)).off + 3, none⟩ = some (.int .i64 x.2.2.2.1) ∧
      w'.cell? ⟨(ad.add (i * 5)).block, (ad.add (i * 5)).off + 4, none⟩ = some (.slice x.2.2.2.2.1.at_ x.2.2.2.2.1.l.length x.2.2.2.2.1.cap) := by
  obtain ⟨ad, h1, _, h2⟩ := (h.reads.below hb).2 (by omega)
  have hg := List.getElem?_eq_getElem hi
  have hk : ∀ j, j < 5 → ∀ u, (riD s.l[i])[j]? = some u → w'.cell? ((ad.add (i * 5)).add j) = some u := by
    intro j hj u hu
    rw [add_of_add]
    exact h2 _ _ (by rw [flatMap_get (dec := riD) (size := 5) (fun _ => rfl) s.l i j _ hg hj]; exact hu)
  refine ⟨ad, s.l[i], h1, hg, h.all _ (List.getElem_mem hi), ?_, hk 1 (by omega) _ rfl, hk 2 (by omega) _ rfl, hk 3 (by omega) _ rfl, hk 4 (by omega) _ rfl⟩
  have := hk 0 (by omega) _ rfl
  rwa [show (ad.add (i * 5)).add 0 = ad.add (i * 5) from by simp [Addr.add]] at this

theorem own_emptyD {w : World} {base g : Nat} {e : TypeId} {size : Nat} (hg : w.heap.size = g) (hb : base ≤ g) : (w.alloc (.cells #[] e)).drew.ownsRow base e size (.slice (some ⟨g, 0, none⟩) 0 0) 0 [] := by
  subst hg
  exact ⟨by simp, .inr ⟨w.heap.size, 0, #[], rfl, hb, heap_alloc_new w _, Nat.le_refl _, by unfold maxLen; omega, by simp, by simp⟩⟩
theorem u64D_one {l : List Int} : ∀ u ∈ l.flatMap u64D, u.oneCell' = true := by
  intro u hu
  obtain ⟨n, _, hn⟩ := List.mem_flatMap.1 hu
  simp [u64D] at hn
  subst hn
  rfl

theorem step_append_any {P : Program} {w : World} {ops : Array Oper} {o : Oper} {a : Act} {K : Act → World → Prop} {Q : Exit → Act → World → Prop} {E : Prop} (hgd : o.guard = none) (s x : Operand) {t : TypeId}
    (ho : o.op = .call { callee := .builtin .append, args := #[s, x], argTypes := #[t, t] })
    (base : Nat) {e : TypeId} {size bytes : Nat} (hE : IsElem P t e size bytes)
    (v : Value) (n : Nat) (xs : List Value) (hs : a.eval s = v) (hown : w.ownsRow base e size v n xs)
    (Bk : Nat) (A : Option Addr) (m c : Nat) (news : List Value) (hx : a.eval x = .slice A m c) (hr : Reads w Bk size A m news) (h1 : ∀ u ∈ news, u.oneCell' = true)
    (hroom : Room n m bytes) (hbase : base ≤ w.heap.size)
    (h : ∀ v' w', w'.ownsRow base e size v' (n + m) (xs ++ news) → Grows w w' v v' → K (a.put o.dst v') w') :
    if Region.wanted o (yielded ops a.tmps) = true then Oper.wp P o a w K Q else E := by
  have hwt : Region.wanted o (yielded ops a.tmps) = true := by simp [Region.wanted, hgd]
  rw [if_pos hwt]
  exact wp_append_any s x ho base hE v n xs hs hown Bk A m c news hx hr h1 hroom hbase h

/-- append onto an empty slice of the call's own that has no room: nothing that was there turns -/
theorem append_fresh {P : Program} {w : World} {t ty e : TypeId} {size bytes : Nat} (hE : IsElem P t e size bytes) (g base : Nat) (hg : base ≤ g) (hh : w.heap[g]? = some (.cells #[] e (0, 0))) (Bk : Nat) (A : Option Addr) (m c : Nat) (news : List Value)
    (hr : Reads w Bk size A m news) (h1 : ∀ u ∈ news, u.oneCell' = true) (hroom : Room 0 m bytes) (hbase : base ≤ w.heap.size) :
    ∃ v' w', (Builtin.append_ #[t, t] ty #[.slice (some ⟨g, 0, none⟩) 0 0, .slice A m c]).run P w = .ok v' w' ∧ w'.ownsRow base e size v' m news ∧ Below w.heap.size w w' := by
  obtain ⟨ht, i, z, hi, hz, hsize, hby, hzs, hsz⟩ := hE
  rcases Nat.eq_zero_or_pos m with h0 | h0
  · subst h0
    have hn : news = [] := List.eq_nil_of_length_eq_zero (by simpa using hr.1)
    subst hn
    have hown : w.ownsRow base e size (.slice (some ⟨g, 0, none⟩) 0 0) 0 [] := ⟨by simp, .inr ⟨g, 0, #[], rfl, hg, hh, Nat.le_refl _, by unfold maxLen; omega, by simp, by simp⟩⟩
    refine ⟨_, w, ?_, hown, Below.refl _ _⟩
    cases A with
    | none => exact run_append_of_nil base t ty e i size ht hi _ 0 [] hown c
    | some a => simp [Builtin.append_, run_underlying ht, sizeOf, typeInfo, hi, Builtin.lenOf, Builtin.firstCells, storeCells, loadCells, loadCellsFrom]
  · obtain ⟨ad, rfl, _, hc⟩ := hr.2 h0
    obtain ⟨v', w', hrun, h2, h3⟩ := run_append_arg_grows (P := P) (w := w) t ty e i z size bytes ht hi hz hsize hby hzs hsz ⟨g, 0, none⟩ 0 0 [] (by simp) (by simp) ad m c news hr.1 hc (by omega) hroom.1 hroom.2
    refine ⟨v', w', hrun, ?_, (Below.refl _ _).grown h3 (Nat.le_refl _) (fun q hq => by cases hq)⟩
    rw [Nat.zero_add, List.nil_append] at h2
    exact own_base h2 (fun q hq => by have := own_ge h2 q hq; omega)

/-- what To leaves: the same, with labels of its own -/
def ToPost (w : World) (x : RI) (e : Ending) (w' : World) : Prop :=
  ∃ A c, e = .returned (.agg #[.int .i64 x.1, .int .u64 x.2.1, .int .u64 x.2.2.1, .int .i64 x.2.2.2.1, .slice A x.2.2.2.2.1.l.length c]) ∧ Hid (w'.ownsRow w.heap.size 22 1 (.slice A x.2.2.2.2.1.l.length c) x.2.2.2.2.1.l.length (x.2.2.2.2.1.l.flatMap u64D)) ∧ Hid (Below w.heap.size w w')

theorem u64_elem : IsElem Tryz.prog 23 22 1 8 := IsElem.mk' Tryz.underlying23 (z := .int .u64 0) (by kernel_rfl) rfl (by omega)

set_option maxRecDepth 100000 in
set_option maxHeartbeats 800000 in
theorem insTo_any (x : RI) (w : World) (hr : Hid (Reads w w.heap.size 1 x.2.2.2.2.1.at_ x.2.2.2.2.1.l.length (x.2.2.2.2.1.l.flatMap u64D))) (hl : x.2.2.2.2.1.l.length ≤ 1000000) :
    Calls Tryz.prog 10 #[.agg #[.int .i64 x.1, .int .u64 x.2.1, .int .u64 x.2.2.1, .int .i64 x.2.2.2.1, .slice x.2.2.2.2.1.at_ x.2.2.2.2.1.l.length x.2.2.2.2.1.cap]] w (ToPost w x) := by
  obtain ⟨c, a, b, al, ⟨A, k, l⟩, u⟩ := x
  simp only at hr hl ⊢
  go_enter Tryz.func10, Tryz.ntmps10
  go_wp2_with fail
  obtain ⟨W, hW⟩ : ∃ W, ((w.alloc (.cells #[.int .i64 c, .int .u64 a, .int .u64 b, .int .i64 al, .slice A l.length k] 25)).alloc (.cells #[.int .i64 0, .int .u64 0, .int .u64 0, .int .i64 0, .slice none 0 0] 28)) = W := ⟨_, rfl⟩
  have hbW : Below w.heap.size w W := by rw [← hW]; exact ((Below.refl _ _).alloc (Nat.le_refl _) _).alloc (by simp) _
  obtain ⟨gb, hgb⟩ : ∃ gb, w.heap.size = gb := ⟨_, rfl⟩
  have hblk : W.heap[gb]? = some (.cells #[.int .i64 c, .int .u64 a, .int .u64 b, .int .i64 al, .slice A l.length k] 25 (0, 0)) := by
    rw [← hW, ← hgb, Below.heap_alloc _ _ _ (by simp)]
    exact heap_alloc_new w _
  have hblk2 : W.heap[gb + 1]? = some (.cells #[.int .i64 0, .int .u64 0, .int .u64 0, .int .i64 0, .slice none 0 0] 28 (0, 0)) := by
    rw [← hW, ← hgb]
    have := heap_alloc_new (w.alloc (.cells #[.int .i64 c, .int .u64 a, .int .u64 b, .int .i64 al, .slice A l.length k] 25)) (.cells #[.int .i64 0, .int .u64 0, .int .u64 0, .int .i64 0, .slice none 0 0] 28)
    simpa using this
  have hsz : W.heap.size = gb + 2 := by rw [← hW, ← hgb]; simp
  rw [hW, hgb]
  rw [hgb] at hbW hr
  have hrW := hide (hr.out.below hbW)
  have HB := hide hbW
  have HW := hide hW
  have HG := hide hgb
  clear hbW hW hgb
  have c0 := cell_blk hblk 0
  have c1 := cell_blk hblk 1
  have c2 := cell_blk hblk 2
  have c3 := cell_blk hblk 3
  have c4 := cell_blk hblk 4
  simp at c0 c1 c2 c3 c4
  have HC : CellsOf W (gb + 2) gb _ := CellsOf.of hblk (by omega)
  have HK := hide hblk
  have HK2 := hide hblk2
  clear hblk hblk2
  have hroom : Room 0 l.length 8 := room_of (by omega) (by omega)
  refine wp_region_last (l := [_, _, _, _, _, _, _, _, _, _, _, _, _]) (o := _) grew_ext (factsOf [fun v _ => v = .pointer (some ⟨gb, 0, none⟩),
    fun v _ => v = .int .i64 c,
    fun v _ => v = .pointer (some ⟨gb, 1, none⟩),
    fun v _ => v = .int .u64 a,
    fun v _ => v = .pointer (some ⟨gb, 2, none⟩),
    fun v _ => v = .int .u64 b,
    fun v _ => v = .pointer (some ⟨gb, 3, none⟩),
    fun v _ => v = .int .i64 al,
    fun v W => ∃ g, v = .slice (some ⟨g, 0, none⟩) 0 0 ∧ gb + 2 ≤ g ∧ W.heap[g]? = some (.cells #[] 22 (0, 0)),
    fun v _ => v = .pointer (some ⟨gb, 4, none⟩),
    fun v _ => v = .slice A l.length k,
    fun v W => ∃ A1 c1, v = .slice A1 l.length c1 ∧ W.ownsRow (gb + 2) 22 1 (.slice A1 l.length c1) l.length (l.flatMap u64D),
    fun v W => ∃ A1 c1, v = .agg #[.int .i64 c, .int .u64 a, .int .u64 b, .int .i64 al, .slice A1 l.length c1] ∧ W.ownsRow (gb + 2) 22 1 (.slice A1 l.length c1) l.length (l.flatMap u64D)]) (by kernel_rfl) (by kernel_rfl) (by kernel_rfl) ?_ ?_
  · refine ⟨?_, ?_, ?_, ?_, ?_, ?_, ?_, ?_, ?_, ?_, ?_, ?_, ?_, trivial⟩
    · refine ⟨fun ρ W hk => ?_⟩
      have o1 : ρ (.tmp 1) = .pointer (some ⟨gb, 0, none⟩) := hk.old 1 (by decide)
      exact OpOut.fieldAddr (x := .tmp 1) rfl o1 (by go_simp) ⟨Below.refl _ _, rfl⟩
    · refine ⟨fun ρ W hk => ?_⟩
      have h0 := (hk.fact 0 3 (by decide) rfl).pure
      have hc := HC.out W hk.below 0 (.int .i64 c) rfl
      exact OpOut.load (x := .tmp 3) rfl h0 (by go_simp) ⟨Below.refl _ _, rfl⟩
    · refine ⟨fun ρ W hk => ?_⟩
      have o1 : ρ (.tmp 1) = .pointer (some ⟨gb, 0, none⟩) := hk.old 1 (by decide)
      exact OpOut.fieldAddr (x := .tmp 1) rfl o1 (by go_simp) ⟨Below.refl _ _, rfl⟩
    · refine ⟨fun ρ W hk => ?_⟩
      have h2 := (hk.fact 2 5 (by decide) rfl).pure
      have hc := HC.out W hk.below 1 (.int .u64 a) rfl
      exact OpOut.load (x := .tmp 5) rfl h2 (by go_simp) ⟨Below.refl _ _, rfl⟩
    · refine ⟨fun ρ W hk => ?_⟩
      have o1 : ρ (.tmp 1) = .pointer (some ⟨gb, 0, none⟩) := hk.old 1 (by decide)
      exact OpOut.fieldAddr (x := .tmp 1) rfl o1 (by go_simp) ⟨Below.refl _ _, rfl⟩
    · refine ⟨fun ρ W hk => ?_⟩
      have h4 := (hk.fact 4 7 (by decide) rfl).pure
      have hc := HC.out W hk.below 2 (.int .u64 b) rfl
      exact OpOut.load (x := .tmp 7) rfl h4 (by go_simp) ⟨Below.refl _ _, rfl⟩
    · refine ⟨fun ρ W hk => ?_⟩
      have o1 : ρ (.tmp 1) = .pointer (some ⟨gb, 0, none⟩) := hk.old 1 (by decide)
      exact OpOut.fieldAddr (x := .tmp 1) rfl o1 (by go_simp) ⟨Below.refl _ _, rfl⟩
    · refine ⟨fun ρ W hk => ?_⟩
      have h6 := (hk.fact 6 9 (by decide) rfl).pure
      have hc := HC.out W hk.below 3 (.int .i64 al) rfl
      exact OpOut.load (x := .tmp 9) rfl h6 (by go_simp) ⟨Below.refl _ _, rfl⟩
    · refine ⟨fun ρ W hk => ?_⟩
      have hz := HC.size W hk.below
      exact OpOut.buildSlice (us := #[]) rfl (by simp) (by go_simp) ⟨(Below.refl _ _).alloc (Nat.le_refl _) _, W.heap.size, rfl, hz, heap_alloc_new W _⟩
    · refine ⟨fun ρ W hk => ?_⟩
      have o1 : ρ (.tmp 1) = .pointer (some ⟨gb, 0, none⟩) := hk.old 1 (by decide)
      exact OpOut.fieldAddr (x := .tmp 1) rfl o1 (by go_simp) ⟨Below.refl _ _, rfl⟩
    · refine ⟨fun ρ W hk => ?_⟩
      have h9 := (hk.fact 9 12 (by decide) rfl).pure
      have hc := HC.out W hk.below 4 (.slice A l.length k) rfl
      exact OpOut.load (x := .tmp 12) rfl h9 (by go_simp) ⟨Below.refl _ _, rfl⟩
    · refine ⟨fun ρ W hk => ?_⟩
      obtain ⟨w8, hw8, g8, h8, hg8, hh8⟩ := hk.fact 8 11 (by decide) rfl
      have h10 := (hk.fact 10 13 (by decide) rfl).pure
      have hh8b := (hw8.block g8 (blk_lt hh8)).trans hh8
      have hz := HC.size W hk.below
      obtain ⟨v2, W2, hrun, ho2, hb2⟩ := append_fresh (w := W) (ty := 23) u64_elem g8 (gb + 2) hg8 hh8b gb A l.length k (l.flatMap u64D) (hrW.out.below (hk.below.mono (by omega))) u64D_one hroom hz
      obtain ⟨A2, k2, rfl, hk2, hk3⟩ := own_form ho2
      exact OpOut.append rfl h8 h10 hrun ⟨hb2, A2, k2, rfl, ho2⟩
    · refine ⟨fun ρ W hk => ?_⟩
      have h1 := (hk.fact 1 4 (by decide) rfl).pure
      have h3 := (hk.fact 3 6 (by decide) rfl).pure
      have h5 := (hk.fact 5 8 (by decide) rfl).pure
      have h7 := (hk.fact 7 10 (by decide) rfl).pure
      obtain ⟨w11, hw11, A11, c11, h11, ho11⟩ := hk.fact 11 14 (by decide) rfl
      exact OpOut.build (us := #[(0, .int .i64 c), (1, .int .u64 a), (2, .int .u64 b), (3, .int .i64 al), (4, .slice A11 l.length c11)]) rfl (by simp [h1, h3, h5, h7, h11]) (by go_simp) ⟨Below.refl _ _, A11, c11, rfl, own_only3 (S := []) ho11 (Only.of_below hw11) (by simp)⟩
  · intro vs W2 hb hf
    obtain ⟨w12, hw12, A12, c12, h12, ho12⟩ := hf 12 (by decide)
    have hown := hide (own_only3 (S := []) ho12 (Only.of_below hw12) (by simp))
    clear hf
    simp only [fillL]
    rw [h12]
    generalize vs 0 = v0, vs 1 = v1, vs 2 = v2, vs 3 = v3, vs 4 = v4, vs 5 = v5, vs 6 = v6, vs 7 = v7, vs 8 = v8, vs 9 = v9, vs 10 = v10, vs 11 = v11
    have hblk3 := (hb.block (gb + 1) (by omega)).trans HK2.out
    have e0 : W2.cell? ⟨gb + 1, 0, none⟩ = some (.int .i64 0) := cell_blk hblk3 0
    have e1 : W2.cell? ⟨gb + 1, 1, none⟩ = some (.int .u64 0) := cell_blk hblk3 1
    have e2 : W2.cell? ⟨gb + 1, 2, none⟩ = some (.int .u64 0) := cell_blk hblk3 2
    have e3 : W2.cell? ⟨gb + 1, 3, none⟩ = some (.int .i64 0) := cell_blk hblk3 3
    have e4 : W2.cell? ⟨gb + 1, 4, none⟩ = some (.slice none 0 0) := cell_blk hblk3 4
    have z0 := frozen_blk hblk3 0
    have z1 := frozen_blk hblk3 1
    have z2 := frozen_blk hblk3 2
    have z3 := frozen_blk hblk3 3
    have z4 := frozen_blk hblk3 4
    clear hblk3 h12 hw12 ho12
    go_frame
    go_wp2_with fail
    have hs5 : ∀ (V : World) (i : Nat) (x : Value), Only [gb + 1] V (V.setCell ⟨gb + 1, i, none⟩ x) := fun V i x => Only.setCell V (p := ⟨gb + 1, i, none⟩) (by simp) x
    have ho5 := (((((hs5 W2 0 (.int .i64 c))).trans (hs5 _ 1 (.int .u64 a))).trans (hs5 _ 2 (.int .u64 b))).trans (hs5 _ 3 (.int .i64 al))).trans (hs5 _ 4 (.slice A12 l.length c12))
    have hblk4 := (hb.block (gb + 1) (by omega)).trans HK2.out
    have hbF := setCell_blk (setCell_blk (setCell_blk (setCell_blk (setCell_blk hblk4 0 (.int .i64 c)) 1 (.int .u64 a)) 2 (.int .u64 b)) 3 (.int .i64 al)) 4 (.slice A12 l.length c12)
    generalize ((((W2.setCell ⟨gb + 1, 0, none⟩ (.int .i64 c)).setCell ⟨gb + 1, 1, none⟩ (.int .u64 a)).setCell ⟨gb + 1, 2, none⟩ (.int .u64 b)).setCell ⟨gb + 1, 3, none⟩ (.int .i64 al)).setCell ⟨gb + 1, 4, none⟩ (.slice A12 l.length c12) = Wf at ho5 hbF ⊢
    clear e0 e1 e2 e3 e4 z0 z1 z2 z3 z4
    have f0 : Wf.cell? ⟨gb + 1, 0, none⟩ = some (.int .i64 c) := cell_blk hbF 0
    have f1 : Wf.cell? ⟨gb + 1, 1, none⟩ = some (.int .u64 a) := cell_blk hbF 1
    have f2 : Wf.cell? ⟨gb + 1, 2, none⟩ = some (.int .u64 b) := cell_blk hbF 2
    have f3 : Wf.cell? ⟨gb + 1, 3, none⟩ = some (.int .i64 al) := cell_blk hbF 3
    have f4 : Wf.cell? ⟨gb + 1, 4, none⟩ = some (.slice A12 l.length c12) := cell_blk hbF 4
    refine bodyPost_ret (v := .agg #[.int .i64 c, .int .u64 a, .int .u64 b, .int .i64 al, .slice A12 l.length c12]) (by simp [results, Tryz.results10, go_sem, f0, f1, f2, f3, f4]) rfl ?_
    refine ⟨A12, c12, rfl, ?_, ?_⟩
    · have h9 := own_only3 hown.out ho5 (fun g hg => by have := own_ge hown.out g hg; simp; omega)
      exact own_base h9 (fun g hg => by have := own_ge hown.out g hg; rw [HG.out]; omega)
    · have h9 : Below gb w W2 := HB.out.trans (hb.mono (by omega))
      have h10 := h9.size
      rw [HG.out] at h10 ⊢
      exact h9.trans (ho5.below h10 (by simp))
end Go.Proofs.YtpanlhbdphobdaaGreatDoor
