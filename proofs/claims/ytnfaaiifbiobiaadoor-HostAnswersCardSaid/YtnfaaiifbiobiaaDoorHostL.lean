/-
  host: a host as a state: New, Answer, Rule, Asked, Total.
-/
import Derived.Test.YtnfaaiifbiobiaaDoorHostK
namespace Go.Proofs.YtnfaaiifbiobiaaDoor
open Go.RowKit
set_option linter.unusedVariables false

/-- a host: none; or its rules, and how often each was asked -/
abbrev HS := Option (List HR × List Nat)
def outS (st : HS) (xm xn : List UInt8) (ts : List UInt8) (gs : List Nat) : Option (List Nat) :=
  match st with
  | none => none
  | some (rs, qs) => match findH rs xm xn 0 with
    | none => none
    | some k => match rs[k]? with
      | none => none
      | some r => if r.way = 0 then none else some (ts.map fun t => cutU t (resultH r (qs.getD k 0 + 1) gs))
def stepS (st : HS) (xm xn : List UInt8) : HS :=
  match st with
  | none => none
  | some (rs, qs) => match findH rs xm xn 0 with
    | none => some (rs, qs)
    | some k => some (rs, qs.set k (qs.getD k 0 + 1))
def outL (o : Option (List Nat)) : List Nat := o.getD []
theorem outL_len (st : HS) (xm xn ts : List UInt8) (gs : List Nat) : (outL (outS st xm xn ts gs)).length ≤ ts.length := by
  match st with
  | none => exact Nat.zero_le _
  | some (rs, qs) =>
    unfold outS
    simp only
    split
    · exact Nat.zero_le _
    · split
      · exact Nat.zero_le _
      · split
        · exact Nat.zero_le _
        · simp [outL]
/-- a host in memory, all its blocks from B on, below E -/
def Hst (w : World) (B E : Nat) (v : Value) (st : HS) : Prop :=
  match st with
  | none => v = .pointer none
  | some (rs, qs) => ∃ hb ga Al cl, v = .pointer (some ⟨hb, 0, none⟩) ∧ HO w hb ga Al rs.length cl rs qs ∧ AllR rs ∧ (B ≤ hb ∧ hb < E) ∧ (B ≤ ga ∧ ga < E) ∧ ∀ ad, Al = some ad → B ≤ ad.block ∧ ad.block < E
def AOnly (B E : Nat) (w w' : World) : Prop := Only (List.range' B (E - B)) w w'
theorem mem_BE {B E x : Nat} : x ∈ List.range' B (E - B) ↔ B ≤ x ∧ x < E := by rw [List.mem_range'_1]; omega
theorem AOnly.ext (B E : Nat) : IsExt (AOnly B E) := Only.ext _
theorem AOnly.of_below {B E : Nat} {w w' : World} (h : Below w.heap.size w w') : AOnly B E w w' := Only.of_below h
theorem AOnly.of_only {B E g : Nat} {w w' : World} (h : Only [g] w w') (hg : B ≤ g ∧ g < E) : AOnly B E w w' := Only.more h (fun x hx => by simp at hx; subst hx; exact mem_BE.2 hg)
theorem AOnly.below {B E Bk : Nat} {w w' : World} (h : AOnly B E w w') (h1 : Bk ≤ B) (h2 : Bk ≤ w.heap.size) : Below Bk w w' :=
  Only.below h h2 (fun x hx => Nat.le_trans h1 (mem_BE.1 hx).1)
theorem AOnly.size {B E : Nat} {w w' : World} (h : AOnly B E w w') : w.heap.size ≤ w'.heap.size := Only.size h
theorem Hst.below {w w' : World} {B E : Nat} {v : Value} {st : HS} (h : Hst w B E v st) (hb : Below w.heap.size w w') : Hst w' B E v st := by
  match st, h with
  | none, h => exact h
  | some (rs, qs), h =>
    obtain ⟨hb', ga, Al, cl, h1, h2, h3⟩ := h
    exact ⟨hb', ga, Al, cl, h1, h2.below hb, h3⟩
theorem Hst.other {w w' : World} {B E B2 E2 : Nat} {v : Value} {st : HS} (h : Hst w B E v st) (ho : AOnly B2 E2 w w') (hd : E ≤ B2 ∨ E2 ≤ B) : Hst w' B E v st := by
  match st, h with
  | none, h => exact h
  | some (rs, qs), h =>
    obtain ⟨hb', ga, Al, cl, h1, h2, h3, h4, h5, h6⟩ := h
    have key : ∀ x, B ≤ x ∧ x < E → x ∉ List.range' B2 (E2 - B2) := fun x hx hm => by have := mem_BE.1 hm; omega
    exact ⟨hb', ga, Al, cl, h1, h2.only ho (key _ h4) (key _ h5) (fun ad e => key _ (h6 ad e)), h3, h4, h5, h6⟩
theorem Reads.aonly {w w' : World} {Bk B E size n : Nat} {A : Option Addr} {xs : List Value} (h : Reads w Bk size A n xs) (ho : AOnly B E w w') (hB : Bk ≤ B) (h2 : Bk ≤ w.heap.size) : Reads w' w'.heap.size size A n xs :=
  (h.below (ho.below hB h2)).more (Nat.le_trans h2 ho.size)
/-- what lies behind E -/
theorem Reads.aonly2 {w w' : World} {B E size n : Nat} {A : Option Addr} {xs : List Value} (h : Reads w w.heap.size size A n xs) (ho : AOnly B E w w') (hE : ∀ ad, A = some ad → E ≤ ad.block) : Reads w' w'.heap.size size A n xs :=
  (h.only ho (fun ad e hm => by have := mem_BE.1 hm; have := hE ad e; omega)).more (Only.size ho)
/-- counts are small -/
def Few (st : HS) (i : Nat) : Prop := ∀ rs qs, st = some (rs, qs) → ∀ q ∈ qs, q ≤ i

def AnsP (w : World) (B E : Nat) (v : Value) (st : HS) (xm xn : List UInt8) (ts : List UInt8) (gs : List Nat) (e : Ending) (w' : World) : Prop :=
  ∃ A c, e = .returned (.tuple #[.slice A (outL (outS st xm xn ts gs)).length c, .bool (outS st xm xn ts gs).isSome]) ∧ Hid (Reads w' w'.heap.size 1 A (outL (outS st xm xn ts gs)).length ((outL (outS st xm xn ts gs)).map U)) ∧
    Hid (∀ ad, 0 < (outL (outS st xm xn ts gs)).length → A = some ad → w.heap.size ≤ ad.block) ∧ Hid (AOnly B E w w') ∧ Hid (Hst w' B E v (stepS st xm xn))
theorem answer_all (Bk E : Nat) (v : Value) (st : HS) (xm xn : List UInt8) (sg : Int) (pv : Value) (At : Option Addr) (ct : Nat) (ts : List UInt8) (Ag : Option Addr) (cg : Nat) (gs : List Nat) (w : World)
    (h : Hid (Hst w Bk E v st)) (hT : Hid (∀ W, AOnly Bk E w W → Reads W W.heap.size 1 At ts.length (ts.map B))) (hG : Hid (∀ W, AOnly Bk E w W → Reads W W.heap.size 1 Ag gs.length (gs.map U))) (htl : ts.length ≤ 100) (hgl : gs.length ≤ 100) (hgu : Hid (∀ g ∈ gs, g ≤ 18446744073709551615)) (hfew : Hid (Few st 999)) :
    Calls Tryd.prog 10 #[v, .agg #[.string ⟨xm.toArray⟩, .string ⟨xn.toArray⟩, .int .i64 sg], .agg #[pv, .slice At ts.length ct], .slice Ag gs.length cg] w (AnsP w Bk E v st xm xn ts gs) := by
  match st, h, hfew with
  | none, h, _ =>
    obtain rfl : v = .pointer none := h.out
    refine (answer_none xm xn sg pv _ _ w).mono ?_
    rintro e w' ⟨rfl, hb⟩
    exact ⟨none, 0, rfl, Reads.none_, (fun ad h _ => by cases h), AOnly.of_below hb.out, rfl⟩
  | some (rs, qs), h, hfew =>
    obtain ⟨hb, ga, Al, cl, rfl, h2, h3, h4, h5, h6⟩ := h.out
    cases hf : findH rs xm xn 0 with
    | none =>
      refine (answer_miss hb ga Al rs.length cl rs qs xm xn sg pv _ _ w h2 hf).mono ?_
      rintro e w' ⟨rfl, hb'⟩
      have ho : outS (some (rs, qs)) xm xn ts gs = none := by simp only [outS, hf]
      have hs : stepS (some (rs, qs)) xm xn = some (rs, qs) := by simp only [stepS, hf]
      unfold AnsP
      rw [ho, hs]
      exact ⟨none, 0, rfl, Reads.none_, (fun ad h _ => by cases h), AOnly.of_below hb'.out, h.out.below hb'.out⟩
    | some k =>
      obtain ⟨_, hkl, r, hr, _⟩ := findH_some hf
      rw [Nat.sub_zero] at hr
      have hkq : k < qs.length := by have := h2.al; omega
      have hq : qs[k]? = some (qs.getD k 0) := by rw [List.getD_eq_getElem?_getD, List.getElem?_eq_getElem hkq]; rfl
      have hv : qs.getD k 0 ≤ 999 := hfew.out rs qs rfl _ (List.mem_of_getElem? hq)
      have hin : ∀ W, Only [ga] w W → AOnly Bk E w W := fun W ho => AOnly.of_only ho h5
      refine (answer_hit hb ga Al rs.length cl rs qs xm xn sg pv At ct ts Ag cg gs k (qs.getD k 0) r w h2 hf hr hq hv h3 (fun W ho => hT.out W (hin W ho)) (fun W ho => hG.out W (hin W ho)) htl hgl hgu).mono ?_
      rintro e w' ⟨ho1, HO1, hres⟩
      have hs : stepS (some (rs, qs)) xm xn = some (rs, qs.set k (qs.getD k 0 + 1)) := by simp only [stepS, hf]
      have hst : Hst w' Bk E (.pointer (some ⟨hb, 0, none⟩)) (some (rs, qs.set k (qs.getD k 0 + 1))) := ⟨hb, ga, Al, cl, rfl, HO1.out, h3, h4, h5, h6⟩
      unfold AnsP
      rcases hres with ⟨hz, rfl⟩ | ⟨hz, A, c, rfl, hrd, hge⟩
      · have ho : outS (some (rs, qs)) xm xn ts gs = none := by simp only [outS, hf, hr, hz, if_true]
        rw [ho, hs]
        exact ⟨none, 0, rfl, Reads.none_, (fun ad h _ => by cases h), hin _ ho1.out, hst⟩
      · have ho : outS (some (rs, qs)) xm xn ts gs = some (ts.map fun t => cutU t (resultH r (qs.getD k 0 + 1) gs)) := by simp only [outS, hf, hr, if_neg hz]
        have hl : (outL (some (ts.map fun t => cutU t (resultH r (qs.getD k 0 + 1) gs)))).length = ts.length := by simp [outL]
        rw [ho, hs, hl]
        exact ⟨A, c, rfl, hrd, hge, hin _ ho1.out, hst⟩
theorem stepS_few {st : HS} {i : Nat} (h : Few st i) (xm xn : List UInt8) : Few (stepS st xm xn) (i + 1) := by
  intro rs qs e q hq
  match st, h, e with
  | none, _, e => cases e
  | some (rs', qs'), h, e =>
    cases hf : findH rs' xm xn 0 with
    | none =>
      simp only [stepS, hf, Option.some.injEq, Prod.mk.injEq] at e
      obtain ⟨rfl, rfl⟩ := e
      have := h rs' qs' rfl q hq
      omega
    | some k =>
      simp only [stepS, hf, Option.some.injEq, Prod.mk.injEq] at e
      obtain ⟨rfl, rfl⟩ := e
      rcases List.mem_or_eq_of_mem_set hq with hm | rfl
      · have := h rs' qs' rfl q hm
        omega
      · by_cases hk : k < qs'.length
        · have := h rs' qs' rfl (qs'.getD k 0) (by rw [List.getD_eq_getElem?_getD, List.getElem?_eq_getElem hk]; exact List.getElem_mem hk)
          omega
        · rw [List.getD_eq_getElem?_getD, List.getElem?_eq_none (by omega)]
          simp

/-- what New gives -/
def newS (rs : List HR) : HS := if 30 < rs.length then none else if rs.all rightH then some (rs, List.replicate rs.length 0) else none
def newE (rs : List HR) : Int := if 30 < rs.length then 15 else if rs.all rightH then 0 else 1
def NewP (rs : List HR) (w : World) (e : Ending) (w' : World) : Prop :=
  ∃ v, e = .returned (.tuple #[v, .int .i64 (newE rs)]) ∧ Hid (Hst w' w.heap.size w'.heap.size v (newS rs)) ∧ Hid (Below w.heap.size w w') ∧ Hid (v = .pointer none ∨ ∃ g, v = .pointer (some ⟨g, 0, none⟩))
theorem new_all (A : Option Addr) (c n : Nat) (rs : List HR) (w : World) (hr : Hid (Reads w w.heap.size 4 A rs.length (rs.flatMap hrV))) (hn : rs.length = n) (hl : n ≤ 1000) (hfair : Hid (Fair rs)) :
    Calls Tryd.prog 8 #[.slice A n c] w (NewP rs w) := by
  unfold NewP newS newE
  by_cases h30 : 30 < rs.length
  · rw [if_pos h30, if_pos h30]
    refine (new_long A c n w (by omega)).mono ?_
    rintro e w' ⟨rfl, rfl⟩
    exact ⟨_, rfl, rfl, Below.refl _ _, .inl rfl⟩
  · rw [if_neg h30, if_neg h30]
    cases hq : rs.all rightH with
    | false =>
      refine (new_bad A c n rs w hr hn (by omega) hfair hq).mono ?_
      rintro e w' ⟨rfl, hb⟩
      exact ⟨_, rfl, rfl, hb, .inl rfl⟩
    | true =>
      refine (new_ok A c n rs w hr hn (by omega) hfair hq).mono ?_
      rintro e w' ⟨hb, ga, A1, c1, rfl, hho, hlo, hbw⟩
      refine ⟨_, rfl, ?_, hbw, .inr ⟨hb, rfl⟩⟩
      have hho' := hho.out
      rw [← hn] at hho'
      refine ⟨hb, ga, A1, c1, rfl, hho', fun r hr => ⟨List.all_eq_true.1 hq r hr, (hfair.out r hr).2.2⟩, ⟨hlo.out.1, blk_lt hho.out.blk⟩, ⟨hlo.out.2.1, blk_lt hho.out.asked⟩, hlo.out.2.2⟩
theorem newS_few (rs : List HR) : Few (newS rs) 0 := by
  intro rs' qs e q hq
  unfold newS at e
  split at e
  · cases e
  · split at e
    · simp only [Option.some.injEq, Prod.mk.injEq] at e
      obtain ⟨_, rfl⟩ := e
      have := (List.mem_replicate.1 hq).2
      omega
    · cases e

def totS (st : HS) : Nat := match st with
  | none => 0
  | some (_, qs) => sumL qs
theorem total_all (B E : Nat) (v : Value) (st : HS) (w : World) (h : Hid (Hst w B E v st)) (hfew : Hid (Few st 1000)) : Calls Tryd.prog 13 #[v] w fun e w' => e = .returned (.int .i64 (totS st : Int)) ∧ w = w' := by
  match st, h, hfew with
  | none, h, _ =>
    obtain rfl : v = .pointer none := h.out
    exact total_none w
  | some (rs, qs), h, hfew =>
    obtain ⟨hb, ga, Al, cl, rfl, h2, _⟩ := h.out
    exact total_any hb ga Al rs.length cl rs qs w h2 (hfew.out rs qs rfl)
def ruleS (st : HS) (xm xn : List UInt8) : Option Nat := match st with
  | none => none
  | some (rs, _) => findH rs xm xn 0
theorem rule_all (B E : Nat) (v : Value) (st : HS) (xm xn : List UInt8) (sg : Int) (w : World) (h : Hid (Hst w B E v st)) :
    Calls Tryd.prog 9 #[v, .agg #[.string ⟨xm.toArray⟩, .string ⟨xn.toArray⟩, .int .i64 sg]] w fun e w' => e = .returned (.tuple #[.int .i64 ((ruleS st xm xn).getD 0 : Nat), .bool (ruleS st xm xn).isSome]) ∧ Hid (Below w.heap.size w w') := by
  match st, h with
  | none, h =>
    obtain rfl : v = .pointer none := h.out
    exact rule_none xm xn sg w
  | some (rs, qs), h =>
    obtain ⟨hb, ga, Al, cl, rfl, h2, _⟩ := h.out
    exact rule_any hb ga Al rs.length cl rs qs xm xn sg w h2
def askedS (st : HS) (k : Int) : Nat := match st with
  | none => 0
  | some (_, qs) => if k < 0 then 0 else qs.getD k.toNat 0
theorem asked_all (B E : Nat) (v : Value) (st : HS) (k : Int) (w : World) (h : Hid (Hst w B E v st)) : Calls Tryd.prog 12 #[v, .int .i64 k] w fun e w' => e = .returned (.int .i64 (askedS st k : Int)) ∧ w = w' := by
  match st, h with
  | none, h =>
    obtain rfl : v = .pointer none := h.out
    exact asked_none k w
  | some (rs, qs), h =>
    obtain ⟨hb, ga, Al, cl, rfl, h2, _⟩ := h.out
    have hal := h2.al
    by_cases hk : k < 0
    · rw [show askedS (some (rs, qs)) k = 0 from by simp only [askedS, if_pos hk]]
      exact asked_out hb ga Al rs.length cl rs qs k w h2 (.inl hk)
    · by_cases hn : (rs.length : Int) ≤ k
      · rw [show askedS (some (rs, qs)) k = 0 from by simp only [askedS, if_neg hk]; rw [List.getD_eq_getElem?_getD, List.getElem?_eq_none (by omega)]; rfl]
        exact asked_out hb ga Al rs.length cl rs qs k w h2 (.inr hn)
      · obtain ⟨j, rfl⟩ : ∃ j : Nat, k = j := ⟨k.toNat, by omega⟩
        have hj : qs[j]? = some (qs.getD j 0) := by rw [List.getD_eq_getElem?_getD, List.getElem?_eq_getElem (by omega)]; rfl
        have := asked_in hb ga Al rs.length cl rs qs j (qs.getD j 0) w h2 hj
        rw [show askedS (some (rs, qs)) (j : Int) = qs.getD j 0 from by simp only [askedS]; rw [if_neg (by omega)]; simp]
        exact this

/-- numbers that a call answered: where they lie -/
def OutF (E : Nat) (l : List Nat) (v : Value) (W : World) : Prop := ∃ A c, v = .slice A l.length c ∧ Reads W W.heap.size 1 A l.length (l.map U) ∧ ∀ ad, 0 < l.length → A = some ad → E ≤ ad.block
theorem OutF.only {E : Nat} {l : List Nat} {v : Value} {W W' : World} {S : List Nat} (h : OutF E l v W) (ho : Only S W W') (hS : ∀ x ∈ S, x < E) : OutF E l v W' := by
  obtain ⟨A, c, rfl, hr, hE⟩ := h
  rcases Nat.eq_zero_or_pos l.length with h0 | h0
  · have : l = [] := List.eq_nil_of_length_eq_zero h0
    subst this
    exact ⟨A, c, rfl, ⟨rfl, fun h => absurd h (by simp)⟩, fun ad h => absurd h (by simp)⟩
  · exact ⟨A, c, rfl, (hr.only ho (fun ad e hm => by have := hS _ hm; have := hE ad h0 e; omega)).more ho.size, hE⟩
theorem OutF.aonly {E B1 E1 : Nat} {l : List Nat} {v : Value} {W W' : World} (h : OutF E l v W) (ho : AOnly B1 E1 W W') (hE : E1 ≤ E) : OutF E l v W' :=
  h.only ho (fun x hx => by have := mem_BE.1 hx; omega)
theorem OutF.below {E : Nat} {l : List Nat} {v : Value} {W W' : World} (h : OutF E l v W) (hb : Below W.heap.size W W') : OutF E l v W' :=
  h.only (S := []) (Only.of_below hb) (by simp)
end Go.Proofs.YtnfaaiifbiobiaaDoor
