/-
  instr.Parse: contract. (Written by wip/gen-insf.py.)
-/
import Derived.Test.YtpanlhbdphobdaaGreatDoorFaBM
import Derived.Deep.DeepCutAuto
import Derived.Deep.CutBlock
namespace Go.Proofs.YtpanlhbdphobdaaGreatDoor
open Go.RowKit
set_option linter.unusedVariables false

theorem join_split_len : ∀ (k : Nat) (t : List UInt8), (Lib.join (Lib.splitK [32] 0 k t) [32]).length ≤ t.length + k := by
  intro k
  induction k with
  | zero => intro t; simp [Lib.splitK, Lib.join_one]
  | succ k ih =>
    intro t
    rw [Lib.splitK]
    split
    · rw [Lib.join_one]; omega
    · rename_i hne
      obtain ⟨x, hx⟩ : ∃ x, Lib.index t [32] = x := ⟨_, rfl⟩
      generalize hd : t.drop _ = u
      have hu := ih u
      generalize Lib.splitK [32] 0 k u = l at hu
      have hul : u.length ≤ t.length := by rw [← hd]; exact (List.drop_sublist _ _).length_le
      cases l with
      | nil =>
        rw [Lib.join_one]
        have := (List.take_sublist (Lib.index t [32]).toNat t).length_le
        simp at this ⊢
        omega
      | cons y r =>
        rw [join2]
        rw [List.length_append, List.length_cons, List.length_take]
        rw [← hd, List.length_drop] at hu
        simp only [List.length_cons, List.length_nil] at hu ⊢
        omega
theorem join_tail_len (x : List UInt8) : ∀ l : List (List UInt8), (Lib.join l [32]).length ≤ (Lib.join (x :: l) [32]).length := by
  intro l
  cases l with
  | nil => simp [Lib.join]
  | cons y r => rw [join2, List.length_append, List.length_cons]; omega
theorem parse_bounds {s w0 : List UInt8} {ts : List (List UInt8)} (hs : s.length ≤ 400 ∨ ∃ z : XI, z.In ∧ rightX z = true ∧ printX z = s) (hw : wordsS s = w0 :: ts) :
    s.length ≤ 2300 ∧ (∀ t ∈ w0 :: ts, t.length ≤ 1000) ∧ ts.length ≤ 2300 ∧ (∀ r, namedR ⟨w0.toArray⟩ = some r → r.form = 11 → (Lib.join ts [32]).length ≤ 900) := by
  have hl := wordsS_len s
  rw [hw, List.length_cons] at hl
  have hc := List.count_le_length (a := (32 : UInt8)) (l := s)
  rcases hs with hs | ⟨z, hz, hr, hp⟩
  · refine ⟨by omega, fun t ht => ?_, by omega, fun r _ _ => ?_⟩
    · rw [← hw] at ht
      have := wordsS_all ht
      omega
    · have h1 := join_tail_len w0 ts
      have h2 := join_split_len (s.count 32) s
      have h3 : Lib.splitK [32] 0 (s.count 32) s = w0 :: ts := hw
      rw [h3] at h2
      omega
  · have hlen := printX_len hz
    have hwz := printX_words hz hr
    rw [hp] at hlen hwz
    rw [hw] at hwz
    injection hwz with e1 e2
    obtain ⟨q, hq1, hm, hnm, hf, hcd, hrf⟩ := right_name hr
    obtain ⟨t1, t2⟩ := told_txt hz hrf
    refine ⟨by omega, fun t ht => ?_, by omega, fun r hnr h11 => ?_⟩
    · rcases List.mem_cons.1 ht with rfl | ht
      · rw [e1, hnm]; have := (names_txt q hm).2.1; omega
      · rw [e2] at ht; have := (t2 t ht).2; omega
    · obtain ⟨k1, k2⟩ := namedR_some hnr
      have e3 : q = r := by
        apply allRows_names q hm r k1
        rw [k2, e1, hnm]
      subst e3
      have ht : toldX z = [Lib.itoa (signV (if z.code = 66 then 64 else 32) z.a)] := by
        have := toldX_f (x := z) (f := refForm z.code) rfl
        rw [← hf, h11] at this
        simpa using this
      rw [e2, ht, Lib.join_one]
      have := (t2 (Lib.itoa (signV (if z.code = 66 then 64 else 32) z.a)) (by rw [ht]; simp)).2
      omega

theorem typedL_many {ts : List (List UInt8)} (h : ts.length ≠ 1) : typedL ts = 64 := by
  unfold typedL
  rw [if_neg (by rintro rfl; exact h rfl), if_neg (by rintro rfl; exact h rfl)]
set_option maxRecDepth 100000 in
theorem run_two0 (W : World) : (Instr.index 131 (.agg #[.int .u8 127, .int .u8 126]) (.int .i64 0)).run Tryz.prog W = .ok (.int .u8 127) W := by
  go_simp
  rfl
set_option maxRecDepth 100000 in
theorem run_two1 (W : World) : (Instr.index 131 (.agg #[.int .u8 127, .int .u8 126]) (.int .i64 1)).run Tryz.prog W = .ok (.int .u8 126) W := by
  go_simp
  rfl
set_option maxRecDepth 100000 in
set_option maxHeartbeats 1600000 in
theorem insTyped_any (A : Option Addr) (c : Nat) (ts : List (List UInt8)) (w : World) (hr : Hid (Reads w w.heap.size 1 A ts.length (ts.map S))) (hl : ts.length ≤ 5000) :
    Calls Tryz.prog 38 #[.slice A ts.length c] w fun e w' => e = .returned (.int .u64 (typedL ts : Nat)) ∧ Hid (Below w.heap.size w w') := by
  have R0 := run_two0
  have R1 := run_two1
  by_cases h1 : ts.length = 1
  · obtain ⟨t, rfl⟩ : ∃ t, ts = [t] := by
      cases ts with
      | nil => cases h1
      | cons a r => cases r with
        | nil => exact ⟨a, rfl⟩
        | cons b r => simp at h1
    obtain ⟨ad, u, hA, hu, u0⟩ := hr.out.elem (k := 0) (by simp)
    subst hA
    have hut : t = u := by have := hu.out; simpa using this
    subst hut
    rw [show ad.add 0 = ad from by simp [Addr.add]] at u0
    have hlt : Hid (ad.block < w.heap.size) := by
      obtain ⟨ad2, e2, hlt, _⟩ := hr.out.2 (by simp)
      injection e2 with e2
      subst e2
      exact hlt
    have U0 := hide u0
    have HN1 : Hid (∀ W, Calls Tryz.prog 67 #[.int .u8 127] W fun e w' => e = .returned (.string ⟨#[105, 51, 50]⟩) ∧ w' = W) := fun W => (tname_any 127 W).mono (by rintro e w' ⟨rfl, h⟩; exact ⟨rfl, h.symm⟩)
    have HN2 : Hid (∀ W, Calls Tryz.prog 67 #[.int .u8 126] W fun e w' => e = .returned (.string ⟨#[105, 54, 52]⟩) ∧ w' = W) := fun W => (tname_any 126 W).mono (by rintro e w' ⟨rfl, h⟩; exact ⟨rfl, h.symm⟩)
    simp only [List.length_singleton]
    clear hr hu h1 hl u0
    have hT1 : t = [105, 51, 50] → typedL [t] = 127 := by rintro rfl; decide
    have hT2 : t = [105, 54, 52] → typedL [t] = 126 := by rintro rfl; decide
    have hT3 : t ≠ [105, 51, 50] → t ≠ [105, 54, 52] → typedL [t] = 64 := by
      intro k1 k2
      unfold typedL
      rw [if_neg (by intro e; injection e with e _; exact k1 e), if_neg (by intro e; injection e with e _; exact k2 e)]
    have HT1 := hide hT1; have HT2 := hide hT2; have HT3 := hide hT3
    clear hT1 hT2 hT3
    generalize typedL [t] = R at HT1 HT2 HT3 ⊢
    go_enter Tryz.func38, Tryz.ntmps38
    go_wp2_with fail
    go_loopw [2, 4, 6] (fun r v i w1 => ∃ k : Nat, r = .int .u64 0 ∧ i = .int .i64 k ∧ k ≤ 2 ∧ Hid (Below w.heap.size w w1) ∧ Hid ((1 ≤ k → t ≠ [105, 51, 50]) ∧ (2 ≤ k → t ≠ [105, 54, 52]))) (fun _ _ i _ => 2 - (intOf i).toNat)
    case atStart => exact ⟨0, rfl, rfl, by omega, Below.refl _ _, by show _ ∧ _; simp⟩
    case round =>
      obtain ⟨k, rfl, rfl, hk, hbw, hst⟩ := hrel
      have u1 : wr.cell? ad = some (.string ⟨t.toArray⟩) := (hbw.out.cell hlt.out).trans U0.out
      have hk3 : k = 0 ∨ k = 1 ∨ k = 2 := by omega
      rcases hk3 with rfl | rfl | rfl
      · cases hq : (t == [105, 51, 50]) with
        | true =>
          have HR : Hid (R = 127) := HT1.out (by simpa using hq)
          have HC := HN1
          clear hst
          go_wp2_with fail
          go_quiet ((go_at_call 67; refine Calls.quiet_of_same (HC.out _)))
          go_wp2_with fail
          go_ret
          exact ⟨by rw [HR.out]; rfl, below_drewN4 hbw.out _⟩
        | false =>
          have HST : Hid (t ≠ [105, 51, 50]) := by show _ ≠ _; simpa using hq
          have HC := HN1
          clear hst
          go_wp2_with fail
          go_quiet ((go_at_call 67; refine Calls.quiet_of_same (HC.out _)))
          go_wp2_with fail
          go_roundw
          case rel => exact ⟨1, rfl, by go_num, by omega, below_drewN4 hbw.out _, ⟨fun _ => HST.out, fun h => absurd h (by omega)⟩⟩
          case measure => simp [intOf] <;> omega
      · cases hq : (t == [105, 54, 52]) with
        | true =>
          have HR : Hid (R = 126) := HT2.out (by simpa using hq)
          have HC := HN2
          clear hst
          go_wp2_with fail
          go_quiet ((go_at_call 67; refine Calls.quiet_of_same (HC.out _)))
          go_wp2_with fail
          go_ret
          exact ⟨by rw [HR.out]; rfl, below_drewN4 hbw.out _⟩
        | false =>
          have HST : Hid (t ≠ [105, 54, 52]) := by show _ ≠ _; simpa using hq
          have HC := HN2
          have HS1 := hide (hst.out.1 (by omega))
          clear hst
          go_wp2_with fail
          go_quiet ((go_at_call 67; refine Calls.quiet_of_same (HC.out _)))
          go_wp2_with fail
          go_roundw
          case rel => exact ⟨2, rfl, by go_num, by omega, below_drewN4 hbw.out _, ⟨fun _ => HS1.out, fun _ => HST.out⟩⟩
          case measure => simp [intOf] <;> omega
      · have HR : Hid (R = 64) := HT3.out (hst.out.1 (by omega)) (hst.out.2 (by omega))
        clear hst
        go_wp2_with fail
        go_ret
        exact ⟨by rw [HR.out]; rfl, hbw⟩
  · have HR := hide (typedL_many h1)
    have hne : ((ts.length : Int) == 1) = false := by simp; omega
    clear h1 hr
    generalize typedL ts = R at HR ⊢
    go_enter Tryz.func38, Tryz.ntmps38
    go_wp2_with fail
    go_loopw [2, 4, 6] (fun r v i w1 => ∃ k : Nat, r = .int .u64 0 ∧ i = .int .i64 k ∧ k ≤ 2 ∧ Hid (Below w.heap.size w w1)) (fun _ _ i _ => 2 - (intOf i).toNat)
    case atStart => exact ⟨0, rfl, rfl, by omega, Below.refl _ _⟩
    case round =>
      obtain ⟨k, rfl, rfl, hk, hbw⟩ := hrel
      have hk3 : k = 0 ∨ k = 1 ∨ k = 2 := by omega
      rcases hk3 with rfl | rfl | rfl
      · go_wp2_with fail
        go_quiet (fail)
        go_wp2_with fail
        go_roundw
        case rel => exact ⟨1, rfl, by go_num, by omega, below_drewN4 hbw.out _⟩
        case measure => simp [intOf] <;> omega
      · go_wp2_with fail
        go_quiet (fail)
        go_wp2_with fail
        go_roundw
        case rel => exact ⟨2, rfl, by go_num, by omega, below_drewN4 hbw.out _⟩
        case measure => simp [intOf] <;> omega
      · go_wp2_with fail
        go_ret
        exact ⟨by rw [HR.out]; rfl, hbw⟩

/-- what the variables hold that this code reads -/
structure LaidI (w : World) : Prop where
  c : LaidC w
  ml : ∃ m, w.cell? ⟨0, 0, none⟩ = some (.int .i64 m)
theorem LaidI.below {w w' : World} (h : LaidI w) (hb : Below w.heap.size w w') : LaidI w' := by
  obtain ⟨m, hm⟩ := h.ml
  exact ⟨h.c.below hb, m, (hb.cell (World.block_lt_of_cell? w _ hm)).trans hm⟩
theorem splitI_any (s : List UInt8) (W : World) (hl : s.length ≤ 5000) (ht : Hid (LaidI W)) : Calls Tryz.prog 34 #[.string ⟨s.toArray⟩, .string ⟨#[32]⟩] W fun e w' => e = .returned (.slice (some ⟨W.heap.size, 0, none⟩) (wordsS s).length (wordsS s).length) ∧ w' = W.alloc (.cells ((wordsS s).map S).toArray 9) := by
  obtain ⟨m, hm⟩ := ht.out.ml
  have h := Tryz.strings_Split ⟨s.toArray⟩ ⟨#[32]⟩ m W (by show s.length < _; omega) hm (by decide)
  have h2 := Lib.splitB_data ⟨#[32]⟩ 0 (Lib.countB ⟨s.toArray⟩ ⟨#[32]⟩) ⟨s.toArray⟩
  have e : Lib.countB ⟨s.toArray⟩ ⟨#[32]⟩ = s.count 32 := Lib.count_one _ _
  have h1 := Lib.splitB_all ⟨#[32]⟩ (by decide) 0 _ ⟨s.toArray⟩ rfl
  rw [words_back, ← h1, h2, e] at h
  have h3 := congrArg List.length h2
  rw [List.length_map, e] at h3
  rw [h3] at h
  exact h

def zeroX : XI := ⟨0, 0, 0, 0, []⟩
structure ParsedR (s : List UInt8) (y : XI) (er : Nat) : Prop where
  in_ : y.In
  or_ : (er = 0 ∧ rightX y = true ∧ printX y = s ∧ ∀ z : XI, z.In → rightX z = true → printX z = s → y = z) ∨ (er = 4 ∧ y = zeroX ∧ ∀ z : XI, z.In → rightX z = true → printX z ≠ s)
theorem zeroX_in : zeroX.In := ⟨by decide, by decide, by decide, by decide, by decide, by decide, fun n h => by cases h⟩
theorem ParsedX.no {s : List UInt8} {x : XI} (h : ParsedX s x false) : ParsedR s zeroX 4 :=
  ⟨zeroX_in, .inr ⟨rfl, rfl, fun z h1 h2 h3 => by have := (h.back z h1 h2 h3).1; cases this⟩⟩
theorem ParsedX.ok {s : List UInt8} {x : XI} (h : ParsedX s x true) : ParsedR s x 0 :=
  ⟨h.in_, .inl ⟨rfl, (h.yes rfl).1, (h.yes rfl).2, fun z h1 h2 h3 => (h.back z h1 h2 h3).2⟩⟩
/-- what Parse leaves -/
def ParsePost (s : List UInt8) (w : World) (e : Ending) (w' : World) : Prop :=
  ∃ (y : XI) (er : Nat) (A : Option Addr) (cl : Nat), e = .returned (.tuple #[.agg #[.int .i64 y.code, .int .u64 (y.a : Int), .int .u64 (y.b : Int), .int .i64 y.al, .slice A y.l.length cl], .int .i64 er]) ∧ Hid (ParsedR s y er) ∧ Hid (Reads w' w'.heap.size 1 A y.l.length (y.l.map U)) ∧ Hid (Below w.heap.size w w')

/-- the instruction's variable, and the result, ahead of the last test -/
structure PS (w wx : World) (g gx : Nat) (x : XI) (A : Option Addr) (cl : Nat) : Prop where
  res : wx.heap[g]? = some (.cells #[.int .i64 0, .int .u64 0, .int .u64 0, .int .i64 0, .slice none 0 0] 28 (0, 0))
  v : XV wx gx x A cl
  rd : Reads wx wx.heap.size 1 A x.l.length (x.l.map U)
  lt : g < gx
  ap : ∀ ad, A = some ad → g < ad.block
  bel : Below g w wx
theorem PS.below {w wx w' : World} {g gx : Nat} {x : XI} {A : Option Addr} {cl : Nat} (h : PS w wx g gx x A cl) (hb : Below wx.heap.size wx w') : PS w w' g gx x A cl :=
  ⟨(hb.block g (blk_lt h.res)).trans h.res, h.v.below hb (blk_lt h.v.blk), (h.rd.below hb).more hb.size, h.lt, h.ap, h.bel.trans (hb.mono (Nat.le_of_lt (blk_lt h.res)))⟩
theorem PS.of {w W7 wx : World} {g gx : Nat} {X : XI} {A : Option Addr} {cl : Nat} (hR : W7.heap[g]? = some (.cells #[.int .i64 0, .int .u64 0, .int .u64 0, .int .i64 0, .slice none 0 0] 28 (0, 0))) (ho : Only [gx] W7 wx) (hv : XV wx gx X A cl) (hr : Reads wx wx.heap.size 1 A X.l.length (X.l.map U)) (hap : ∀ ad, A = some ad → g < ad.block) (hlt : g < gx) (hb : Below g w W7) : PS w wx g gx X A cl :=
  ⟨(ho.block g (blk_lt hR) (by simp; omega)).trans hR, hv, hr, hlt, hap, hb.trans (ho.below (Nat.le_of_lt (blk_lt hR)) (by simp; omega))⟩
theorem PS.from8 {w W7 W8 wx : World} {g gx : Nat} {X : XI} {A : Option Addr} {cl : Nat} (hR : W7.heap[g]? = some (.cells #[.int .i64 0, .int .u64 0, .int .u64 0, .int .i64 0, .slice none 0 0] 28 (0, 0))) (h8 : Below W7.heap.size W7 W8) (ho : Only [gx] W8 wx) (hv : XV wx gx X A cl) (hr : Reads wx wx.heap.size 1 A X.l.length (X.l.map U)) (hap : ∀ ad, A = some ad → g < ad.block) (hlt : g < gx) (hb : Below g w W7) : PS w wx g gx X A cl :=
  PS.of ((h8.block g (blk_lt hR)).trans hR) ho hv hr hap hlt (hb.trans (h8.mono (Nat.le_of_lt (blk_lt hR))))
theorem own_at_ge {w : World} {base n c : Nat} {A : Option Addr} {e : TypeId} {xs : List Value} (h : w.ownsRow base e 1 (.slice A n c) n xs) : ∀ ad, A = some ad → base ≤ ad.block ∧ ad.block < w.heap.size := by
  intro ad hA
  subst hA
  rcases h.2 with ⟨h1, _⟩ | ⟨q, cap, cur, h1, h2, h3, _⟩
  · cases h1
  · injection h1 with h1 _ _
    injection h1 with h1
    subst h1
    exact ⟨h2, blk_lt h3⟩
set_option maxRecDepth 100000 in
theorem run_uptoU (A : Option Addr) (n c k : Nat) (hk : k ≤ n) (hn : n ≤ c) (W : World) : (Instr.sliceAt 23 (.slice A n c) none (some (.int .i64 k)) none).run Tryz.prog W = .ok (.slice A k c) W := by
  have hk0 : (0 : Int) ≤ (k : Int) := by omega
  have hkc : (k : Int) ≤ (c : Int) := by omega
  have hm : A.map (fun x => x.add 0) = A := by cases A <;> simp [Addr.add]
  go_simp
theorem reads_nil (w : World) (B : Nat) : Reads w B 1 none 0 (([] : List Nat).map U) := ⟨by simp, fun h => absurd h (by simp)⟩
theorem reads_at {W : World} {g o m : Nat} {ts : List (List UInt8)} (hm : ts.length = m) (hg : g < W.heap.size) (h : ∀ j x, ts[j]? = some x → W.cell? ⟨g, o + j, none⟩ = some (S x)) : Reads W W.heap.size 1 (some ⟨g, o, none⟩) ts.length (ts.map S) := by
  refine ⟨by simp, fun _ => ⟨_, rfl, hg, fun j u hu => ?_⟩⟩
  rw [List.getElem?_map] at hu
  cases hj : ts[j]? with
  | none => rw [hj] at hu; cases hu
  | some x =>
    rw [hj] at hu
    injection hu with hu
    subst hu
    rw [show (⟨g, o, none⟩ : Addr).add j = ⟨g, o + j, none⟩ from by unfold Addr.add; split <;> simp_all]
    exact h j x hj
structure NamedS (ok : Bool) (n : ByteArray) (c f : Int) : Prop where
  yes : ok = true → ∃ r, namedR n = some r ∧ c = r.code ∧ f = r.form
  no : ok = false → namedR n = none ∧ c = 0 ∧ f = 0
theorem form_bd {ok : Bool} {n : ByteArray} {c f : Int} (h : NamedS ok n c f) : f = 0 ∨ f = 1 ∨ f = 2 ∨ f = 3 ∨ f = 4 ∨ f = 5 ∨ f = 6 ∨ f = 7 ∨ f = 8 ∨ f = 9 ∨ f = 10 ∨ f = 11 := by
  cases ok with
  | false => exact .inl (h.no rfl).2.2
  | true =>
    obtain ⟨r, hr, _, hf⟩ := h.yes rfl
    have h1 := (opRow_ref (allRows_opRow r (namedR_some hr).1)).2.1
    rw [hf, h1]
    exact refForm_bd r.code
theorem built_of {ok : Bool} {n : ByteArray} {c f : Int} {ts : List (List UInt8)} {ns : List Nat} (h : NamedS ok n c f) (X : XI)
    (hX : ∀ r : OpRow, r.form = f → r.code = c → buildX r ts ns = X) (h0 : f = 0 → X = ⟨c, 0, 0, 0, []⟩) : (ok = true → ∃ r, namedR n = some r ∧ X = buildX r ts ns) ∧ (ok = false → X.In) := by
  refine ⟨fun hk => ?_, fun hk => ?_⟩
  · obtain ⟨r, hr, hc, hf⟩ := h.yes hk
    exact ⟨r, hr, (hX r hf.symm hc.symm).symm⟩
  · obtain ⟨_, hc, hf⟩ := h.no hk
    rw [h0 hf, hc]
    exact zeroX_in
theorem reads_only1 {w w' : World} {gx n : Nat} {A : Option Addr} {xs : List Value} (h : Reads w w.heap.size 1 A n xs) (ho : Only [gx] w w') (ha : ∀ ad, A = some ad → ad.block ≠ gx) : Reads w' w'.heap.size 1 A n xs := by
  refine ⟨h.1, fun hn => ?_⟩
  obtain ⟨ad, rfl, hlt, hcell⟩ := h.2 hn
  exact ⟨ad, rfl, Nat.lt_of_lt_of_le hlt ho.size, fun j u hu => ho.cell_some (hcell j u hu) (by rw [block_of_add]; simpa using ha ad rfl)⟩
theorem build3 {r : OpRow} {ts : List (List UInt8)} {ns : List Nat} {c : Int} {L a : Nat} (h1 : r.form = 3) (h2 : r.code = c) (hl : ns.length - 1 = L) (ha : ns.getD L 0 = a) : buildX r ts ns = ⟨c, a, 0, 0, ns.take L⟩ := by
  unfold buildX
  rw [h1, h2, hl, ha, if_neg (by decide), if_neg (by decide), if_pos rfl]
theorem build8 {r : OpRow} {ts : List (List UInt8)} {ns : List Nat} {c : Int} {a b d : Nat} (h1 : r.form = 8) (h2 : r.code = c) (ha : ns.getD 0 0 = a) (hb : ns.getD 1 0 = b) (hd : ns.getD 2 0 = d) : buildX r ts ns = ⟨c, a, b, min (d : Int) 31, []⟩ := by
  unfold buildX
  rw [h1, h2, ha, hb, hd, if_neg (by decide), if_neg (by decide), if_neg (by decide), if_neg (by decide), if_pos rfl]
  have e : ((min d 31 : Nat) : Int) = min (d : Int) 31 := by omega
  rw [e]
theorem xv_set1 {w : World} {g : Nat} {x : XI} {A : Option Addr} {cl : Nat} (h : XV w g x A cl) (a : Nat) : XV (w.setCell ⟨g, 1, none⟩ (.int .u64 (a : Int))) g { x with a := a } A cl := ⟨by rw [setCell_blk h.blk]; rfl⟩
theorem xv_set2 {w : World} {g : Nat} {x : XI} {A : Option Addr} {cl : Nat} (h : XV w g x A cl) (a : Nat) : XV (w.setCell ⟨g, 2, none⟩ (.int .u64 (a : Int))) g { x with b := a } A cl := ⟨by rw [setCell_blk h.blk]; rfl⟩
theorem xv_set3 {w : World} {g : Nat} {x : XI} {A : Option Addr} {cl : Nat} (h : XV w g x A cl) (a : Int) : XV (w.setCell ⟨g, 3, none⟩ (.int .i64 a)) g { x with al := a } A cl := ⟨by rw [setCell_blk h.blk]; rfl⟩
theorem xv_set4 {w : World} {g : Nat} {x : XI} {A : Option Addr} {cl : Nat} (h : XV w g x A cl) (A' : Option Addr) (l : List Nat) (c : Nat) : XV (w.setCell ⟨g, 4, none⟩ (.slice A' l.length c)) g { x with l := l } A' c := ⟨by rw [setCell_blk h.blk]; rfl⟩
theorem only_set (w : World) (g i : Nat) (u : Value) : Only [g] w (w.setCell ⟨g, i, none⟩ u) := Only.setCell w (p := ⟨g, i, none⟩) (by simp) u
section
variable {P : Program} {o : Oper} {ρ : Operand → Value} {W W' : World} {post : Value → World → Prop} {v : Value}
theorem OpOut.clo {x : Operand} {f : FuncId} {fn : Func} {xs : Array Operand} {ts : Array TypeId} {args cap : Array Value} (ho : o.op = .call { callee := .value x, args := xs, argTypes := ts }) (hf : ρ x = .func (.func f) #[] cap) (ha : xs.map ρ = args)
    (h1 : P.funcs[f]? = some fn) (h2 : (fn.name == "runtime.NumGoroutine") = false) (h3 : fn.body.isNone = false) (hc : Calls P f (args ++ cap) W (fun e w'' => ∃ v, e = .returned v ∧ post v w'')) : OpOut P o ρ W post :=
  OpOut.call (f := f) (args := args ++ cap) (by
    have hcf : (callFunc f (args ++ cap)).run P W = .ok (.enter f (args ++ cap)) W := by
      unfold callFunc
      have h2' : ¬ fn.name = "runtime.NumGoroutine" := by simpa using h2
      have h3' : ¬ fn.body = none := fun e => by rw [e] at h3; cases h3
      simp [h1, h2', h3']
    unfold execOp
    rw [ho]
    simp [resolve, hf, ha, Deferred.ofValue, invoke, hcf]) hc
theorem OpOut.sliceTo {t : TypeId} {x y : Operand} {a b : Value} (ho : o.op = .slice t x none (some y) none) (hx : ρ x = a) (hy : ρ y = b) (hr : (Instr.sliceAt t a none (some b) none).run P W = .ok v W) (h : post v W) : OpOut P o ρ W post :=
  ⟨by unfold execOp; rw [ho]; simp only [hx, hy, Option.map_none, Option.map_some, Sem.run_bind, Sem.run_pure, hr, Result.andThen_ok]; exact h⟩
theorem OpOut.sliceFrom {t : TypeId} {x y : Operand} {a b : Value} (ho : o.op = .slice t x (some y) none none) (hx : ρ x = a) (hy : ρ y = b) (hr : (Instr.sliceAt t a (some b) none none).run P W = .ok v W) (h : post v W) : OpOut P o ρ W post :=
  ⟨by unfold execOp; rw [ho]; simp only [hx, hy, Option.map_none, Option.map_some, Sem.run_bind, Sem.run_pure, hr, Result.andThen_ok]; exact h⟩
theorem OpOut.store {t : TypeId} {x y : Operand} {a b : Value} (ho : o.op = .store t x y) (hx : ρ x = a) (hy : ρ y = b) (hr : (Instr.storeAt t a b).run P W = .ok () W') (h : post undef W') : OpOut P o ρ W post :=
  ⟨by unfold execOp; rw [ho]; simp only [hx, hy, Sem.run_bind, Sem.run_pure, hr, Result.andThen_ok]; exact h⟩
end
/-- a struct of five cells, stored -/
theorem ins_put {w : World} {g : Nat} {a b c d e : Value} (h : w.heap[g]? = some (.cells #[a, b, c, d, e] 28 (0, 0))) (a' b' c' d' e' : Value) :
    ∃ W : World, ((((w.setCell ⟨g, 0, none⟩ a').setCell ⟨g, 1, none⟩ b').setCell ⟨g, 2, none⟩ c').setCell ⟨g, 3, none⟩ d').setCell ⟨g, 4, none⟩ e' = W ∧ Only [g] w W ∧ W.heap[g]? = some (.cells #[a', b', c', d', e'] 28 (0, 0)) := by
  refine ⟨_, rfl, ((((Only.setCell w (p := ⟨g, 0, none⟩) (by simp) a').trans (Only.setCell _ (p := ⟨g, 1, none⟩) (by simp) b')).trans (Only.setCell _ (p := ⟨g, 2, none⟩) (by simp) c')).trans (Only.setCell _ (p := ⟨g, 3, none⟩) (by simp) d')).trans (Only.setCell _ (p := ⟨g, 4, none⟩) (by simp) e'), ?_⟩
  rw [setCell_blk (setCell_blk (setCell_blk (setCell_blk (setCell_blk h 0 _) 1 _) 2 _) 3 _) 4 _]
  rfl

set_option maxRecDepth 100000 in
set_option maxHeartbeats 20000000 in
theorem parseX_any (s : List UInt8) (w : World) (hs : Hid (s.length ≤ 400 ∨ ∃ z : XI, z.In ∧ rightX z = true ∧ printX z = s)) (ht : Hid (LaidI w)) :
    Calls Tryz.prog 12 #[.string ⟨s.toArray⟩] w (ParsePost s w) := by
  obtain ⟨w0, ts, hw⟩ : ∃ w0 ts, wordsS s = w0 :: ts := by
    cases h : wordsS s with
    | nil => have := wordsS_len s; rw [h] at this; simp at this
    | cons a b => exact ⟨a, b, rfl⟩
  obtain ⟨b1, b2, b3, b4⟩ := parse_bounds hs.out hw
  obtain ⟨g, hg⟩ : ∃ g, w.heap.size = g := ⟨_, rfl⟩
  obtain ⟨w1, hw1⟩ : ∃ x, w.alloc (.cells #[.int .i64 0, .int .u64 0, .int .u64 0, .int .i64 0, .slice none 0 0] 28) = x := ⟨_, rfl⟩
  have hB1 : Below w.heap.size w w1 := by rw [← hw1]; exact (Below.refl _ _).alloc (Nat.le_refl _) _
  have hx1 : w1.heap[g]? = some (.cells #[.int .i64 0, .int .u64 0, .int .u64 0, .int .i64 0, .slice none 0 0] 28 (0, 0)) := by rw [← hw1, ← hg]; exact heap_alloc_new w _
  have hz1 : w1.heap.size = g + 1 := by rw [← hw1, ← hg]; simp
  have hSP := splitI_any s w1 (by omega) (hide (ht.out.below hB1))
  obtain ⟨m, hm⟩ : ∃ m, ts.length = m := ⟨_, rfl⟩
  obtain ⟨w2, hw2⟩ : ∃ x, w1.alloc (.cells ((w0 :: ts).map S).toArray 9) = x := ⟨_, rfl⟩
  have hB2 : Below w1.heap.size w1 w2 := by rw [← hw2]; exact (Below.refl _ _).alloc (Nat.le_refl _) _
  have hx2 : w2.heap[g + 1]? = some (.cells ((w0 :: ts).map S).toArray 9 (0, 0)) := by rw [← hw2, ← hz1]; exact heap_alloc_new w1 _
  have hz2 : w2.heap.size = g + 2 := by rw [← hw2]; simp [hz1]
  rw [hw, hw2, hz1, List.length_cons, hm] at hSP
  have hx2r : w2.heap[g]? = some (.cells #[.int .i64 0, .int .u64 0, .int .u64 0, .int .i64 0, .slice none 0 0] 28 (0, 0)) := (hB2.block g (by omega)).trans hx1
  have hBw2 : Below g w w2 := by rw [← hg]; exact hB1.trans (hB2.mono (by omega))
  have hc0 : w2.cell? ⟨g + 1, 0, none⟩ = some (.string ⟨w0.toArray⟩) := cell_blk hx2 0
  have HNM := hide (fun W => named_any ⟨w0.toArray⟩ W)
  have HSP := hide hSP; have HW1 := hide hw1; have HG := hide hg; have HX := hide hx2; have HXR := hide hx2r; have HBW2 := hide hBw2; have HZ2 := hide hz2; have HWS := hide hw; have HM := hide hm; have HB4 := hide b4; have HB2 := hide b2
  have hm3 : m ≤ 2300 := by omega
  clear hg hw1 hB1 hx1 hz1 hSP hw2 hB2 hx2 hz2 hx2r hBw2 hw hm b4 b2 b1 b3 hs
  go_enter Tryz.func12, Tryz.ntmps12
  go_upto_region 1 with fail
  rw [HW1.out, HG.out]
  go_wp2_with fail
  refine HSP.out.mono ?_; rintro e w2' ⟨rfl, rfl⟩
  go_wp2_with fail
  refine (HNM.out _).mono ?_; rintro e w3 ⟨c, f, nv, A1, A2, n1, c1, n2, c2, ok, rfl, hnm, h3⟩
  have HNM2 : NamedS ok ⟨w0.toArray⟩ c f := ⟨fun h => by obtain ⟨r, k1, k2, _, k3⟩ := hnm.out.1 h; exact ⟨r, k1, k2, k3⟩, hnm.out.2⟩
  clear HNM hnm
  obtain ⟨o, ho⟩ : ∃ o, (if m = 0 then 0 else 1) = o := ⟨_, rfl⟩
  have HTS : Hid (∀ j x, ts[j]? = some x → w2'.cell? ⟨g + 1, o + j, none⟩ = some (S x)) := by
    show ∀ j x, _
    intro j x hj
    have h0 : m ≠ 0 := by have := (List.getElem?_eq_some_iff.1 hj).1; have := HM.out; omega
    rw [if_neg h0] at ho
    subst ho
    rw [cell_blk HX.out (1 + j)]
    simp [List.getElem?_cons, hj]
  have hsl : ∀ W, (Instr.sliceAt 67 (.slice (some ⟨g + 1, 0, none⟩) (m + 1) (m + 1)) (some (.int .i64 1)) none none).run Tryz.prog W = .ok (.slice (some ⟨g + 1, o, none⟩) m m) W := by
    intro W
    by_cases h0 : m = 0
    · subst h0
      subst ho
      go_simp
    · rw [if_neg h0] at ho
      subst ho
      have h1 : ¬ (m + 1 = 1) := by omega
      go_simp
      intro h
      exfalso
      omega
  have HO := hide ho
  clear ho
  obtain ⟨gi, hgi⟩ : ∃ gi, w3.heap.size = gi := ⟨_, rfl⟩
  obtain ⟨W4, hW4⟩ : ∃ W4, w3.alloc (.cells #[.int .i64 c, .string nv, .int .i64 f, .slice A1 n1 c1, .slice A2 n2 c2] 63) = W4 := ⟨_, rfl⟩
  have hb34 : Below w3.heap.size w3 W4 := by rw [← hW4]; exact (Below.refl _ _).alloc (Nat.le_refl _) _
  have hI4 : Hid (W4.heap[gi]? = some (.cells #[.int .i64 c, .string nv, .int .i64 f, .slice A1 n1 c1, .slice A2 n2 c2] 63 (0, 0))) := by show _ = _; rw [← hW4, ← hgi]; exact heap_alloc_new w3 _
  have hb24 : Below (g + 2) w2' W4 := by
    have h := h3.out
    rw [HZ2.out] at h
    have := h.size
    have hz := HZ2.out
    exact h.trans (hb34.mono (by omega))
  have hgi2 : g + 2 ≤ gi := by have := h3.out.size; have := HZ2.out; omega
  have hgi4 : gi + 1 ≤ W4.heap.size := blk_lt hI4.out
  have HB24 := hide hb24; have HW4 := hide hW4; have HGI := hide hgi
  have hrd4 : Hid (Reads W4 W4.heap.size 1 (some ⟨g + 1, o, none⟩) ts.length (ts.map S)) := by
    refine ⟨by simp, fun _ => ⟨_, rfl, by simp only; omega, fun j u hu => ?_⟩⟩
    rw [List.getElem?_map] at hu
    cases hj : ts[j]? with
    | none => rw [hj] at hu; cases hu
    | some x =>
      rw [hj] at hu
      injection hu with hu
      subst hu
      rw [show (⟨g + 1, o, none⟩ : Addr).add j = ⟨g + 1, o + j, none⟩ from by unfold Addr.add; split <;> simp_all]
      exact (hb24.cell (p := ⟨g + 1, o + j, none⟩) (by simp only; omega)).trans (HTS.out j x hj)
  have hbw4 : Hid (Below g w W4) := HBW2.out.trans (hb24.mono (by omega))
  have hWD := insWords_any (some ⟨g + 1, o, none⟩) m ts W4 hrd4 (by rw [HM.out]; omega) (hide fun t h => HB2.out t (by simp [h])) (hide (LaidI.below ht.out (by rw [HG.out]; exact hbw4.out)).c)
  rw [HM.out] at hWD
  have HWD := hide hWD
  clear hb34 hb24 hW4 hgi hWD h3 hc0
  go_upto_region 3 with fail
  rw [HW4.out, HGI.out]
  go_wp2_with fail
  refine HWD.out.mono ?_; rintro e w5 ⟨A3, c3, ns, rfl, ho5, hns, h5⟩
  clear HWD
  obtain ⟨gn, hgn⟩ : ∃ gn, w5.heap.size = gn := ⟨_, rfl⟩
  obtain ⟨W6, hW6⟩ : ∃ W6, w5.alloc (.cells #[.slice A3 m c3] 23) = W6 := ⟨_, rfl⟩
  have hN6 : W6.heap[gn]? = some (.cells #[.slice A3 m c3] 23 (0, 0)) := by rw [← hW6, ← hgn]; exact heap_alloc_new w5 _
  have hb56 : Below gn w5 W6 := by rw [← hW6, ← hgn]; exact (Below.refl _ _).alloc (Nat.le_refl _) _
  have hz6 : W6.heap.size = gn + 1 := by rw [← hW6, ← hgn]; simp
  have hgn2 : gi + 1 ≤ gn := by have := h5.out.size; omega
  have hc4 : W6.cell? ⟨gi, 0, none⟩ = some (.int .i64 c) := cell_blk ((hb56.block gi (by omega)).trans ((h5.out.block gi (by omega)).trans hI4.out)) 0
  have HW6 := hide hW6; have HGN := hide hgn; have HN6 := hide hN6; have HZ6 := hide hz6; have HB56 := hide hb56
  clear hW6 hgn hN6 hz6 hb56
  go_upto_region 4 with fail
  rw [HW6.out, HGN.out]
  obtain ⟨gx, hgx⟩ : ∃ gx, W6.heap.size = gx := ⟨_, rfl⟩
  obtain ⟨W7, hW7⟩ : ∃ W7, W6.alloc (.cells #[.int .i64 c, .int .u64 0, .int .u64 0, .int .i64 0, .slice none 0 0] 28) = W7 := ⟨_, rfl⟩
  have hb67 : Below gx W6 W7 := by rw [← hW7, ← hgx]; exact (Below.refl _ _).alloc (Nat.le_refl _) _
  have hX7 : XV W7 gx ⟨c, 0, 0, 0, []⟩ none 0 := ⟨by rw [← hW7, ← hgx]; exact heap_alloc_new W6 _⟩
  have hgx2 : gn < gx := by rw [← hgx, HZ6.out]; omega
  have hb47 : Below (gi + 1) W4 W7 := ((h5.out.mono hgi4).trans (HB56.out.mono hgn2)).trans (hb67.mono (by omega))
  have hI7 : Hid (W7.heap[gi]? = some (.cells #[.int .i64 c, .string nv, .int .i64 f, .slice A1 n1 c1, .slice A2 n2 c2] 63 (0, 0))) := (hb47.block gi (by omega)).trans hI4.out
  have hN7 : Hid (W7.heap[gn]? = some (.cells #[.slice A3 m c3] 23 (0, 0))) := (hb67.block gn (by omega)).trans HN6.out
  have hR7 : Hid (W7.heap[g]? = some (.cells #[.int .i64 0, .int .u64 0, .int .u64 0, .int .i64 0, .slice none 0 0] 28 (0, 0))) := (hb47.block g (by omega)).trans ((HB24.out.block g (by omega)).trans HXR.out)
  have ho7 : Hid (W7.ownsRow W4.heap.size 22 1 (.slice A3 m c3) m (ns.map U)) := by
    have h1 := own_only3 (S := []) ho5.out (Only.of_below (by rw [HGN.out]; exact HB56.out)) (by simp)
    exact own_only3 (S := []) h1 (Only.of_below (by rw [hgx]; exact hb67)) (by simp)
  have hT7 : Hid (∀ j x, ts[j]? = some x → W7.cell? ⟨g + 1, o + j, none⟩ = some (S x)) := by
    show ∀ j x, _
    intro j x hj
    exact (hb47.cell (p := ⟨g + 1, o + j, none⟩) (by simp only; omega)).trans ((HB24.out.cell (p := ⟨g + 1, o + j, none⟩) (by simp only; omega)).trans (HTS.out j x hj))
  have hbw7 : Hid (Below g w W7) := hbw4.out.trans (hb47.mono (by omega))
  have hsz7 : gx < W7.heap.size := blk_lt hX7.blk
  have HX7 := hide hX7; have HW7 := hide hW7; have HGX := hide hgx
  have hnl : Hid (ns.length = m) := by have := hns.out.len; have := HM.out; show _ = _; omega
  have HAG : Hid (∀ ad, A3 = some ad → g < ad.block ∧ ad.block < gx) := fun ad hA => by
    have := own_at_ge ho5.out ad hA
    have := HGN.out
    omega
  have hmc : m ≤ c3 := by
    obtain ⟨A', c', e1, e2, _⟩ := own_form ho5.out
    injection e1 with _ _ e1
    omega
  clear hb67 hX7 hW7 hgx hb47 ho5 h5 hI4 hrd4 hbw4 HTS HB56 HN6 HW6 HXR HBW2 HZ2 HX
  go_upto_region 5 with fail
  rw [HW7.out, HGX.out]
  have hmf : ∀ (fn : Fn) (first cap : Array Value) (w : World), (Instr.makeFunc fn first cap).run Tryz.prog w = .ok (.func fn first cap) w := fun _ _ _ _ => rfl
  have hi0 : W7.cell? ⟨gi, 0, none⟩ = some (.int .i64 c) := cell_blk hI7.out 0
  have hi2 : W7.cell? ⟨gi, 2, none⟩ = some (.int .i64 f) := cell_blk hI7.out 2
  clear hc4
  go_upto_block 0 with fail
  go_cut [] (fun wx => ∃ (X : XI) (A : Option Addr) (cl : Nat), Hid (PS w wx g gx X A cl) ∧ Hid ((ok = true → ∃ r, namedR ⟨w0.toArray⟩ = some r ∧ X = buildX r ts ns) ∧ (ok = false → X.In)))
  case first =>
    have hfb := form_bd HNM2
    have hX7 := HX7.out
    have z0 := frozen_blk hX7.blk 0
    have z1 := frozen_blk hX7.blk 1
    have z2 := frozen_blk hX7.blk 2
    have z3 := frozen_blk hX7.blk 3
    have z4 := frozen_blk hX7.blk 4
    obtain ⟨l0, l1, l2, l3, l4⟩ := hX7.cs
    simp only at l0 l1 l2 l3 l4
    have HAT : Hid (∀ k : Nat, k ≤ 100000 → Calls Tryz.prog 37 #[.int .i64 k, .pointer (some ⟨gn, 0, none⟩)] W7 fun e w' => e = .returned (.int .u64 (ns.getD k 0 : Nat)) ∧ W7 = w') := fun k hk => insAt_any gn A3 m c3 ns k W7 hN7 (hide (Reads.of_own ho7.out)) hnl.out hk
    have hg7 : g < gx := by omega
    have HPS : Hid (∀ W8 wx X A cl, Below W7.heap.size W7 W8 → Only [gx] W8 wx → XV wx gx X A cl → Reads wx wx.heap.size 1 A X.l.length (X.l.map U) → (∀ ad, A = some ad → g < ad.block) → PS w wx g gx X A cl) := fun W8 wx X A cl h0 h1 h2 h3 h4 => PS.from8 hR7.out h0 h1 h2 h3 h4 hg7 hbw7.out
    have HNLT := hide hns.out.lt
    clear hX7
    rcases hfb with rfl | rfl | rfl | rfl | rfl | rfl | rfl | rfl | rfl | rfl | rfl | rfl
    · go_wp2_with fail
      go_meet
      refine ⟨⟨c, 0, 0, 0, []⟩, none, 0, ?_, built_of HNM2 _ (fun r h1 h2 => by unfold buildX; rw [h1, h2]; simp) (by intro h; first | rfl | (exfalso; revert h; decide))⟩
      exact HPS.out W7 W7 _ _ _ (Below.refl _ _) (Only.refl _ _) HX7.out (reads_nil _ _) (fun ad h => by cases h)
    · have HTY := hide (insTyped_any (some ⟨g + 1, o, none⟩) m ts W7 (hide (reads_at HM.out (by omega) hT7.out)) (by have := HM.out; omega))
      rw [HM.out] at HTY
      clear l0 l1 l2 l3 l4 z0 z1 z2 z3 z4
      go_wp2_with fail
      refine HTY.out.mono ?_; rintro e w8 ⟨rfl, h8⟩
      have HX8 := hide (HX7.out.below h8.out hsz7)
      obtain ⟨l0, l1, l2, l3, l4⟩ := HX8.out.cs
      have z1 := frozen_blk HX8.out.blk 1
      clear HTY
      go_wp2_with fail
      go_meet
      refine ⟨⟨c, typedL ts, 0, 0, []⟩, none, 0, ?_, built_of HNM2 _ (fun r h1 h2 => by unfold buildX; rw [h1, h2]; simp) (by intro h; first | rfl | (exfalso; revert h; decide))⟩
      exact HPS.out w8 _ _ _ _ h8.out (only_set _ _ _ _) (xv_set1 HX8.out (typedL ts)) (reads_nil _ _) (fun ad h => by cases h)
    · have HA0 := hide (HAT.out 0 (by omega))
      obtain ⟨a, ha⟩ : ∃ a, ns.getD 0 0 = a := ⟨_, rfl⟩
      rw [ha] at HA0
      have HA := hide ha
      clear ha
      go_wp2_with fail
      refine HA0.out.mono ?_; rintro e w8 ⟨rfl, rfl⟩
      clear HA0
      go_wp2_with fail
      go_meet
      refine ⟨⟨c, a, 0, 0, []⟩, none, 0, ?_, built_of HNM2 _ (fun r h1 h2 => by unfold buildX; rw [h1, h2]; simp; exact HA.out) (by intro h; first | rfl | (exfalso; revert h; decide))⟩
      exact HPS.out W7 _ _ _ _ (Below.refl _ _) (only_set _ _ _ _) (xv_set1 HX7.out a) (reads_nil _ _) (fun ad h => by cases h)
    · clear HAT
      have hmc2 := hmc
      rcases Nat.eq_zero_or_pos m with h0 | h0
      · subst h0
        obtain ⟨a, ha⟩ : ∃ a, ns.getD 0 0 = a := ⟨_, rfl⟩
        have HA := hide ha
        have HLN : Hid ((ns.take 0).length = 0) := by show _ = _; simp
        have hn0 : W7.cell? ⟨gn, 0, none⟩ = some (.slice A3 0 c3) := cell_blk hN7.out 0
        clear ha
        go_upto_region 17 with fail
        refine wp_region_factsD grew_ext (Only.ext [gx]) (fun _ _ h => Only.of_below h) [7, 9] 9 (factsOf [fun yy _ => yy = .slice A3 0 c3,
          fun yy _ => yy = .int .i64 (0 : Nat),
          fun yy _ => yy = .slice A3 0 c3,
          fun yy _ => yy = .func (.func 37) #[] #[.pointer (some ⟨gn, 0, none⟩)],
          fun yy _ => yy = .int .i64 (0 : Nat),
          fun yy _ => yy = .int .u64 (a : Int),
          fun yy _ => yy = .pointer (some ⟨gx, 4, none⟩),
          fun _ W => XV W gx ⟨c, 0, 0, 0, ns.take 0⟩ A3 c3 ∧ Only [gx] W7 W,
          fun yy _ => yy = .pointer (some ⟨gx, 1, none⟩),
          fun _ W => XV W gx ⟨c, a, 0, 0, ns.take 0⟩ A3 c3 ∧ Only [gx] W7 W]) (by kernel_rfl) (by kernel_rfl) (by kernel_rfl) (by decide) rfl (by decide) (by kernel_rfl) (by intro i v w hd hF; rcases i with _ | _ | _ | _ | _ | _ | _ | _ | _ | _ | i <;> first | exact hF | exact absurd hd (by simp)) ?_ ?_
        · refine ⟨?_, ?_, ?_, ?_, ?_, ?_, ?_, ?_, ?_, ?_, trivial⟩
          · refine ObD.plain (by decide) rfl fun ρ W hk => ?_
            have o7 : ρ (.tmp 7) = .pointer (some ⟨gn, 0, none⟩) := hk.old 7 (by decide)
            have hc : W.cell? ⟨gn, 0, none⟩ = some (.slice A3 0 c3) := cell_blk ((hk.below.block gn (blk_lt hN7.out) (by simp; omega)).trans hN7.out) 0
            exact OpOut.load (x := .tmp 7) rfl o7 (by go_simp) ⟨Below.refl _ _, rfl⟩
          · refine ObD.plain (by decide) rfl fun ρ W hk => ?_
            exact OpOut.move (.tmp 10) rfl ⟨Below.refl _ _, hk.old 10 (by decide)⟩
          · refine ObD.plain (by decide) rfl fun ρ W hk => ?_
            have h0 := (hk.fact 0 50 (by decide) rfl).pure
            have h1 := (hk.fact 1 51 (by decide) rfl).pure
            exact OpOut.sliceTo (x := .tmp 50) (y := .tmp 51) rfl h0 h1 (run_uptoU A3 0 c3 0 (by omega) (by omega) W) ⟨Below.refl _ _, rfl⟩
          · refine ObD.plain (by decide) rfl fun ρ W hk => ?_
            exact OpOut.move (.tmp 9) rfl ⟨Below.refl _ _, hk.old 9 (by decide)⟩
          · refine ObD.plain (by decide) rfl fun ρ W hk => ?_
            exact OpOut.move (.tmp 10) rfl ⟨Below.refl _ _, hk.old 10 (by decide)⟩
          · refine ObD.plain (by decide) rfl fun ρ W hk => ?_
            have h3 := (hk.fact 3 53 (by decide) rfl).pure
            have h4 := (hk.fact 4 54 (by decide) rfl).pure
            have hN : Hid (W.heap[gn]? = some (.cells #[.slice A3 0 c3] 23 (0, 0))) := (hk.below.block gn (blk_lt hN7.out) (by simp; omega)).trans hN7.out
            have hR : Hid (Reads W W.heap.size 1 A3 0 (ns.map U)) := reads_only1 (Reads.of_own ho7.out) hk.below (fun ad hA => by have := (HAG.out ad hA).2; omega)
            refine OpOut.clo (x := .tmp 53) (args := #[.int .i64 (0 : Nat)]) rfl h3 (by simp [h4]) Tryz.func37 (by kernel_rfl) rfl ?_
            refine (insAt_any gn A3 0 c3 ns 0 W hN hR hnl.out (by omega)).mono ?_
            rintro e w5 ⟨rfl, rfl⟩
            exact ⟨_, rfl, Below.refl _ _, by rw [HA.out]; rfl⟩
          · refine ObD.plain (by decide) rfl fun ρ W hk => ?_
            have o8 : ρ (.tmp 8) = .pointer (some ⟨gx, 0, none⟩) := hk.old 8 (by decide)
            exact OpOut.fieldAddr (x := .tmp 8) rfl o8 (by go_simp) ⟨Below.refl _ _, rfl⟩
          · refine ObD.first rfl rfl fun ρ W hk hk0 => ?_
            have h2 := (hk.fact 2 52 (by decide) rfl).pure
            have h6 := (hk.fact 6 56 (by decide) rfl).pure
            have hX := HX7.out.below hk0.below hsz7
            have c4 := cell_blk hX.blk 4
            simp at c4
            have f4 := frozen_blk hX.blk 4
            refine OpOut.store (x := .tmp 56) (y := .tmp 52) (W' := W.setCell ⟨gx, 4, none⟩ (.slice A3 0 c3)) rfl h6 h2 (by go_simp) ⟨only_set _ _ _ _, ?_, (Only.of_below hk0.below).trans (only_set _ _ _ _)⟩
            have := xv_set4 hX A3 (ns.take 0) c3
            rw [HLN.out] at this
            exact this
          · refine ObD.plain (by decide) rfl fun ρ W hk => ?_
            have o8 : ρ (.tmp 8) = .pointer (some ⟨gx, 0, none⟩) := hk.old 8 (by decide)
            exact OpOut.fieldAddr (x := .tmp 8) rfl o8 (by go_simp) ⟨Below.refl _ _, rfl⟩
          · refine ObD.nextN 0 7 rfl rfl rfl rfl fun ρ W hk hw => ?_
            obtain ⟨w6, hw6, hx6, hon6⟩ := hw
            have h5 := (hk.fact 5 55 (by decide) rfl).pure
            have h8 := (hk.fact 8 57 (by decide) rfl).pure
            have hX := hx6.below hw6 (blk_lt hx6.blk)
            have c1' := cell_blk hX.blk 1
            simp at c1'
            have f1 := frozen_blk hX.blk 1
            exact OpOut.store (x := .tmp 57) (y := .tmp 55) (W' := W.setCell ⟨gx, 1, none⟩ (.int .u64 (a : Int))) rfl h8 h5 (by go_simp) ⟨only_set _ _ _ _, xv_set1 hX a, (hon6.trans (Only.of_below hw6)).trans (only_set _ _ _ _)⟩
        · intro vs W2 hb2 hf hl9
          obtain ⟨w6, hw6, hx6, hon6⟩ := hl9
          have HX6 := hide (hx6.below hw6 (blk_lt hx6.blk))
          have HO6 := hide (hon6.trans (Only.of_below hw6))
          clear hf hw6 hx6 hon6 hb2
          simp only [fillL]
          generalize vs 0 = y0, vs 1 = y1, vs 2 = y2, vs 3 = y3, vs 4 = y4, vs 5 = y5, vs 6 = y6, vs 7 = y7, vs 8 = y8, vs 9 = y9
          go_frame
          go_wp2_with fail
          go_meet
          refine ⟨⟨c, a, 0, 0, ns.take 0⟩, A3, c3, ?_, built_of HNM2 _ (fun r h1 h2 => build3 h1 h2 (by have := hnl.out; omega) HA.out) (by intro h; exfalso; revert h; decide)⟩
          refine HPS.out W7 _ _ _ _ (Below.refl _ _) HO6.out HX6.out ?_ (fun ad hA => (HAG.out ad hA).1)
          have h0 : Reads W7 W7.heap.size 1 A3 0 ((ns.map U).take (0 * 1)) := (Reads.of_own ho7.out).upto (by omega)
          rw [Nat.mul_one, ← List.map_take] at h0
          simp only
          rw [HLN.out]
          exact reads_only1 h0 HO6.out (fun ad hA => by have := (HAG.out ad hA).2; omega)
      · obtain ⟨k, hk⟩ : ∃ k, m = k + 1 := ⟨m - 1, by omega⟩
        subst hk
        clear h0
        obtain ⟨a, ha⟩ : ∃ a, ns.getD k 0 = a := ⟨_, rfl⟩
        have HA := hide ha
        have HLN : Hid ((ns.take k).length = k) := by show _ = _; rw [List.length_take]; have := hnl.out; omega
        have hn0 : W7.cell? ⟨gn, 0, none⟩ = some (.slice A3 (k + 1) c3) := cell_blk hN7.out 0
        clear ha
        go_upto_region 17 with fail
        refine wp_region_factsD grew_ext (Only.ext [gx]) (fun _ _ h => Only.of_below h) [7, 9] 9 (factsOf [fun yy _ => yy = .slice A3 (k + 1) c3,
          fun yy _ => yy = .int .i64 (k : Nat),
          fun yy _ => yy = .slice A3 k c3,
          fun yy _ => yy = .func (.func 37) #[] #[.pointer (some ⟨gn, 0, none⟩)],
          fun yy _ => yy = .int .i64 (k : Nat),
          fun yy _ => yy = .int .u64 (a : Int),
          fun yy _ => yy = .pointer (some ⟨gx, 4, none⟩),
          fun _ W => XV W gx ⟨c, 0, 0, 0, ns.take k⟩ A3 c3 ∧ Only [gx] W7 W,
          fun yy _ => yy = .pointer (some ⟨gx, 1, none⟩),
          fun _ W => XV W gx ⟨c, a, 0, 0, ns.take k⟩ A3 c3 ∧ Only [gx] W7 W]) (by kernel_rfl) (by kernel_rfl) (by kernel_rfl) (by decide) rfl (by decide) (by kernel_rfl) (by intro i v w hd hF; rcases i with _ | _ | _ | _ | _ | _ | _ | _ | _ | _ | i <;> first | exact hF | exact absurd hd (by simp)) ?_ ?_
        · refine ⟨?_, ?_, ?_, ?_, ?_, ?_, ?_, ?_, ?_, ?_, trivial⟩
          · refine ObD.plain (by decide) rfl fun ρ W hk => ?_
            have o7 : ρ (.tmp 7) = .pointer (some ⟨gn, 0, none⟩) := hk.old 7 (by decide)
            have hc : W.cell? ⟨gn, 0, none⟩ = some (.slice A3 (k + 1) c3) := cell_blk ((hk.below.block gn (blk_lt hN7.out) (by simp; omega)).trans hN7.out) 0
            exact OpOut.load (x := .tmp 7) rfl o7 (by go_simp) ⟨Below.refl _ _, rfl⟩
          · refine ObD.plain (by decide) rfl fun ρ W hk => ?_
            exact OpOut.move (.tmp 10) rfl ⟨Below.refl _ _, hk.old 10 (by decide)⟩
          · refine ObD.plain (by decide) rfl fun ρ W hk => ?_
            have h0 := (hk.fact 0 50 (by decide) rfl).pure
            have h1 := (hk.fact 1 51 (by decide) rfl).pure
            exact OpOut.sliceTo (x := .tmp 50) (y := .tmp 51) rfl h0 h1 (run_uptoU A3 (k + 1) c3 k (by omega) (by omega) W) ⟨Below.refl _ _, rfl⟩
          · refine ObD.plain (by decide) rfl fun ρ W hk => ?_
            exact OpOut.move (.tmp 9) rfl ⟨Below.refl _ _, hk.old 9 (by decide)⟩
          · refine ObD.plain (by decide) rfl fun ρ W hk => ?_
            exact OpOut.move (.tmp 10) rfl ⟨Below.refl _ _, hk.old 10 (by decide)⟩
          · refine ObD.plain (by decide) rfl fun ρ W hk => ?_
            have h3 := (hk.fact 3 53 (by decide) rfl).pure
            have h4 := (hk.fact 4 54 (by decide) rfl).pure
            have hN : Hid (W.heap[gn]? = some (.cells #[.slice A3 (k + 1) c3] 23 (0, 0))) := (hk.below.block gn (blk_lt hN7.out) (by simp; omega)).trans hN7.out
            have hR : Hid (Reads W W.heap.size 1 A3 (k + 1) (ns.map U)) := reads_only1 (Reads.of_own ho7.out) hk.below (fun ad hA => by have := (HAG.out ad hA).2; omega)
            refine OpOut.clo (x := .tmp 53) (args := #[.int .i64 (k : Nat)]) rfl h3 (by simp [h4]) Tryz.func37 (by kernel_rfl) rfl ?_
            refine (insAt_any gn A3 (k + 1) c3 ns k W hN hR hnl.out (by omega)).mono ?_
            rintro e w5 ⟨rfl, rfl⟩
            exact ⟨_, rfl, Below.refl _ _, by rw [HA.out]; rfl⟩
          · refine ObD.plain (by decide) rfl fun ρ W hk => ?_
            have o8 : ρ (.tmp 8) = .pointer (some ⟨gx, 0, none⟩) := hk.old 8 (by decide)
            exact OpOut.fieldAddr (x := .tmp 8) rfl o8 (by go_simp) ⟨Below.refl _ _, rfl⟩
          · refine ObD.first rfl rfl fun ρ W hk hk0 => ?_
            have h2 := (hk.fact 2 52 (by decide) rfl).pure
            have h6 := (hk.fact 6 56 (by decide) rfl).pure
            have hX := HX7.out.below hk0.below hsz7
            have c4 := cell_blk hX.blk 4
            simp at c4
            have f4 := frozen_blk hX.blk 4
            refine OpOut.store (x := .tmp 56) (y := .tmp 52) (W' := W.setCell ⟨gx, 4, none⟩ (.slice A3 k c3)) rfl h6 h2 (by go_simp) ⟨only_set _ _ _ _, ?_, (Only.of_below hk0.below).trans (only_set _ _ _ _)⟩
            have := xv_set4 hX A3 (ns.take k) c3
            rw [HLN.out] at this
            exact this
          · refine ObD.plain (by decide) rfl fun ρ W hk => ?_
            have o8 : ρ (.tmp 8) = .pointer (some ⟨gx, 0, none⟩) := hk.old 8 (by decide)
            exact OpOut.fieldAddr (x := .tmp 8) rfl o8 (by go_simp) ⟨Below.refl _ _, rfl⟩
          · refine ObD.nextN 0 7 rfl rfl rfl rfl fun ρ W hk hw => ?_
            obtain ⟨w6, hw6, hx6, hon6⟩ := hw
            have h5 := (hk.fact 5 55 (by decide) rfl).pure
            have h8 := (hk.fact 8 57 (by decide) rfl).pure
            have hX := hx6.below hw6 (blk_lt hx6.blk)
            have c1' := cell_blk hX.blk 1
            simp at c1'
            have f1 := frozen_blk hX.blk 1
            exact OpOut.store (x := .tmp 57) (y := .tmp 55) (W' := W.setCell ⟨gx, 1, none⟩ (.int .u64 (a : Int))) rfl h8 h5 (by go_simp) ⟨only_set _ _ _ _, xv_set1 hX a, (hon6.trans (Only.of_below hw6)).trans (only_set _ _ _ _)⟩
        · intro vs W2 hb2 hf hl9
          obtain ⟨w6, hw6, hx6, hon6⟩ := hl9
          have HX6 := hide (hx6.below hw6 (blk_lt hx6.blk))
          have HO6 := hide (hon6.trans (Only.of_below hw6))
          clear hf hw6 hx6 hon6 hb2
          simp only [fillL]
          generalize vs 0 = y0, vs 1 = y1, vs 2 = y2, vs 3 = y3, vs 4 = y4, vs 5 = y5, vs 6 = y6, vs 7 = y7, vs 8 = y8, vs 9 = y9
          go_frame
          go_wp2_with fail
          go_meet
          refine ⟨⟨c, a, 0, 0, ns.take k⟩, A3, c3, ?_, built_of HNM2 _ (fun r h1 h2 => build3 h1 h2 (by have := hnl.out; omega) HA.out) (by intro h; exfalso; revert h; decide)⟩
          refine HPS.out W7 _ _ _ _ (Below.refl _ _) HO6.out HX6.out ?_ (fun ad hA => (HAG.out ad hA).1)
          have h0 : Reads W7 W7.heap.size 1 A3 k ((ns.map U).take (k * 1)) := (Reads.of_own ho7.out).upto (by omega)
          rw [Nat.mul_one, ← List.map_take] at h0
          simp only
          rw [HLN.out]
          exact reads_only1 h0 HO6.out (fun ad hA => by have := (HAG.out ad hA).2; omega)
    · have HA0 := hide (HAT.out 0 (by omega))
      obtain ⟨a, ha⟩ : ∃ a, ns.getD 0 0 = a := ⟨_, rfl⟩
      rw [ha] at HA0
      have HA := hide ha
      clear ha
      go_wp2_with fail
      refine HA0.out.mono ?_; rintro e w8 ⟨rfl, rfl⟩
      clear HA0
      go_wp2_with fail
      go_meet
      refine ⟨⟨c, a, 0, 0, []⟩, none, 0, ?_, built_of HNM2 _ (fun r h1 h2 => by unfold buildX; rw [h1, h2]; simp; exact HA.out) (by intro h; first | rfl | (exfalso; revert h; decide))⟩
      exact HPS.out W7 _ _ _ _ (Below.refl _ _) (only_set _ _ _ _) (xv_set1 HX7.out a) (reads_nil _ _) (fun ad h => by cases h)
    · have HA0 := hide (HAT.out 0 (by omega))
      have HA1 := hide (HAT.out 1 (by omega))
      obtain ⟨a, ha⟩ : ∃ a, ns.getD 0 0 = a := ⟨_, rfl⟩
      obtain ⟨b, hb⟩ : ∃ b, ns.getD 1 0 = b := ⟨_, rfl⟩
      rw [ha] at HA0
      rw [hb] at HA1
      have HA := hide ha; have HB := hide hb
      clear ha hb
      go_wp2_with fail
      refine HA0.out.mono ?_; rintro e w8 ⟨rfl, rfl⟩
      go_wp2_with fail
      refine HA1.out.mono ?_; rintro e w8 ⟨rfl, rfl⟩
      clear HA0 HA1
      go_wp2_with fail
      go_meet
      refine ⟨⟨c, a, b, 0, []⟩, none, 0, ?_, built_of HNM2 _ (fun r h1 h2 => by unfold buildX; rw [h1, h2]; simp; exact ⟨HA.out, HB.out⟩) (by intro h; first | rfl | (exfalso; revert h; decide))⟩
      exact HPS.out W7 _ _ _ _ (Below.refl _ _) ((only_set _ _ _ _).trans (only_set _ _ _ _)) (xv_set2 (xv_set1 HX7.out a) b) (reads_nil _ _) (fun ad h => by cases h)
    · have HA0 := hide (HAT.out 0 (by omega))
      obtain ⟨a, ha⟩ : ∃ a, ns.getD 0 0 = a := ⟨_, rfl⟩
      rw [ha] at HA0
      have HA := hide ha
      clear ha
      go_wp2_with fail
      refine HA0.out.mono ?_; rintro e w8 ⟨rfl, rfl⟩
      clear HA0
      go_wp2_with fail
      go_meet
      refine ⟨⟨c, a, 0, 0, []⟩, none, 0, ?_, built_of HNM2 _ (fun r h1 h2 => by unfold buildX; rw [h1, h2]; simp; exact HA.out) (by intro h; first | rfl | (exfalso; revert h; decide))⟩
      exact HPS.out W7 _ _ _ _ (Below.refl _ _) (only_set _ _ _ _) (xv_set1 HX7.out a) (reads_nil _ _) (fun ad h => by cases h)
    · have HA0 := hide (HAT.out 0 (by omega))
      obtain ⟨a, ha⟩ : ∃ a, ns.getD 0 0 = a := ⟨_, rfl⟩
      rw [ha] at HA0
      have HA := hide ha
      clear ha
      go_wp2_with fail
      refine HA0.out.mono ?_; rintro e w8 ⟨rfl, rfl⟩
      clear HA0
      go_wp2_with fail
      go_meet
      refine ⟨⟨c, a, 0, 0, []⟩, none, 0, ?_, built_of HNM2 _ (fun r h1 h2 => by unfold buildX; rw [h1, h2]; simp; exact HA.out) (by intro h; first | rfl | (exfalso; revert h; decide))⟩
      exact HPS.out W7 _ _ _ _ (Below.refl _ _) (only_set _ _ _ _) (xv_set1 HX7.out a) (reads_nil _ _) (fun ad h => by cases h)
    · have HA0 := hide (HAT.out 0 (by omega))
      have HA1 := hide (HAT.out 1 (by omega))
      have HA2 := hide (HAT.out 2 (by omega))
      obtain ⟨a, ha⟩ : ∃ a, ns.getD 0 0 = a := ⟨_, rfl⟩
      obtain ⟨b, hb⟩ : ∃ b, ns.getD 1 0 = b := ⟨_, rfl⟩
      obtain ⟨d, hd⟩ : ∃ d, ns.getD 2 0 = d := ⟨_, rfl⟩
      rw [ha] at HA0
      rw [hb] at HA1
      rw [hd] at HA2
      have hd64 : d < 18446744073709551616 := by rw [← hd]; exact HNLT.out 2
      have HA := hide ha; have HB := hide hb; have HD := hide hd
      clear ha hb hd
      go_wp2_with fail
      refine HA0.out.mono ?_; rintro e w8 ⟨rfl, rfl⟩
      go_wp2_with fail
      refine HA1.out.mono ?_; rintro e w8 ⟨rfl, rfl⟩
      go_wp2_with fail
      refine HA2.out.mono ?_; rintro e w8 ⟨rfl, rfl⟩
      clear HA0 HA1 HA2
      go_wp2_with fail
      go_meet
      refine ⟨⟨c, a, b, min (d : Int) 31, []⟩, none, 0, ?_, built_of HNM2 _ (fun r h1 h2 => by refine (build8 h1 h2 HA.out HB.out HD.out)) (by intro h; first | rfl | (exfalso; revert h; decide))⟩
      exact HPS.out W7 _ _ _ _ (Below.refl _ _) (((only_set _ _ _ _).trans (only_set _ _ _ _)).trans (only_set _ _ _ _)) (xv_set3 (xv_set2 (xv_set1 HX7.out a) b) (min (d : Int) 31)) (reads_nil _ _) (fun ad h => by cases h)
    · have HA0 := hide (HAT.out 0 (by omega))
      obtain ⟨a, ha⟩ : ∃ a, ns.getD 0 0 = a := ⟨_, rfl⟩
      rw [ha] at HA0
      have HA := hide ha
      clear ha
      go_wp2_with fail
      refine HA0.out.mono ?_; rintro e w8 ⟨rfl, rfl⟩
      clear HA0
      go_wp2_with fail
      go_meet
      refine ⟨⟨c, a, 0, 0, []⟩, none, 0, ?_, built_of HNM2 _ (fun r h1 h2 => by unfold buildX; rw [h1, h2]; simp; exact HA.out) (by intro h; first | rfl | (exfalso; revert h; decide))⟩
      exact HPS.out W7 _ _ _ _ (Below.refl _ _) (only_set _ _ _ _) (xv_set1 HX7.out a) (reads_nil _ _) (fun ad h => by cases h)
    · have HA0 := hide (HAT.out 0 (by omega))
      have HA1 := hide (HAT.out 1 (by omega))
      obtain ⟨a, ha⟩ : ∃ a, ns.getD 0 0 = a := ⟨_, rfl⟩
      obtain ⟨b, hb⟩ : ∃ b, ns.getD 1 0 = b := ⟨_, rfl⟩
      rw [ha] at HA0
      rw [hb] at HA1
      have HA := hide ha; have HB := hide hb
      clear ha hb
      go_wp2_with fail
      refine HA0.out.mono ?_; rintro e w8 ⟨rfl, rfl⟩
      go_wp2_with fail
      refine HA1.out.mono ?_; rintro e w8 ⟨rfl, rfl⟩
      clear HA0 HA1
      go_wp2_with fail
      go_meet
      refine ⟨⟨c, a, b, 0, []⟩, none, 0, ?_, built_of HNM2 _ (fun r h1 h2 => by unfold buildX; rw [h1, h2]; simp; exact ⟨HA.out, HB.out⟩) (by intro h; first | rfl | (exfalso; revert h; decide))⟩
      exact HPS.out W7 _ _ _ _ (Below.refl _ _) ((only_set _ _ _ _).trans (only_set _ _ _ _)) (xv_set2 (xv_set1 HX7.out a) b) (reads_nil _ _) (fun ad h => by cases h)
    · have hj : (Lib.join ts [32]).length ≤ 900 := by
        cases hok : ok with
        | false => have := (HNM2.no hok).2.2; omega
        | true => obtain ⟨r, k1, _, k3⟩ := HNM2.yes hok; exact HB4.out r k1 k3.symm
      obtain ⟨v, hv⟩ : ∃ v, (parseF (if c = 66 then 64 else 32) (Lib.join ts [32])).getD 0 = v := ⟨_, rfl⟩
      have HCN : Hid (∀ W, Below W7.heap.size W7 W → Calls Tryz.prog 39 #[.int .i64 c, .slice (some ⟨g + 1, o, none⟩) m m] W fun e w' => e = .returned (.int .u64 (v : Int)) ∧ Hid (Below W.heap.size W w')) := by
        intro W hW
        have := insConst_any c (g + 1) o m ts W (by have := HM.out; omega) (hide fun j x hj => (hW.cell (p := ⟨g + 1, o + j, none⟩) (by simp only; omega)).trans (hT7.out j x hj)) (by have := hW.size; omega) (by have := HM.out; omega) hj (hide (LaidI.below ht.out (by rw [HG.out]; exact hbw7.out.trans (hW.mono (by omega)))).c)
        rw [HM.out, hv] at this
        exact this
      have HV := hide hv
      have HI7 := hI7
      clear hv hj l0 l1 l2 l3 l4 z0 z1 z2 z3 z4
      go_upto_region 24 with fail
      refine wp_region_last (l := [_, _, _, _, _, _]) (o := _) grew_ext (factsOf [fun yy _ => yy = .pointer (some ⟨gi, 0, none⟩),
        fun yy _ => yy = .int .i64 c,
        fun yy _ => yy = .slice (some ⟨g + 1, 0, none⟩) (m + 1) (m + 1),
        fun yy _ => yy = .slice (some ⟨g + 1, o, none⟩) m m,
        fun yy _ => yy = .int .u64 (v : Int),
        fun yy _ => yy = .pointer (some ⟨gx, 1, none⟩)]) (by kernel_rfl) (by kernel_rfl) (by kernel_rfl) ?_ ?_
      · refine ⟨?_, ?_, ?_, ?_, ?_, ?_, trivial⟩
        · refine ⟨fun ρ W hk => ?_⟩
          have o5 : ρ (.tmp 5) = .pointer (some ⟨gi, 0, none⟩) := hk.old 5 (by decide)
          exact OpOut.fieldAddr (x := .tmp 5) rfl o5 (by go_simp) ⟨Below.refl _ _, rfl⟩
        · refine ⟨fun ρ W hk => ?_⟩
          have h0 := (hk.fact 0 82 (by decide) rfl).pure
          have hc : W.cell? ⟨gi, 0, none⟩ = some (.int .i64 c) := cell_blk ((hk.below.block gi (blk_lt HI7.out)).trans HI7.out) 0
          exact OpOut.load (x := .tmp 82) rfl h0 (by go_simp) ⟨Below.refl _ _, rfl⟩
        · refine ⟨fun ρ W hk => ?_⟩
          exact OpOut.move (.tmp 4) rfl ⟨Below.refl _ _, hk.old 4 (by decide)⟩
        · refine ⟨fun ρ W hk => ?_⟩
          have h2 := (hk.fact 2 84 (by decide) rfl).pure
          exact OpOut.sliceFrom (x := .tmp 84) (y := .const (.int .i64 1)) rfl h2 (hk.const _) (hsl W) ⟨Below.refl _ _, rfl⟩
        · refine ⟨fun ρ W hk => ?_⟩
          have h1 := (hk.fact 1 83 (by decide) rfl).pure
          have h3 := (hk.fact 3 85 (by decide) rfl).pure
          refine OpOut.fn (args := #[.int .i64 c, .slice (some ⟨g + 1, o, none⟩) m m]) rfl (hk.func _) (by simp [h1, h3]) Tryz.func39 (by kernel_rfl) rfl ?_
          refine (HCN.out W hk.below).mono ?_
          rintro e w5 ⟨rfl, hb5⟩
          exact ⟨_, rfl, hb5.out, rfl⟩
        · refine ⟨fun ρ W hk => ?_⟩
          have o8 : ρ (.tmp 8) = .pointer (some ⟨gx, 0, none⟩) := hk.old 8 (by decide)
          exact OpOut.fieldAddr (x := .tmp 8) rfl o8 (by go_simp) ⟨Below.refl _ _, rfl⟩
      · intro vs W2 hb2 hf
        have e4 := (hf 4 (by decide)).pure
        have e5 := (hf 5 (by decide)).pure
        clear hf
        have HX8 := hide (HX7.out.below hb2 hsz7)
        have HB2' : Hid (Below W7.heap.size W7 W2) := hb2
        clear hb2
        obtain ⟨l0, l1, l2, l3, l4⟩ := HX8.out.cs
        have z1 := frozen_blk HX8.out.blk 1
        simp only [fillL]
        rw [e4, e5]
        generalize vs 0 = y0, vs 1 = y1, vs 2 = y2, vs 3 = y3
        clear e4 e5
        go_frame
        go_wp2_with fail
        go_meet
        refine ⟨⟨c, v, 0, 0, []⟩, none, 0, ?_, built_of HNM2 _ (fun r h1 h2 => by unfold buildX; rw [h1, h2]; simp; exact HV.out) (by intro h; first | rfl | (exfalso; revert h; decide))⟩
        exact HPS.out W2 _ _ _ _ HB2'.out (only_set _ _ _ _) (xv_set1 HX8.out v) (reads_nil _ _) (fun ad h => by cases h)
  case rest =>
    obtain ⟨X, A, cl, hps, hbx⟩ := hcut
    have HPSX := hps
    have z0 := frozen_blk hps.out.res 0
    have z1 := frozen_blk hps.out.res 1
    have z2 := frozen_blk hps.out.res 2
    have z3 := frozen_blk hps.out.res 3
    have z4 := frozen_blk hps.out.res 4
    have r0 := cell_blk hps.out.res 0
    have r1 := cell_blk hps.out.res 1
    have r2 := cell_blk hps.out.res 2
    have r3 := cell_blk hps.out.res 3
    have r4 := cell_blk hps.out.res 4
    simp at r0 r1 r2 r3 r4
    clear hi0 hi2 hI7 hN7 hR7 ho7 hT7 hbw7 HX7 HW7 HW4
    cases hok : ok with
    | false =>
      have hXI := hbx.out.2 hok
      have HPN := hide ((parsed_none HWS.out ((HNM2.no hok).1) X hXI).no)
      obtain ⟨WE, hWE, hOE, hBE⟩ := ins_put hps.out.res (.int .i64 0) (.int .u64 0) (.int .u64 0) (.int .i64 0) (.slice none 0 0)
      have HWE := hide hWE; have HOE := hide hOE; have HBE := hide hBE
      clear hWE hOE hBE hXI hbx HNM2 hps
      subst hok
      go_wp2_with fail
      rw [HWE.out]
      clear z0 z1 z2 z3 z4 r0 r1 r2 r3 r4
      have t0 := cell_blk HBE.out 0
      have t1 := cell_blk HBE.out 1
      have t2 := cell_blk HBE.out 2
      have t3 := cell_blk HBE.out 3
      have t4 := cell_blk HBE.out 4
      simp at t0 t1 t2 t3 t4
      refine bodyPost_ret (v := .tuple #[.agg #[.int .i64 0, .int .u64 0, .int .u64 0, .int .i64 0, .slice none 0 0], .int .i64 4]) (by simp [results, Tryz.results12, go_sem, t0, t1, t2, t3, t4]) rfl ?_
      exact ⟨zeroX, 4, none, 0, rfl, HPN, ⟨by simp [zeroX], fun h => absurd h (by simp [zeroX])⟩, by show Below _ _ _; rw [HG.out]; exact HPSX.out.bel.trans (HOE.out.below (Nat.le_of_lt (blk_lt HPSX.out.res)) (by simp))⟩
    | true =>
      obtain ⟨r, hnr, hXb⟩ := hbx.out.1 hok
      obtain ⟨hrm, _⟩ := namedR_some hnr
      have hXI : X.In := by rw [hXb]; exact build_in r hrm ts ns hns.out
      obtain ⟨q, hq⟩ : ∃ q, decide (printX X = s) = q := ⟨_, rfl⟩
      have HPD := hide (parsed_some HWS.out hnr hns.out (q := q) (by rw [← hXb]; exact hq))
      rw [← hXb] at HPD
      have hXl : X.l.length ≤ 1000000 := by
        rw [hXb]
        have h1 := hns.out.len
        have h2 := HM.out
        unfold buildX
        repeat' split
        all_goals first | (simp; done) | (simp only [List.length_take]; omega)
      have HPR := hide (insPrint_any X A cl wc (hide hXI) (hide hps.out.rd) hXl (hide (LaidI.below ht.out (by rw [HG.out]; exact hps.out.bel)).c))
      obtain ⟨l0, l1, l2, l3, l4⟩ := hps.out.v.cs
      obtain ⟨tx, htx⟩ : ∃ tx, printX X = tx := ⟨_, rfl⟩
      rw [htx] at HPR hq
      have hqq : (tx == s) = q := by rw [← hq]; by_cases h : tx = s <;> simp [h]
      have hqn : (tx != s) = !q := by rw [bne, hqq]
      clear hbx hnr hXb hrm hXI htx hps HNM2 hq
      subst hok
      go_wp2_with fail
      refine HPR.out.mono ?_; rintro e w8 ⟨rfl, h8⟩
      have HP8 := hide (HPSX.out.below h8)
      clear h8 HPR z0 z1 z2 z3 z4 r0 r1 r2 r3 r4 l0 l1 l2 l3 l4
      obtain ⟨l0, l1, l2, l3, l4⟩ := HP8.out.v.cs
      have z0 := frozen_blk HP8.out.res 0
      have z1 := frozen_blk HP8.out.res 1
      have z2 := frozen_blk HP8.out.res 2
      have z3 := frozen_blk HP8.out.res 3
      have z4 := frozen_blk HP8.out.res 4
      have r0 := cell_blk HP8.out.res 0
      have r1 := cell_blk HP8.out.res 1
      have r2 := cell_blk HP8.out.res 2
      have r3 := cell_blk HP8.out.res 3
      have r4 := cell_blk HP8.out.res 4
      simp at r0 r1 r2 r3 r4
      have hnb : ¬ g = gx := by have := HP8.out.lt; omega
      have hng : ¬ gx = g := by have := HP8.out.lt; omega
      cases q with
      | false =>
        have HPN := hide HPD.out.no
        obtain ⟨WE, hWE, hOE, hBE⟩ := ins_put HP8.out.res (.int .i64 0) (.int .u64 0) (.int .u64 0) (.int .i64 0) (.slice none 0 0)
        have HWE := hide hWE; have HOE := hide hOE; have HBE := hide hBE
        clear hWE hOE hBE HPD
        go_wp2_with fail
        rw [HWE.out]
        clear z0 z1 z2 z3 z4 r0 r1 r2 r3 r4
        have t0 := cell_blk HBE.out 0
        have t1 := cell_blk HBE.out 1
        have t2 := cell_blk HBE.out 2
        have t3 := cell_blk HBE.out 3
        have t4 := cell_blk HBE.out 4
        simp at t0 t1 t2 t3 t4
        refine bodyPost_ret (v := .tuple #[.agg #[.int .i64 0, .int .u64 0, .int .u64 0, .int .i64 0, .slice none 0 0], .int .i64 4]) (by simp [results, Tryz.results12, go_sem, t0, t1, t2, t3, t4]) rfl ?_
        exact ⟨zeroX, 4, none, 0, rfl, HPN, ⟨by simp [zeroX], fun h => absurd h (by simp [zeroX])⟩, by show Below _ _ _; rw [HG.out]; exact HP8.out.bel.trans (HOE.out.below (Nat.le_of_lt (blk_lt HP8.out.res)) (by simp))⟩
      | true =>
        have HPN := hide HPD.out.ok
        obtain ⟨WE, hWE, hOE, hBE⟩ := ins_put HP8.out.res (.int .i64 X.code) (.int .u64 (X.a : Int)) (.int .u64 (X.b : Int)) (.int .i64 X.al) (.slice A X.l.length cl)
        have HWE := hide hWE; have HOE := hide hOE; have HBE := hide hBE
        clear hWE hOE hBE HPD
        go_wp2_with fail
        rw [HWE.out]
        clear z0 z1 z2 z3 z4 r0 r1 r2 r3 r4
        have t0 := cell_blk HBE.out 0
        have t1 := cell_blk HBE.out 1
        have t2 := cell_blk HBE.out 2
        have t3 := cell_blk HBE.out 3
        have t4 := cell_blk HBE.out 4
        simp at t0 t1 t2 t3 t4
        refine bodyPost_ret (v := .tuple #[.agg #[.int .i64 X.code, .int .u64 (X.a : Int), .int .u64 (X.b : Int), .int .i64 X.al, .slice A X.l.length cl], .int .i64 0]) (by simp [results, Tryz.results12, go_sem, t0, t1, t2, t3, t4]) rfl ?_
        refine ⟨X, 0, A, cl, rfl, HPN, ?_, by show Below _ _ _; rw [HG.out]; exact HP8.out.bel.trans (HOE.out.below (Nat.le_of_lt (blk_lt HP8.out.res)) (by simp))⟩
        have hr8 := HP8.out.rd
        refine ⟨hr8.1, fun hn => ?_⟩
        obtain ⟨ad, rfl, hlt, hcell⟩ := hr8.2 hn
        have hap := HP8.out.ap ad rfl
        refine ⟨ad, rfl, Nat.lt_of_lt_of_le hlt HOE.out.size, fun j u hu => ?_⟩
        exact HOE.out.cell_some (hcell j u hu) (by rw [block_of_add]; simp; omega)
end Go.Proofs.YtpanlhbdphobdaaGreatDoor
