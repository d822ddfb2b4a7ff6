/-
  types: a text's limits: contract.
-/
import Derived.Test.YthpnfdbfdbjpcaaDoorLimB
namespace Go.Proofs.YthpnfdbfdbjpcaaDoor
open Go.RowKit
set_option linter.unusedVariables false

/-- what strconv.Atoi gives -/
def AtoiP (bs : List UInt8) (w : World) (e : Ending) (w' : World) : Prop :=
  ∃ n er, e = .returned (.tuple #[.int .i64 n, er]) ∧ -9223372036854775808 ≤ n ∧ n ≤ 9223372036854775807 ∧ Hid (∀ v, Lib.atoiAll bs = .ok v → n = v) ∧ Below w.heap.size w w'
theorem bytesW_below' {w w' : World} {e : TypeId} (h : w' = w ∨ ∃ s, w' = Lib.bytesWorld w e s) : Below w.heap.size w w' := by
  rcases h with rfl | ⟨s, rfl⟩
  · exact Below.refl _ _
  · exact Lib.bytesWorld_below _ _ _
theorem atoiP (bs : List UInt8) (w : World) (hl : bs.length ≤ 1000) (ht : Hid (LaidL w)) : Calls Tryd.prog 18 #[.string ⟨bs.toArray⟩] w (AtoiP bs w) := by
  obtain ⟨ts, ps, hs⟩ := ht.out.syn
  obtain ⟨tr, pr, hr⟩ := ht.out.rng
  have hsz : (⟨bs.toArray⟩ : ByteArray).size = bs.length := rfl
  rcases h : Lib.atoiAll bs with u | _ | _
  · refine Calls.mono (Tryd.strconv_Atoi_ok ⟨bs.toArray⟩ (by rw [hsz]; omega) u h w) ?_
    rintro e w' ⟨rfl, hw⟩
    have := Lib.atoiAll_bounds h
    exact ⟨u, _, rfl, this.1, this.2, hide (fun v hv => by rw [h] at hv; injection hv), bytesW_below' hw⟩
  · refine Calls.mono (Tryd.strconv_Atoi_syntax ⟨bs.toArray⟩ (by rw [hsz]; omega) (fun v hv => by have e := h.symm.trans hv; cases e) (fun hv => by have e := h.symm.trans hv; cases e) _ w hs (.inr ⟨ts, ps, rfl⟩)) ?_
    rintro e w' ⟨N, rfl, _, _, hb⟩
    exact ⟨0, _, rfl, by omega, by omega, hide (fun u hu => by rw [h] at hu; cases hu), hb⟩
  · refine Calls.mono (Tryd.strconv_Atoi_range ⟨bs.toArray⟩ (by rw [hsz]; omega) h _ w hr (.inr ⟨tr, pr, rfl⟩)) ?_
    rintro e w' ⟨N, rfl, _, _, hb⟩
    have := Lib.atoiSat_bounds bs
    exact ⟨_, _, rfl, this.1, this.2, hide (fun u hu => by rw [h] at hu; cases hu), hb⟩

/-- a variable that holds limits -/
structure LimAt (w : World) (b : Nat) (x y : Int) (q : Bool) : Prop where
  ex : w.heap[b]? = some (.cells #[.int .i64 x, .int .i64 y, .bool q] 23 (0, 0))
theorem LimAt.lt {w : World} {b : Nat} {x y : Int} {q : Bool} (h : LimAt w b x y q) : b < w.heap.size := by
  apply Decidable.byContradiction
  intro hn
  have := h.ex
  rw [Array.getElem?_eq_none (by omega)] at this
  cases this
theorem LimAt.below {w w' : World} {b : Nat} {x y : Int} {q : Bool} (h : LimAt w b x y q) (hb : Below w.heap.size w w') : LimAt w' b x y q := ⟨(hb.block b h.lt).trans h.ex⟩
theorem LimAt.new (w : World) (x y : Int) (q : Bool) : LimAt (w.alloc (.cells #[.int .i64 x, .int .i64 y, .bool q] 23)) w.heap.size x y q := ⟨heap_alloc_new w _⟩
theorem LimAt.c0 {w : World} {b : Nat} {x y : Int} {q : Bool} (h : LimAt w b x y q) : w.cell? ⟨b, 0, none⟩ = some (.int .i64 x) := cell_blk h.ex 0
theorem LimAt.c1 {w : World} {b : Nat} {x y : Int} {q : Bool} (h : LimAt w b x y q) : w.cell? ⟨b, 1, none⟩ = some (.int .i64 y) := cell_blk h.ex 1
theorem LimAt.c2 {w : World} {b : Nat} {x y : Int} {q : Bool} (h : LimAt w b x y q) : w.cell? ⟨b, 2, none⟩ = some (.bool q) := cell_blk h.ex 2
theorem LimAt.z {w : World} {b : Nat} {x y : Int} {q : Bool} (h : LimAt w b x y q) (i : Nat) : w.frozen? ⟨b, i, none⟩ = false := frozen_blk h.ex i
theorem LimAt.set0 {w : World} {b : Nat} {x y : Int} {q : Bool} (h : LimAt w b x y q) (u : Int) : LimAt (w.setCell ⟨b, 0, none⟩ (.int .i64 u)) b u y q := ⟨setCell_blk2 h.ex 0 _⟩
theorem LimAt.set1 {w : World} {b : Nat} {x y : Int} {q : Bool} (h : LimAt w b x y q) (u : Int) : LimAt (w.setCell ⟨b, 1, none⟩ (.int .i64 u)) b x u q := ⟨setCell_blk2 h.ex 1 _⟩
theorem LimAt.set2 {w : World} {b : Nat} {x y : Int} {q : Bool} (h : LimAt w b x y q) (u : Bool) : LimAt (w.setCell ⟨b, 2, none⟩ (.bool u)) b x y u := ⟨setCell_blk2 h.ex 2 _⟩
theorem LimAt.other {w : World} {b c i : Nat} {x y : Int} {q : Bool} (h : LimAt w b x y q) (hne : b ≠ c) (u : Value) : LimAt (w.setCell ⟨c, i, none⟩ u) b x y q := ⟨(Below.heap_setCell w ⟨c, i, none⟩ u b hne).trans h.ex⟩

/-- the numbers that the words give are the limits', if there are any -/
theorem lim_read {s w0 w1 : List UInt8} {r : List (List UInt8)} {m0 m1 : Int} (hw : wordsS s = w0 :: w1 :: r) (h0 : ∀ v, Lib.atoiAll w0 = .ok v → m0 = v) (h1 : w1 = [45] → m1 = -1) (h2 : w1 ≠ [45] → ∀ v, Lib.atoiAll w1 = .ok v → m1 = v) {a b : Int} {wd : Bool} (h : Lim s a b wd) :
    a = m0 ∧ b = m1 ∧ wd = decide (r ≠ []) := by
  obtain ⟨v0, v1, r', f, f0, f1, f2⟩ := lim_words h
  rw [hw] at f
  injection f with g0 f
  injection f with g1 g2
  subst g0 g1 g2
  refine ⟨(h0 _ f0).symm, ?_, f2⟩
  rcases f1 with ⟨k1, k2⟩ | ⟨k1, k2, k3⟩
  · rw [k1, h1 k2]
  · exact (h2 k2 _ k3).symm
theorem lim_short {s w0 : List UInt8} (hw : wordsS s = [w0]) (a b : Int) (wd : Bool) : ¬ Lim s a b wd := by
  intro h
  obtain ⟨v0, v1, r', f, _⟩ := lim_words h
  rw [hw] at f
  cases f
theorem wordsS_cases (s : List UInt8) : (∃ w0, wordsS s = [w0]) ∨ ∃ w0 w1 r, wordsS s = w0 :: w1 :: r := by
  have h : (wordsS s).length = s.count 32 + 1 := by
    have h1 := Lib.splitB_all ⟨#[32]⟩ (by decide) 0 _ ⟨s.toArray⟩ rfl
    have h2 := congrArg List.length (Lib.splitB_data ⟨#[32]⟩ 0 (Lib.countB ⟨s.toArray⟩ ⟨#[32]⟩) ⟨s.toArray⟩)
    rw [List.length_map] at h2
    have e : Lib.countB ⟨s.toArray⟩ ⟨#[32]⟩ = s.count 32 := Lib.count_one _ _
    rw [e] at h1 h2
    exact h2.symm.trans h1
  match h' : wordsS s, h with
  | [w0], _ => exact .inl ⟨w0, rfl⟩
  | w0 :: w1 :: r, _ => exact .inr ⟨w0, w1, r, rfl⟩
theorem wordsS_all {s : List UInt8} {x : List UInt8} (h : x ∈ wordsS s) : x.length ≤ s.length := by
  have key : ∀ (k : Nat) (t : List UInt8), ∀ y ∈ Lib.splitK [32] 0 k t, y.length ≤ t.length := by
    intro k
    induction k with
    | zero => intro t y hy; simp [Lib.splitK] at hy; subst hy; exact Nat.le_refl _
    | succ k ih =>
      intro t y hy
      rw [Lib.splitK] at hy
      split at hy
      · simp at hy; subst hy; exact Nat.le_refl _
      · simp only [List.mem_cons] at hy
        rcases hy with rfl | hy
        · exact (List.take_sublist _ _).length_le
        · exact Nat.le_trans (ih _ y hy) (List.drop_sublist _ _).length_le
  exact key _ s x h
def ParseLimP (w : World) (s : List UInt8) (e : Ending) (w' : World) : Prop :=
  Below w.heap.size w w' ∧ ((∃ a b wide, Lim s a b wide ∧ e = .returned (.tuple #[limV a b wide, .int .i64 0])) ∨ ((∀ a b wide, ¬ Lim s a b wide) ∧ e = .returned (.tuple #[limV 0 0 false, .int .i64 4])))
theorem split_any (s : List UInt8) (W : World) (hl : s.length ≤ 1000) (ht : Hid (LaidL W)) : Calls Tryd.prog 17 #[.string ⟨s.toArray⟩, .string ⟨#[32]⟩] W fun e w' => e = .returned (.slice (some ⟨W.heap.size, 0, none⟩) (wordsS s).length (wordsS s).length) ∧ w' = W.alloc (.cells ((wordsS s).map S).toArray 9) := by
  obtain ⟨m, hm⟩ := ht.out.ml
  have h := Tryd.strings_Split ⟨s.toArray⟩ ⟨#[32]⟩ m W (by show s.length < _; omega) hm (by decide)
  have h2 := Lib.splitB_data ⟨#[32]⟩ 0 (Lib.countB ⟨s.toArray⟩ ⟨#[32]⟩) ⟨s.toArray⟩
  have e : Lib.countB ⟨s.toArray⟩ ⟨#[32]⟩ = s.count 32 := Lib.count_one _ _
  have h1 := Lib.splitB_all ⟨#[32]⟩ (by decide) 0 _ ⟨s.toArray⟩ rfl
  rw [words_back, ← h1, h2, e] at h
  have h3 := congrArg List.length h2
  rw [List.length_map, e] at h3
  rw [h3] at h
  exact h

theorem LimAt.put {w : World} {b : Nat} {x y : Int} {q : Bool} (h : LimAt w b x y q) (u v : Int) (t : Bool) : LimAt (((w.setCell ⟨b, 0, none⟩ (.int .i64 u)).setCell ⟨b, 1, none⟩ (.int .i64 v)).setCell ⟨b, 2, none⟩ (.bool t)) b u v t := ((h.set0 u).set1 v).set2 t
theorem below_put {B : Nat} {a w : World} (h : Below B a w) {b : Nat} (hb : B ≤ b) (u v : Int) (t : Bool) : Below B a (((w.setCell ⟨b, 0, none⟩ (.int .i64 u)).setCell ⟨b, 1, none⟩ (.int .i64 v)).setCell ⟨b, 2, none⟩ (.bool t)) :=
  ((h.setCell (p := ⟨b, 0, none⟩) hb _).setCell (p := ⟨b, 1, none⟩) hb _).setCell (p := ⟨b, 2, none⟩) hb _

set_option maxHeartbeats 1600000 in
set_option maxRecDepth 100000 in
theorem parseLim_any (s : List UInt8) (w : World) (hl : s.length ≤ 200) (ht : Hid (LaidL w)) :
    Calls Tryd.prog 6 #[.string ⟨s.toArray⟩] w (ParseLimP w s) := by
  obtain ⟨b0, hb0⟩ : ∃ b, w.heap.size = b := ⟨_, rfl⟩
  unfold ParseLimP
  obtain ⟨wa, hwa⟩ : ∃ x, w.alloc (.cells #[.int .i64 0, .int .i64 0, .bool false] 23) = x := ⟨_, rfl⟩
  have hLa : LimAt wa b0 0 0 false := by rw [← hwa, ← hb0]; exact LimAt.new w 0 0 false
  have hBa : Below w.heap.size w wa := by rw [← hwa]; exact (Below.refl _ _).alloc (Nat.le_refl _) _
  have hSP := split_any s wa (by omega) (hide (ht.out.below hBa))
  have hwl := fun x (h : x ∈ wordsS s) => wordsS_all h
  rw [hb0] at hBa ⊢
  have LB := hide (fun W (h : Below b0 w W) => ht.out.below (by rw [hb0]; exact h))
  obtain ⟨h1, hh1⟩ : ∃ h, wa.heap.size = h := ⟨_, rfl⟩
  have hb01 : b0 < h1 := by rw [← hh1]; exact hLa.lt
  obtain ⟨ws, hws⟩ : ∃ ws, wordsS s = ws := ⟨_, rfl⟩
  rw [hws, hh1] at hSP
  obtain ⟨w2, hw2⟩ : ∃ x, wa.alloc (.cells (ws.map S).toArray 9) = x := ⟨_, rfl⟩
  rw [hw2] at hSP
  have HSP := hide hSP
  have h12 : Below wa.heap.size wa w2 := by rw [← hw2]; exact (Below.refl _ _).alloc (Nat.le_refl _) _
  have HB2 : Hid (Below b0 w w2) := hBa.trans (h12.mono (by omega))
  have HL2 : Hid (LimAt w2 b0 0 0 false) := hLa.below h12
  have hg : w2.heap.size = h1 + 1 := by rw [← hw2, ← hh1]; simp
  have HC : Hid (∀ k x, ws[k]? = some x → w2.cell? ⟨h1, k, none⟩ = some (.string ⟨x.toArray⟩)) := by
    intro k x hk
    rw [← hw2, ← hh1, World.cell?_alloc_new]
    simp [hk, S]
  have HWA := hide hwa
  have HW0 := hide hb0
  obtain ⟨n, hn⟩ : ∃ n, ws.length = n := ⟨_, rfl⟩
  rw [hn] at HSP
  clear hwa hLa hBa hSP hw2 h12 hb0 hh1
  rcases wordsS_cases s with ⟨x0, hw⟩ | ⟨x0, x1, r, hw⟩
  · have HN := hide (fun a b wd => lim_short hw a b wd)
    have hn1 : n = 1 := by rw [← hn, ← hws, hw]; rfl
    subst hn1
    have e0 := HL2.out.c0
    have e1 := HL2.out.c1
    have e2 := HL2.out.c2
    have z0 := HL2.out.z 0
    have z1 := HL2.out.z 1
    have z2 := HL2.out.z 2
    clear hw hwl hn hws HC hg
    go_enter Tryd.func6, Tryd.ntmps6
    go_wp2_with fail
    rw [HWA.out, HW0.out]
    refine HSP.out.mono ?_; rintro e w3 ⟨rfl, rfl⟩
    go_wp2_with fail
    have hbF := HL2.out.put 0 0 false
    have hBF := below_put HB2.out (Nat.le_refl b0) 0 0 false
    generalize ((w3.setCell ⟨b0, 0, none⟩ (.int .i64 0)).setCell ⟨b0, 1, none⟩ (.int .i64 0)).setCell ⟨b0, 2, none⟩ (.bool false) = wF at *
    have f0 := hbF.c0
    have f1 := hbF.c1
    have f2 := hbF.c2
    refine bodyPost_ret (v := .tuple #[limV 0 0 false, .int .i64 4]) (by simp [limV, results, Tryd.results6, go_sem, f0, f1, f2]) rfl ?_
    exact ⟨hBF, .inr ⟨HN.out, rfl⟩⟩
  · obtain ⟨g, hgg⟩ : ∃ g, h1 + 1 = g := ⟨_, rfl⟩
    rw [hgg] at hg
    have hn2 : n = r.length + 2 := by rw [← hn, ← hws, hw]; rfl
    have hwide : decide (r ≠ []) = decide (2 < n) := by
      cases r with
      | nil => rw [hn2]; rfl
      | cons _ _ => rw [decide_eq_true (by simp), decide_eq_true (by rw [hn2]; simp <;> omega)]
    have hc0 := HC.out 0 x0 (by rw [← hws, hw]; rfl)
    have hc1 := HC.out 1 x1 (by rw [← hws, hw]; rfl)
    have hx0 := hwl x0 (by rw [hw]; simp)
    have hx1 := hwl x1 (by rw [hw]; simp)
    have h1g : h1 < g := by omega
    have h0g : b0 < g := by omega
    have AT0 := hide (fun W (h : Below g w2 W) => atoiP x0 W (by omega) (hide (LB.out W (HB2.out.trans (h.mono (by omega))))))
    have AT1 := hide (fun W (h : Below g w2 W) => atoiP x1 W (by omega) (hide (LB.out W (HB2.out.trans (h.mono (by omega))))))
    have C0 : Hid (∀ W, Below g w2 W → W.cell? ⟨h1, 0, none⟩ = some (.string ⟨x0.toArray⟩)) := fun W h => (h.cell (p := ⟨h1, 0, none⟩) h1g).trans hc0
    have C1 : Hid (∀ W, Below g w2 W → W.cell? ⟨h1, 1, none⟩ = some (.string ⟨x1.toArray⟩)) := fun W h => (h.cell (p := ⟨h1, 1, none⟩) h1g).trans hc1
    have HL0 : Hid (∀ W, Below g w2 W → LimAt W b0 0 0 false) := fun W h => HL2.out.below (by rw [hg]; exact h)
    have HBW : Hid (∀ W, Below g w2 W → Below b0 w W) := fun W h => HB2.out.trans (h.mono (by omega))
    have HWS := hide hw
    have hm2 : (2 : Int) ≤ n := by omega
    have HG2 := hide hg
    have H0G := hide h0g
    obtain ⟨wide, hwd⟩ : ∃ q, decide (2 < n) = q := ⟨_, rfl⟩
    rw [hwd] at hwide
    have HWD := hide hwide
    have hwi : decide ((2 : Int) < (n : Int)) = wide := by rw [← hwd]; congr 1; simp; omega
    clear hw hws hn hn2 hwide hc0 hc1 hx0 hx1 hwl HC hgg h1g h0g hg hwd hb01
    have H3 : Hid (LimAt (w2.alloc (.cells #[.int .i64 0, .int .i64 (-1), .bool wide] 23)) g 0 (-1) wide) := by rw [← HG2.out]; exact LimAt.new w2 0 (-1) wide
    have H3B : Hid (Below g w2 (w2.alloc (.cells #[.int .i64 0, .int .i64 (-1), .bool wide] 23))) := (Below.refl _ _).alloc (by rw [HG2.out]; exact Nat.le_refl _) _
    go_enter Tryd.func6, Tryd.ntmps6
    go_wp2_with fail
    rw [HWA.out, HW0.out]
    refine HSP.out.mono ?_; rintro e w3 ⟨rfl, rfl⟩
    go_upto_region 5 with fail
    rw [HG2.out]
    generalize w3.alloc (.cells #[.int .i64 0, .int .i64 (-1), .bool wide] 23) = w4 at *
    have c0 := C0.out w4 H3B.out
    go_wp2_with fail
    refine (AT0.out w4 H3B.out).mono ?_; rintro e w5 ⟨m0, er, rfl, k0, k1, HM0, hb5⟩
    have H5 : Hid (LimAt w5 g 0 (-1) wide) := H3.out.below hb5
    have H5B : Hid (Below g w3 w5) := H3B.out.trans (hb5.mono (Nat.le_of_lt H3.out.lt))
    have x0_ := H5.out.c0
    have x1_ := H5.out.c1
    have z0 := H5.out.z 0
    clear hb5 H3B H3 c0 AT0
    have H6 : Hid (LimAt (w5.setCell ⟨g, 0, none⟩ (.int .i64 m0)) g m0 (-1) wide) := H5.out.set0 m0
    have H6B : Hid (Below g w3 (w5.setCell ⟨g, 0, none⟩ (.int .i64 m0))) := H5B.out.setCell (p := ⟨g, 0, none⟩) (Nat.le_refl _) _
    go_upto_region 6 with fail
    generalize w5.setCell ⟨g, 0, none⟩ (.int .i64 m0) = w6 at *
    clear x0_ x1_ z0 H5 H5B
    have c1 := C1.out w6 H6B.out
    obtain ⟨d, hd⟩ : ∃ d, (x1 == [45]) = d := ⟨_, rfl⟩
    go_upto_if 27 with fail
    have HD := hide hd
    clear hd
    go_cut [] (fun wx => ∃ m1 : Int, -9223372036854775808 ≤ m1 ∧ m1 ≤ 9223372036854775807 ∧ Hid (x1 = [45] → m1 = -1) ∧ Hid (x1 ≠ [45] → ∀ v, Lib.atoiAll x1 = .ok v → m1 = v) ∧ Hid (LimAt wx g m0 m1 wide) ∧ Hid (Below g w3 wx))
    case first =>
      have x0_ := H6.out.c0
      have x1_ := H6.out.c1
      have z1 := H6.out.z 1
      cases d with
      | true =>
        have H45 := hide (beq_iff_eq.1 HD.out)
        clear HD
        go_wp2_with fail
        go_meet
        exact ⟨-1, by omega, by omega, fun _ => rfl, fun h => absurd H45.out h, H6, H6B⟩
      | false =>
        have H45 := hide (beq_eq_false_iff_ne.1 HD.out)
        clear HD
        go_wp2_with fail
        refine (AT1.out w6 H6B.out).mono ?_; rintro e w7 ⟨m1, er, rfl, k2, k3, hm1, hb7⟩
        have H7 : Hid (LimAt w7 g m0 (-1) wide) := H6.out.below hb7
        have H7B : Hid (Below g w3 w7) := H6B.out.trans (hb7.mono (Nat.le_of_lt H6.out.lt))
        have y0_ := H7.out.c0
        have y1_ := H7.out.c1
        have y2_ := H7.out.z 1
        clear hb7 x0_ x1_ z1
        go_wp2_with fail
        go_meet
        exact ⟨m1, k2, k3, fun h => absurd h H45.out, fun _ => hm1.out, H7.out.set1 m1, H7B.out.setCell (p := ⟨g, 1, none⟩) (Nat.le_refl _) _⟩
    obtain ⟨m1, k2, k3, hm1, hm2, H7, H7B⟩ := hcut
    clear H6 H6B C0 C1 AT1 c1
    have PR := hide (limPrint_any m0 m1 wide wc k0 k1 k2 k3 (hide (LB.out wc (HBW.out wc H7B.out))))
    have x0_ := H7.out.c0
    have x1_ := H7.out.c1
    have x2_ := H7.out.c2
    go_wp2_with fail
    refine PR.out.mono ?_; rintro e w8 ⟨rfl, hb8⟩
    have H8 : Hid (LimAt w8 g m0 m1 wide) := H7.out.below hb8
    have H80 : Hid (LimAt w8 b0 0 0 false) := (HL0.out wc H7B.out).below hb8
    have H8B : Hid (Below b0 w w8) := (HBW.out wc H7B.out).trans (hb8.mono (Nat.le_of_lt (HL0.out wc H7B.out).lt))
    have y0_ := H8.out.c0
    have y1_ := H8.out.c1
    have y2_ := H8.out.c2
    have e0 := H80.out.c0
    have e1 := H80.out.c1
    have e2 := H80.out.c2
    have z0 := H80.out.z 0
    have z1 := H80.out.z 1
    have z2 := H80.out.z 2
    have RD : Hid (∀ {a b : Int} {wd : Bool}, Lim s a b wd → a = m0 ∧ b = m1 ∧ wd = wide) := fun {a b wd} h => by
      have := lim_read HWS.out HM0.out hm1.out hm2.out h
      rw [HWD.out] at this
      exact this
    have PY : Hid (limL m0 m1 wide = s → 0 ≤ m0 → m0 ≤ 1000000000 → m1 ≤ 1000000000 → Lim s m0 m1 wide) := fun g1 g2 g3 g4 => by
      have := parse_yes HWS.out hm1.out (by rw [HWD.out]; exact g1) g2 g3 g4
      rw [HWD.out] at this
      exact this
    clear hb8 x0_ x1_ x2_ hm1 hm2 H7 H7B PR
    obtain ⟨tx, htx⟩ : ∃ tx, limL m0 m1 wide = tx := ⟨_, rfl⟩
    rw [htx]
    have HTX := hide htx
    clear htx
    obtain ⟨d2, hd2⟩ : ∃ d, (tx == s) = d := ⟨_, rfl⟩
    cases d2 with
    | false =>
      have HD2 := hide (beq_eq_false_iff_ne.1 hd2)
      go_wp2_with fail
      have hbF := H80.out.put 0 0 false
      have hBF := below_put H8B.out (Nat.le_refl b0) 0 0 false
      generalize ((w8.setCell ⟨b0, 0, none⟩ (.int .i64 (0))).setCell ⟨b0, 1, none⟩ (.int .i64 (0))).setCell ⟨b0, 2, none⟩ (.bool false) = wF at *
      have f0 := hbF.c0
      have f1 := hbF.c1
      have f2 := hbF.c2
      refine bodyPost_ret (v := .tuple #[limV (0) (0) false, .int .i64 4]) (by simp [limV, results, Tryd.results6, go_sem, f0, f1, f2]) rfl ?_
      exact ⟨hBF, .inr ⟨fun a b wd h => by obtain ⟨g1, g2, g3⟩ := RD.out h; subst g1 g2; subst g3; exact absurd (HTX.out.symm.trans h.1.symm) HD2.out, rfl⟩⟩
    | true =>
      have HD2 := hide (beq_iff_eq.1 hd2)
      by_cases t0 : m0 < 0
      · have T0 := hide t0
        go_wp2_with fail
        have hbF := H80.out.put 0 0 false
        have hBF := below_put H8B.out (Nat.le_refl b0) 0 0 false
        generalize ((w8.setCell ⟨b0, 0, none⟩ (.int .i64 (0))).setCell ⟨b0, 1, none⟩ (.int .i64 (0))).setCell ⟨b0, 2, none⟩ (.bool false) = wF at *
        have f0 := hbF.c0
        have f1 := hbF.c1
        have f2 := hbF.c2
        refine bodyPost_ret (v := .tuple #[limV (0) (0) false, .int .i64 4]) (by simp [limV, results, Tryd.results6, go_sem, f0, f1, f2]) rfl ?_
        exact ⟨hBF, .inr ⟨fun a b wd h => by obtain ⟨g1, g2, g3⟩ := RD.out h; subst g1 g2; have := h.2.1; have := T0.out; omega, rfl⟩⟩
      · have t0' : 0 ≤ m0 := by omega
        clear t0
        by_cases t1 : 1000000000 < m0
        · have T1 := hide t1
          go_wp2_with fail
          have hbF := H80.out.put 0 0 false
          have hBF := below_put H8B.out (Nat.le_refl b0) 0 0 false
          generalize ((w8.setCell ⟨b0, 0, none⟩ (.int .i64 (0))).setCell ⟨b0, 1, none⟩ (.int .i64 (0))).setCell ⟨b0, 2, none⟩ (.bool false) = wF at *
          have f0 := hbF.c0
          have f1 := hbF.c1
          have f2 := hbF.c2
          refine bodyPost_ret (v := .tuple #[limV (0) (0) false, .int .i64 4]) (by simp [limV, results, Tryd.results6, go_sem, f0, f1, f2]) rfl ?_
          exact ⟨hBF, .inr ⟨fun a b wd h => by obtain ⟨g1, g2, g3⟩ := RD.out h; subst g1 g2; have := h.2.2.1; have := T1.out; omega, rfl⟩⟩
        · have t1' : m0 ≤ 1000000000 := by omega
          clear t1
          by_cases t2 : 1000000000 < m1
          · have T2 := hide t2
            go_wp2_with fail
            have hbF := H80.out.put 0 0 false
            have hBF := below_put H8B.out (Nat.le_refl b0) 0 0 false
            generalize ((w8.setCell ⟨b0, 0, none⟩ (.int .i64 (0))).setCell ⟨b0, 1, none⟩ (.int .i64 (0))).setCell ⟨b0, 2, none⟩ (.bool false) = wF at *
            have f0 := hbF.c0
            have f1 := hbF.c1
            have f2 := hbF.c2
            refine bodyPost_ret (v := .tuple #[limV (0) (0) false, .int .i64 4]) (by simp [limV, results, Tryd.results6, go_sem, f0, f1, f2]) rfl ?_
            exact ⟨hBF, .inr ⟨fun a b wd h => by obtain ⟨g1, g2, g3⟩ := RD.out h; subst g1 g2; have := h.2.2.2.2; have := T2.out; omega, rfl⟩⟩
          · have t2' : m1 ≤ 1000000000 := by omega
            clear t2
            go_wp2_with fail
            have hbF := H80.out.put m0 m1 wide
            have hBF := below_put H8B.out (Nat.le_refl b0) m0 m1 wide
            generalize ((w8.setCell ⟨b0, 0, none⟩ (.int .i64 (m0))).setCell ⟨b0, 1, none⟩ (.int .i64 (m1))).setCell ⟨b0, 2, none⟩ (.bool wide) = wF at *
            have f0 := hbF.c0
            have f1 := hbF.c1
            have f2 := hbF.c2
            refine bodyPost_ret (v := .tuple #[limV (m0) (m1) wide, .int .i64 0]) (by simp [limV, results, Tryd.results6, go_sem, f0, f1, f2]) rfl ?_
            exact ⟨hBF, .inl ⟨m0, m1, wide, PY.out (HTX.out.trans HD2.out) t0' t1' t2', rfl⟩⟩
end Go.Proofs.YthpnfdbfdbjpcaaDoor
