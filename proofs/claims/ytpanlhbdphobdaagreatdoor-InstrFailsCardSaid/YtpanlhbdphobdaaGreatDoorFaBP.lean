/-
  Law 11: an instruction there and back (To, Of); awake: contracts. (Written by wip/gen-insk.py.)
  The document's instructions: Same: contract at any two. (Written by wip/gen-insh.py.)
  Which instructions may be, as the document tells it, in plain Lean.
-/
import Derived.Test.YtpanlhbdphobdaaGreatDoorFaBN
import Derived.Test.YtpanlhbdphobdaaGreatDoorFaBO
import Derived.Test.YtpanlhbdphobdaaGreatDoorFaBM
import Derived.Test.YtpanlhbdphobdaaGreatDoorFaAX
namespace Go.Proofs.YtpanlhbdphobdaaGreatDoor
open Go.RowKit
set_option linter.unusedVariables false

theorem toX_any (x : XI) (A : Option Addr) (c : Nat) (w : World) (hr : Hid (Reads w w.heap.size 1 A x.l.length (x.l.map U))) (hl : x.l.length ≤ 1000000) :
    Calls Tryz.prog 10 #[.agg #[.int .i64 x.code, .int .u64 (x.a : Int), .int .u64 (x.b : Int), .int .i64 x.al, .slice A x.l.length c]] w fun e w' =>
      ∃ A2 c2, e = .returned (.agg #[.int .i64 x.code, .int .u64 (x.a : Int), .int .u64 (x.b : Int), .int .i64 x.al, .slice A2 x.l.length c2]) ∧ Hid (w'.ownsRow w.heap.size 22 1 (.slice A2 x.l.length c2) x.l.length (x.l.map U)) ∧ Hid (Below w.heap.size w w') := by
  have hm : (x.l.map fun n : Nat => (n : Int)).flatMap u64D = x.l.map U := by
    rw [List.flatMap_map]
    show x.l.flatMap (fun n => [U n]) = _
    rw [← List.map_eq_flatMap]
  have h := insTo_any (x.code, (x.a : Int), (x.b : Int), x.al, ⟨A, c, x.l.map fun n : Nat => (n : Int)⟩, ()) w (by show Reads _ _ _ _ _ _; simp only; rw [hm, List.length_map]; exact hr.out) (by simp only; rw [List.length_map]; omega)
  simp only [List.length_map] at h
  refine h.mono ?_
  rintro e w' ⟨A2, c2, he, ho, hb⟩
  simp only [List.length_map] at he ho
  rw [hm] at ho
  exact ⟨A2, c2, he, ho, hb⟩
theorem ri_put {w : World} {g : Nat} {a b c d e : Value} (h : w.heap[g]? = some (.cells #[a, b, c, d, e] 25 (0, 0))) (a' b' c' d' e' : Value) :
    ∃ W : World, ((((w.setCell ⟨g, 0, none⟩ a').setCell ⟨g, 1, none⟩ b').setCell ⟨g, 2, none⟩ c').setCell ⟨g, 3, none⟩ d').setCell ⟨g, 4, none⟩ e' = W ∧ Only [g] w W ∧ W.heap[g]? = some (.cells #[a', b', c', d', e'] 25 (0, 0)) := by
  refine ⟨_, rfl, ((((Only.setCell w (p := ⟨g, 0, none⟩) (by simp) a').trans (Only.setCell _ (p := ⟨g, 1, none⟩) (by simp) b')).trans (Only.setCell _ (p := ⟨g, 2, none⟩) (by simp) c')).trans (Only.setCell _ (p := ⟨g, 3, none⟩) (by simp) d')).trans (Only.setCell _ (p := ⟨g, 4, none⟩) (by simp) e'), ?_⟩
  rw [setCell_blk (setCell_blk (setCell_blk (setCell_blk (setCell_blk h 0 _) 1 _) 2 _) 3 _) 4 _]
  rfl
set_option maxHeartbeats 1600000 in
theorem ofX_any (x : XI) (A : Option Addr) (cl : Nat) (w : World) :
    Calls Tryz.prog 15 #[.agg #[.int .i64 x.code, .int .u64 (x.a : Int), .int .u64 (x.b : Int), .int .i64 x.al, .slice A x.l.length cl]] w fun e w' => e = .returned (.agg #[.int .i64 x.code, .int .u64 (x.a : Int), .int .u64 (x.b : Int), .int .i64 x.al, .slice A x.l.length cl]) ∧ Hid (Below w.heap.size w w') := by
  obtain ⟨W, hW⟩ : ∃ W, (w.alloc (.cells #[.int .i64 x.code, .int .u64 (x.a : Int), .int .u64 (x.b : Int), .int .i64 x.al, .slice A x.l.length cl] 28)).alloc (.cells #[.int .i64 0, .int .u64 0, .int .u64 0, .int .i64 0, .slice none 0 0] 25) = W := ⟨_, rfl⟩
  obtain ⟨g, hg⟩ : ∃ g, w.heap.size = g := ⟨_, rfl⟩
  have hb : Below g w W := by rw [← hW, ← hg]; exact ((Below.refl _ _).alloc (Nat.le_refl _) _).alloc (by simp) _
  have hx : XV W g x A cl := ⟨by rw [← hW, ← hg, Below.heap_alloc _ _ _ (by simp)]; exact heap_alloc_new w _⟩
  have hx2 : W.heap[g + 1]? = some (.cells #[.int .i64 0, .int .u64 0, .int .u64 0, .int .i64 0, .slice none 0 0] 25 (0, 0)) := by
    rw [← hW, ← hg]
    have := heap_alloc_new (w.alloc (.cells #[.int .i64 x.code, .int .u64 (x.a : Int), .int .u64 (x.b : Int), .int .i64 x.al, .slice A x.l.length cl] 28)) (.cells #[.int .i64 0, .int .u64 0, .int .u64 0, .int .i64 0, .slice none 0 0] 25)
    simpa using this
  obtain ⟨l0, l1, l2, l3, l4⟩ := hx.cs
  have z0 := frozen_blk hx2 0
  have z1 := frozen_blk hx2 1
  have z2 := frozen_blk hx2 2
  have z3 := frozen_blk hx2 3
  have z4 := frozen_blk hx2 4
  have r0 := cell_blk hx2 0
  have r1 := cell_blk hx2 1
  have r2 := cell_blk hx2 2
  have r3 := cell_blk hx2 3
  have r4 := cell_blk hx2 4
  simp at r0 r1 r2 r3 r4
  obtain ⟨WE, hWE, hOE, hBE⟩ := ri_put hx2 (.int .i64 x.code) (.int .u64 (x.a : Int)) (.int .u64 (x.b : Int)) (.int .i64 x.al) (.slice A x.l.length cl)
  have hsz : g + 1 ≤ W.heap.size := Nat.le_of_lt (blk_lt hx2)
  have HWE := hide hWE; have HOE := hide hOE; have HBE := hide hBE
  have HB := hide hb; have HW := hide hW; have HG := hide hg
  clear hWE hOE hBE hb hW hg hx hx2
  go_enter Tryz.func15, Tryz.ntmps15
  go_upto_region 1 with fail
  rw [HW.out, HG.out]
  go_wp2_with fail
  rw [HWE.out]
  clear z0 z1 z2 z3 z4 r0 r1 r2 r3 r4 l0 l1 l2 l3 l4
  have t0 := cell_blk HBE.out 0
  have t1 := cell_blk HBE.out 1
  have t2 := cell_blk HBE.out 2
  have t3 := cell_blk HBE.out 3
  have t4 := cell_blk HBE.out 4
  simp at t0 t1 t2 t3 t4
  refine bodyPost_ret (v := .agg #[.int .i64 x.code, .int .u64 (x.a : Int), .int .u64 (x.b : Int), .int .i64 x.al, .slice A x.l.length cl]) (by simp [results, Tryz.results15, go_sem, t0, t1, t2, t3, t4]) rfl ?_
  exact ⟨rfl, by rw [HG.out]; exact HB.out.trans (HOE.out.below (by omega) (by simp))⟩

/-- the document's example -/
def x0 : XI := ⟨40, 1, 8, 2, []⟩
theorem x0_in : x0.In := ⟨by decide, by decide, by decide, by decide, by decide, by decide, fun n h => by cases h⟩
theorem x0_right : rightX x0 = true := by decide +kernel
theorem put_small {n : Nat} (h : n < 128) : putN n = [UInt8.ofNat n] := putN_small n h
theorem x0_enc : encX x0 = [40, 66, 1, 8] := by
  unfold encX headL bodyL
  have f : refForm x0.code = 8 := by decide
  rw [f]
  simp only [x0]
  rw [put_small (n := (2 : Int).toNat + 64) (by decide), put_small (n := 1) (by decide), put_small (n := 8) (by decide)]
  decide
theorem x0_print : printX x0 = [105, 51, 50, 46, 108, 111, 97, 100, 32, 49, 32, 56, 32, 50] := by
  unfold printX toldX
  rw [if_pos x0_right]
  have f : refForm x0.code = 8 := by decide
  rw [f]
  simp only [x0, List.map_cons, List.map_nil]
  rw [digL_small (b := 10) (n := 1) (by decide), digL_small (b := 10) (n := 8) (by decide), digL_small (b := 10) (n := (2 : Int).toNat) (by decide)]
  have hn : nameOf 40 = [105, 51, 50, 46, 108, 111, 97, 100] := by decide +kernel
  rw [hn]
  rfl
set_option maxRecDepth 100000 in
set_option maxHeartbeats 3200000 in
theorem awake11 (w : World) (ht : Hid (LaidI w)) : Calls Tryz.prog 8 #[] w fun e w' => e = .returned (.bool true) ∧ Hid (Below w.heap.size w w') := by
  have HE : Hid (Calls Tryz.prog 17 #[.agg #[.int .i64 40, .int .u64 1, .int .u64 8, .int .i64 2, .slice none 0 0]] w (EncP x0 w)) := encode_yes x0 none 0 w x0_in ⟨by simp [x0], fun h => absurd h (by simp [x0])⟩ (by simp [x0]) x0_right
  have HP := hide (fun W (h : Below w.heap.size w W) => parseX_any [105, 51, 50, 46, 108, 111, 97, 100, 32, 49, 32, 56, 32, 50] W (hide (.inl (by decide))) (hide (ht.out.below h)))
  go_enter Tryz.func8, Tryz.ntmps8
  go_wp2_with fail
  refine HE.out.mono ?_; rintro e w1 ⟨v, rfl, ho, hb1⟩
  rw [x0_enc] at ho
  obtain ⟨A, c, hv, _, _⟩ := own_form ho.out
  subst hv
  have HR1 : Hid (Reads w1 w1.heap.size 1 A 4 (([40, 66, 1, 8] : List UInt8).map B)) := Reads.of_own ho.out
  have HP1 := hide (HP.out w1 hb1.out)
  clear HP HE ho
  go_wp2_with fail
  refine HP1.out.mono ?_; rintro e w2 ⟨y, er, A2, cl2, rfl, hpr, hrd, hb2⟩
  have hy : y = x0 ∧ er = 0 := by
    rcases hpr.out.or_ with ⟨h1, h2, h3, h4⟩ | ⟨h1, h2, h3⟩
    · exact ⟨h4 x0 x0_in x0_right x0_print, h1⟩
    · exact absurd x0_print (h3 x0 x0_in x0_right)
  obtain ⟨rfl, rfl⟩ := hy
  have HB2 : Hid (Below w.heap.size w w2) := hb1.out.trans (hb2.out.mono hb1.out.size)
  have hs1 : ∀ W, Below w1.heap.size w1 W → (convert 39 9 (.slice A 4 c)).run Tryz.prog W = .ok (.string ⟨#[40, 66, 1, 8]⟩) W := fun W h => run_string_reads (bs := [40, 66, 1, 8]) _ _ 5 c Tryz.underlying39 Tryz.underlying5 Tryz.underlying9 (HR1.out.below h)
  obtain ⟨g2, hg2⟩ : ∃ g, w2.heap.size = g := ⟨_, rfl⟩
  obtain ⟨W3, hW3⟩ : ∃ W3, w2.alloc (.cells #[.int .i64 40, .int .u64 1, .int .u64 8, .int .i64 2, .slice A2 0 cl2] 28) = W3 := ⟨_, rfl⟩
  have hb3 : Below w2.heap.size w2 W3 := by rw [← hW3]; exact (Below.refl _ _).alloc (Nat.le_refl _) _
  have hI3 : W3.heap[g2]? = some (.cells #[.int .i64 40, .int .u64 1, .int .u64 8, .int .i64 2, .slice A2 0 cl2] 28 (0, 0)) := by rw [← hW3, ← hg2]; exact heap_alloc_new w2 _
  have i0 : W3.cell? ⟨g2, 0, none⟩ = some (.int .i64 40) := cell_blk hI3 0
  have i2 : W3.cell? ⟨g2, 2, none⟩ = some (.int .u64 8) := cell_blk hI3 2
  have hcv := hs1 W3 (hb2.out.trans (hb3.mono hb2.out.size))
  have HB3 : Hid (Below w.heap.size w W3) := HB2.out.trans (hb3.mono HB2.out.size)
  have HW3 := hide hW3; have HG2 := hide hg2
  clear hs1 hb3 hI3 hW3 hg2 hpr hrd hb1 hb2 HR1 HP1
  simp only [x0, List.length_nil]
  go_upto_region 3 with fail
  rw [HW3.out, HG2.out]
  go_wp2_with fail
  go_ret
  exact ⟨rfl, HB3⟩
end Go.Proofs.YtpanlhbdphobdaaGreatDoor

namespace Go.Proofs.YtpanlhbdphobdaaGreatDoor
open Go.RowKit
set_option linter.unusedVariables false

/-- a struct's cells where it lies -/
structure RXV (w : World) (g : Nat) (x : XI) (A : Option Addr) (cl : Nat) : Prop where
  blk : w.heap[g]? = some (.cells #[.int .i64 x.code, .int .u64 (x.a : Int), .int .u64 (x.b : Int), .int .i64 x.al, .slice A x.l.length cl] 25 (0, 0))
theorem RXV.below {w w' : World} {g : Nat} {x : XI} {A : Option Addr} {cl : Nat} {Bk : Nat} (h : RXV w g x A cl) (hb : Below Bk w w') (hg : g < Bk) : RXV w' g x A cl := ⟨(hb.block g hg).trans h.blk⟩
theorem RXV.cs {w : World} {g : Nat} {x : XI} {A : Option Addr} {cl : Nat} (h : RXV w g x A cl) : w.cell? ⟨g, 0, none⟩ = some (.int .i64 x.code) ∧ w.cell? ⟨g, 1, none⟩ = some (.int .u64 (x.a : Int)) ∧ w.cell? ⟨g, 2, none⟩ = some (.int .u64 (x.b : Int)) ∧ w.cell? ⟨g, 3, none⟩ = some (.int .i64 x.al) ∧ w.cell? ⟨g, 4, none⟩ = some (.slice A x.l.length cl) :=
  ⟨cell_blk h.blk 0, cell_blk h.blk 1, cell_blk h.blk 2, cell_blk h.blk 3, cell_blk h.blk 4⟩
theorem rxv_new (w : World) (x : XI) (A : Option Addr) (cl : Nat) : RXV (w.alloc (.cells #[.int .i64 x.code, .int .u64 (x.a : Int), .int .u64 (x.b : Int), .int .i64 x.al, .slice A x.l.length cl] 25)) w.heap.size x A cl := ⟨heap_alloc_new w _⟩

set_option maxRecDepth 100000 in
set_option maxHeartbeats 6400000 in
theorem rsame2_any (x y : XI) (A1 A2 : Option Addr) (c1 c2 : Nat) (w : World) (r1 : Hid (Reads w w.heap.size 1 A1 x.l.length (x.l.map U))) (r2 : Hid (Reads w w.heap.size 1 A2 y.l.length (y.l.map U))) (h1 : x.l.length ≤ 1000000) (h2 : y.l.length ≤ 1000000) :
    Calls Tryz.prog 14 #[.agg #[.int .i64 x.code, .int .u64 (x.a : Int), .int .u64 (x.b : Int), .int .i64 x.al, .slice A1 x.l.length c1], .agg #[.int .i64 y.code, .int .u64 (y.a : Int), .int .u64 (y.b : Int), .int .i64 y.al, .slice A2 y.l.length c2]] w fun e w' => e = .returned (.bool (sameX x y)) ∧ Hid (Below w.heap.size w w') := by
  obtain ⟨W, hW⟩ : ∃ W, (w.alloc (.cells #[.int .i64 x.code, .int .u64 (x.a : Int), .int .u64 (x.b : Int), .int .i64 x.al, .slice A1 x.l.length c1] 25)).alloc (.cells #[.int .i64 y.code, .int .u64 (y.a : Int), .int .u64 (y.b : Int), .int .i64 y.al, .slice A2 y.l.length c2] 25) = W := ⟨_, rfl⟩
  obtain ⟨g, hg⟩ : ∃ g, w.heap.size = g := ⟨_, rfl⟩
  have hbW : Below g w W := by rw [← hW, ← hg]; exact ((Below.refl _ _).alloc (Nat.le_refl _) _).alloc (by simp) _
  have hsz : W.heap.size = g + 2 := by rw [← hW, ← hg]; simp
  have hx : RXV W g x A1 c1 := ⟨by rw [← hW, ← hg, Below.heap_alloc _ _ _ (by simp)]; exact heap_alloc_new w _⟩
  have hy : RXV W (g + 1) y A2 c2 := ⟨by
    rw [← hW, ← hg]
    have := heap_alloc_new (w.alloc (.cells #[.int .i64 x.code, .int .u64 (x.a : Int), .int .u64 (x.b : Int), .int .i64 x.al, .slice A1 x.l.length c1] 25)) (.cells #[.int .i64 y.code, .int .u64 (y.a : Int), .int .u64 (y.b : Int), .int .i64 y.al, .slice A2 y.l.length c2] 25)
    simpa using this⟩
  rw [hg] at r1 r2
  obtain ⟨l0, l1, l2, l3, l4⟩ := hx.cs
  obtain ⟨m0, m1, m2, m3, m4⟩ := hy.cs
  have R1 : Hid (Reads W W.heap.size 1 A1 x.l.length (x.l.map U)) := (r1.out.below hbW).more (by omega)
  have R2 : Hid (Reads W W.heap.size 1 A2 y.l.length (y.l.map U)) := (r2.out.below hbW).more (by omega)
  have HX := hide hx; have HY := hide hy
  have HW := hide hW; have HB := hide hbW; have HG := hide hg; have HSZ := hide hsz
  have hS : Hid (sameX x y = ((x.code == y.code) && (((x.a : Int) == (y.a : Int)) && (((x.b : Int) == (y.b : Int)) && ((x.al == y.al) && (x.l == y.l)))))) := by
    show _ = _
    have e : ∀ m n : Nat, ((m : Int) == (n : Int)) = (m == n) := by intro m n; rw [Bool.eq_iff_iff]; simp; omega
    rw [e, e]
    rfl
  clear hW hbW hg hx hy r1 r2 hsz
  cases q1 : (x.code == y.code) with
  | false =>
    have HS : Hid (sameX x y = false) := by show _ = _; rw [hS.out, q1]; rfl
    have p1 : (x.code != y.code) = true := by rw [bne, q1]; rfl
    clear hS
    go_enter Tryz.func14, Tryz.ntmps14
    go_upto_region 1 with fail
    rw [HW.out, HG.out]
    go_wp2_with fail
    go_ret
    exact ⟨by rw [HS.out]; rfl, by rw [HG.out]; exact HB⟩
  | true =>
    have p1 : (x.code != y.code) = false := by rw [bne, q1]; rfl
    cases q2 : ((x.a : Int) == (y.a : Int)) with
    | false =>
      have HS : Hid (sameX x y = false) := by show _ = _; rw [hS.out, q1, q2]; rfl
      have p2 : ((x.a : Int) != (y.a : Int)) = true := by rw [bne, q2]; rfl
      clear hS
      go_enter Tryz.func14, Tryz.ntmps14
      go_upto_region 1 with fail
      rw [HW.out, HG.out]
      go_wp2_with fail
      go_ret
      exact ⟨by rw [HS.out]; rfl, by rw [HG.out]; exact HB⟩
    | true =>
      have p2 : ((x.a : Int) != (y.a : Int)) = false := by rw [bne, q2]; rfl
      cases q3 : ((x.b : Int) == (y.b : Int)) with
      | false =>
        have HS : Hid (sameX x y = false) := by show _ = _; rw [hS.out, q1, q2, q3]; rfl
        have p3 : ((x.b : Int) != (y.b : Int)) = true := by rw [bne, q3]; rfl
        clear hS
        go_enter Tryz.func14, Tryz.ntmps14
        go_upto_region 1 with fail
        rw [HW.out, HG.out]
        go_wp2_with fail
        go_ret
        exact ⟨by rw [HS.out]; rfl, by rw [HG.out]; exact HB⟩
      | true =>
        have p3 : ((x.b : Int) != (y.b : Int)) = false := by rw [bne, q3]; rfl
        cases q4 : (x.al == y.al) with
        | false =>
          have HS : Hid (sameX x y = false) := by show _ = _; rw [hS.out, q1, q2, q3, q4]; rfl
          have p4 : (x.al != y.al) = true := by rw [bne, q4]; rfl
          clear hS
          go_enter Tryz.func14, Tryz.ntmps14
          go_upto_region 1 with fail
          rw [HW.out, HG.out]
          go_wp2_with fail
          go_ret
          exact ⟨by rw [HS.out]; rfl, by rw [HG.out]; exact HB⟩
        | true =>
          have p4 : (x.al != y.al) = false := by rw [bne, q4]; rfl
          have HS : Hid (sameX x y = (x.l == y.l)) := by show _ = _; rw [hS.out, q1, q2, q3, q4]; rfl
          clear hS
          cases q5 : ((x.l.length : Int) == (y.l.length : Int)) with
          | false =>
            have HS2 : Hid (sameX x y = false) := by
              show _ = _
              rw [HS.out]
              simp only [beq_eq_false_iff_ne, ne_eq]
              intro e
              rw [e] at q5
              simp at q5
            have p5 : ((x.l.length : Int) != (y.l.length : Int)) = true := by rw [bne, q5]; rfl
            clear HS
            have HS := HS2
            go_enter Tryz.func14, Tryz.ntmps14
            go_upto_region 1 with fail
            rw [HW.out, HG.out]
            go_wp2_with fail
            go_ret
            exact ⟨by rw [HS.out]; rfl, by rw [HG.out]; exact HB⟩
          | true =>
            have p5 : ((x.l.length : Int) != (y.l.length : Int)) = false := by rw [bne, q5]; rfl
            obtain ⟨n, hn⟩ : ∃ n, y.l.length = n := ⟨_, rfl⟩
            have hnx : x.l.length = n := by have : (x.l.length : Int) = (y.l.length : Int) := by simpa using q5
                                            omega
            have HN := hide hn; have HNX := hide hnx
            have hn1 : n ≤ 1000000 := by omega
            clear hn hnx
            go_enter Tryz.func14, Tryz.ntmps14
            go_upto_region 1 with fail
            rw [HW.out, HG.out]
            go_wp2_with fail
            clear p1 p2 p3 p4 p5 q1 q2 q3 q4 q5 l0 l1 l2 l3 l4 m0 m1 m2 m3 m4
            go_loopw [4, 5] (fun r i w1 => ∃ k : Nat, r = .bool false ∧ i = .int .i64 k ∧ k ≤ n ∧ Hid (Below (g + 2) W w1) ∧ Hid (x.l.take k = y.l.take k)) (fun _ i _ => n - (intOf i).toNat)
            case atStart => exact ⟨0, rfl, rfl, by omega, Below.refl _ _, by show _ = _; simp⟩
            case round =>
              obtain ⟨k, rfl, rfl, hk, hbw, hst⟩ := hrel
              obtain ⟨l0, l1, l2, l3, l4⟩ := (HX.out.below hbw.out (by omega)).cs
              obtain ⟨m0, m1, m2, m3, m4⟩ := (HY.out.below hbw.out (by omega)).cs
              rw [HNX.out] at l4
              rw [HN.out] at m4
              clear l0 l1 l2 l3 m0 m1 m2 m3
              by_cases hlt : k < n
              · obtain ⟨a1, u, hA1, hu, hcx⟩ := ((HSZ.out ▸ R1.out : Reads W (g + 2) 1 A1 x.l.length (x.l.map U)).below hbw.out).elem (k := k) (by rw [HNX.out]; exact hlt)
                obtain ⟨a2, v, hA2, hv, hcy⟩ := ((HSZ.out ▸ R2.out : Reads W (g + 2) 1 A2 y.l.length (y.l.map U)).below hbw.out).elem (k := k) (by rw [HN.out]; exact hlt)
                subst hA1; subst hA2
                unfold U at hcx hcy
                have hki : (k : Int) < (n : Int) := by omega
                have hk0 : (0 : Int) ≤ (k : Int) := by omega
                by_cases huv : u = v
                · subst huv
                  have HST := hide (take_eq_step hst.out hu.out hv.out)
                  clear hst hu hv
                  go_wp2_with fail
                  go_quiet (fail)
                  go_wp2_with fail
                  go_roundw
                  case rel => exact ⟨k + 1, rfl, by go_num, by omega, below_drewN4 hbw.out _, HST⟩
                  case measure => simp [intOf] <;> omega
                · have HNE := hide (ne_at hu.out hv.out huv)
                  have hne : ((u : Int) != (v : Int)) = true := by simp; omega
                  have hne2 : ((u : Int) == (v : Int)) = false := by simp; omega
                  clear hst hu hv huv
                  go_wp2_with fail
                  go_quiet (fail)
                  go_wp2_with fail
                  go_ret
                  exact ⟨by rw [HS.out, HNE.out]; rfl, by rw [HG.out]; exact HB.out.trans (below_drewN4 (hbw.out.mono (by omega)) _)⟩
              · have hkk : k = n := by omega
                subst hkk
                have heq : Hid ((x.l == y.l) = true) := by
                  have := hst.out
                  rw [List.take_of_length_le (by rw [HNX.out]; omega), List.take_of_length_le (by rw [HN.out]; omega)] at this
                  show _ = _
                  simpa using this
                clear hlt hst
                go_wp2_with fail
                go_ret
                exact ⟨by rw [HS.out, heq.out]; rfl, by rw [HG.out]; exact HB.out.trans (hbw.out.mono (by omega))⟩
end Go.Proofs.YtpanlhbdphobdaaGreatDoor

namespace Go.Proofs.YtpanlhbdphobdaaGreatDoor
open Go.RowKit
set_option linter.unusedVariables false

def rt1 (f : Int) (x : XI) : Bool := ((f != 11) && decide ((4294967295 : Int) < (x.a : Int))) || (((x.code == 65) && decide ((4294967295 : Int) < (x.a : Int))) || ((f != 8) && decide ((4294967295 : Int) < (x.b : Int))))
def rt2 (f : Int) (x : XI) : Bool := ((f == 0) && ((x.a : Int) != 0)) || ((f == 1) && (((x.a : Int) != 64) && (((x.a : Int) != 126) && ((x.a : Int) != 127))))
def rt3 (f : Int) (x : XI) : Bool := ((f != 5) && ((f != 8) && ((f != 10) && ((x.b : Int) != 0)))) || (((f != 8) && (x.al != 0)) || (decide (x.al < 0) || decide ((31 : Int) < x.al)))
def rt4 (f : Int) (x : XI) : Bool := ((x.l.length : Int) == 0) || ((f == 3) && decide ((x.l.length : Int) ≤ 100))
theorem form11 {c : Int} (h : refForm c = 11) : c = 65 ∨ c = 66 := by
  unfold refForm at h
  repeat' (split at h)
  all_goals omega
theorem right_ref (x : XI) (ho : (opRow x.code).isSome = true) : rightX x = (!rt1 (refForm x.code) x && (!rt2 (refForm x.code) x && (!rt3 (refForm x.code) x && (x.l.all small && rt4 (refForm x.code) x)))) := by
  have h11 := form11 (c := x.code)
  unfold rightX
  rw [ho, Bool.true_and]
  have hnil : x.l.length = 0 → x.l.all small = true := by intro h; rw [List.eq_nil_of_length_eq_zero h]; rfl
  have hfb := refForm_bd x.code
  generalize refForm x.code = f at h11 hfb ⊢
  rcases hfb with rfl | rfl | rfl | rfl | rfl | rfl | rfl | rfl | rfl | rfl | rfl | rfl
  all_goals
    rw [Bool.eq_iff_iff]
    simp [rightF, rt1, rt2, rt3, rt4, blocked, small] at h11 ⊢
  all_goals
    by_cases hQ : x.l = []
    · have hP : ∀ n, n ∈ x.l → n ≤ 4294967295 := by rw [hQ]; intro n h; cases h
      have hL : x.l.length = 0 := by rw [hQ]; rfl
      simp only [hQ, implies_true, true_and, and_true, true_or, List.not_mem_nil, false_implies, List.length_nil]
      omega
    · by_cases hP : ∀ n, n ∈ x.l → n ≤ 4294967295
      · simp only [hQ, eq_true hP, true_and, and_false, false_or, iff_self]
        try omega
      · simp only [hQ, eq_false hP, false_and, and_false, iff_self]

end Go.Proofs.YtpanlhbdphobdaaGreatDoor
