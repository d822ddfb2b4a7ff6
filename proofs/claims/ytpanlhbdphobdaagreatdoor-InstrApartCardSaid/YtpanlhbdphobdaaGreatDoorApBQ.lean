/-
  instr.Same, the document's Same: contracts at any two. (Written by wip/gen-insg.py.)
-/
import Derived.Test.YtpanlhbdphobdaaGreatDoorApBA
import Derived.Deep.QuietTactic
import Derived.BigQuiet
namespace Go.Proofs.YtpanlhbdphobdaaGreatDoor
open Go.RowKit
set_option linter.unusedVariables false

def sameX (x y : XI) : Bool := (x.code == y.code) && ((x.a == y.a) && ((x.b == y.b) && ((x.al == y.al) && (x.l == y.l))))
theorem sameX_iff (x y : XI) : sameX x y = true ↔ x = y := by
  unfold sameX
  obtain ⟨a1, a2, a3, a4, a5⟩ := x
  obtain ⟨b1, b2, b3, b4, b5⟩ := y
  simp
theorem sameX_refl (x : XI) : sameX x x = true := (sameX_iff x x).2 rfl
theorem below_drewN4 {B : Nat} {a w : World} (h : Below B a w) (n : Nat) : Below B a (w.drewN n) := ⟨h.os, h.tape, h.output, h.size, h.block⟩
theorem take_eq_step {xs ys : List Nat} {k n : Nat} (h : xs.take k = ys.take k) (hx : xs[k]? = some n) (hy : ys[k]? = some n) : xs.take (k + 1) = ys.take (k + 1) := by
  rw [List.take_add_one, List.take_add_one, h, hx, hy]
theorem ne_at {xs ys : List Nat} {k m n : Nat} (hx : xs[k]? = some m) (hy : ys[k]? = some n) (h : m ≠ n) : (xs == ys) = false := by
  simp only [beq_eq_false_iff_ne, ne_eq]
  rintro rfl
  rw [hx] at hy
  injection hy with hy
  exact h hy
set_option maxHeartbeats 1600000 in
theorem equalU2_any (A1 A2 : Option Addr) (c1 c2 : Nat) (xs ys : List Nat) (w : World) (r1 : Hid (Reads w w.heap.size 1 A1 xs.length (xs.map U))) (r2 : Hid (Reads w w.heap.size 1 A2 ys.length (ys.map U))) (h1 : xs.length ≤ 1000000) (h2 : ys.length ≤ 1000000) :
    Calls Tryz.prog 42 #[.slice A1 xs.length c1, .slice A2 ys.length c2] w fun e w' => e = .returned (.bool (xs == ys)) ∧ Hid (Below w.heap.size w w') := by
  by_cases hl : xs.length = ys.length
  · obtain ⟨n, hn⟩ : ∃ n, ys.length = n := ⟨_, rfl⟩
    have hnx : xs.length = n := hl.trans hn
    have r1' : Hid (Reads w w.heap.size 1 A1 xs.length (xs.map U)) := r1
    have r2' : Hid (Reads w w.heap.size 1 A2 ys.length (ys.map U)) := r2
    have HN := hide hn; have HX := hide hnx
    rw [hnx, hn]
    clear hl hn hnx r1 r2 h1
    have h2 : n ≤ 1000000 := by have := HN.out; omega
    go_enter Tryz.func42, Tryz.ntmps42
    go_wp2_with fail
    go_loopw [4, 5, 13] (fun r _ i w1 => ∃ k : Nat, r = .bool false ∧ i = .int .i64 k ∧ k ≤ n ∧ Hid (Below w.heap.size w w1) ∧ Hid (xs.take k = ys.take k)) (fun _ _ i _ => n - (intOf i).toNat)
    case atStart => exact ⟨0, rfl, rfl, by omega, Below.refl _ _, by show _ = _; simp⟩
    case round =>
      obtain ⟨k, rfl, rfl, hk, hbw, hst⟩ := hrel
      by_cases hlt : k < n
      · obtain ⟨a1, x, hA1, hx, hcx⟩ := (r1'.out.below hbw.out).elem (k := k) (by rw [HX.out]; exact hlt)
        obtain ⟨a2, y, hA2, hy, hcy⟩ := (r2'.out.below hbw.out).elem (k := k) (by rw [HN.out]; exact hlt)
        subst hA1; subst hA2
        unfold U at hcx hcy
        have hki : (k : Int) < (n : Int) := by omega
        have hk0 : (0 : Int) ≤ (k : Int) := by omega
        by_cases hxy : x = y
        · subst hxy
          have HST := hide (take_eq_step hst.out hx.out hy.out)
          clear hst hx hy
          go_wp2_with fail
          go_quiet (fail)
          go_wp2_with fail
          go_roundw
          case rel => exact ⟨k + 1, rfl, by go_num, by omega, below_drewN4 hbw.out _, HST⟩
          case measure => simp [intOf] <;> omega
        · have HNE := hide (ne_at hx.out hy.out hxy)
          have hne : ((x : Int) != (y : Int)) = true := by simp; omega
          have hne2 : ((x : Int) == (y : Int)) = false := by simp; omega
          clear hst hx hy hxy
          go_wp2_with fail
          go_quiet (fail)
          go_wp2_with fail
          go_ret
          exact ⟨by rw [HNE.out]; rfl, below_drewN4 hbw.out _⟩
      · have hkk : k = n := by omega
        subst hkk
        have heq : Hid ((xs == ys) = true) := by
          have := hst.out
          rw [List.take_of_length_le (by rw [HX.out]; omega), List.take_of_length_le (by rw [HN.out]; omega)] at this
          show _ = _
          simpa using this
        clear hlt hst
        go_wp2_with fail
        go_ret
        exact ⟨by rw [heq.out]; rfl, hbw⟩
  · have hne : ((xs.length : Int) != (ys.length : Int)) = true := by simp; omega
    have hne2 : ((xs.length : Int) == (ys.length : Int)) = false := by simp; omega
    have hq : Hid ((xs == ys) = false) := by
      show _ = _
      simp only [beq_eq_false_iff_ne, ne_eq]
      rintro rfl
      exact hl rfl
    clear hl r1 r2
    go_enter Tryz.func42, Tryz.ntmps42
    go_wp2_with fail
    go_ret
    exact ⟨by rw [hq.out]; rfl, Below.refl _ _⟩

set_option maxRecDepth 100000 in
set_option maxHeartbeats 3200000 in
theorem isame2_any (x y : XI) (A1 A2 : Option Addr) (c1 c2 : Nat) (w : World) (r1 : Hid (Reads w w.heap.size 1 A1 x.l.length (x.l.map U))) (r2 : Hid (Reads w w.heap.size 1 A2 y.l.length (y.l.map U))) (h1 : x.l.length ≤ 1000000) (h2 : y.l.length ≤ 1000000) :
    Calls Tryz.prog 16 #[.agg #[.int .i64 x.code, .int .u64 (x.a : Int), .int .u64 (x.b : Int), .int .i64 x.al, .slice A1 x.l.length c1], .agg #[.int .i64 y.code, .int .u64 (y.a : Int), .int .u64 (y.b : Int), .int .i64 y.al, .slice A2 y.l.length c2]] w fun e w' => e = .returned (.bool (sameX x y)) ∧ Hid (Below w.heap.size w w') := by
  obtain ⟨W, hW⟩ : ∃ W, (w.alloc (.cells #[.int .i64 x.code, .int .u64 (x.a : Int), .int .u64 (x.b : Int), .int .i64 x.al, .slice A1 x.l.length c1] 28)).alloc (.cells #[.int .i64 y.code, .int .u64 (y.a : Int), .int .u64 (y.b : Int), .int .i64 y.al, .slice A2 y.l.length c2] 28) = W := ⟨_, rfl⟩
  obtain ⟨g, hg⟩ : ∃ g, w.heap.size = g := ⟨_, rfl⟩
  have hbW : Below g w W := by rw [← hW, ← hg]; exact ((Below.refl _ _).alloc (Nat.le_refl _) _).alloc (by simp) _
  have hsz : W.heap.size = g + 2 := by rw [← hW, ← hg]; simp
  have hx : XV W g x A1 c1 := ⟨by rw [← hW, ← hg, Below.heap_alloc _ _ _ (by simp)]; exact heap_alloc_new w _⟩
  have hy : XV W (g + 1) y A2 c2 := ⟨by
    rw [← hW, ← hg]
    have := heap_alloc_new (w.alloc (.cells #[.int .i64 x.code, .int .u64 (x.a : Int), .int .u64 (x.b : Int), .int .i64 x.al, .slice A1 x.l.length c1] 28)) (.cells #[.int .i64 y.code, .int .u64 (y.a : Int), .int .u64 (y.b : Int), .int .i64 y.al, .slice A2 y.l.length c2] 28)
    simpa using this⟩
  rw [hg] at r1 r2
  have HE := hide (equalU2_any A1 A2 c1 c2 x.l y.l W (hide ((r1.out.below hbW).more (by omega))) (hide ((r2.out.below hbW).more (by omega))) h1 h2)
  obtain ⟨l0, l1, l2, l3, l4⟩ := hx.cs
  obtain ⟨m0, m1, m2, m3, m4⟩ := hy.cs
  have HW := hide hW; have HB := hide hbW; have HG := hide hg; have HSZ := hide hsz
  have hS : Hid (sameX x y = ((x.code == y.code) && (((x.a : Int) == (y.a : Int)) && (((x.b : Int) == (y.b : Int)) && ((x.al == y.al) && (x.l == y.l)))))) := by
    show _ = _
    have e : ∀ m n : Nat, ((m : Int) == (n : Int)) = (m == n) := by intro m n; rw [Bool.eq_iff_iff]; simp; omega
    rw [e, e]
    rfl
  clear hW hbW hg hx hy r1 r2 hsz
  cases q1 : (x.code == y.code) with
  | false =>
    have HS : Hid (sameX x y = false) := by show _ = _; rw [hS.out, q1]; rfl
    clear hS
    go_enter Tryz.func16, Tryz.ntmps16
    go_upto_region 1 with fail
    rw [HW.out, HG.out]
    go_wp2_with fail
    go_ret
    exact ⟨by rw [HS.out]; rfl, by rw [HG.out]; exact HB⟩
  | true =>
    cases q2 : ((x.a : Int) == (y.a : Int)) with
    | false =>
      have HS : Hid (sameX x y = false) := by show _ = _; rw [hS.out, q1, q2]; rfl
      clear hS
      go_enter Tryz.func16, Tryz.ntmps16
      go_upto_region 1 with fail
      rw [HW.out, HG.out]
      go_wp2_with fail
      go_ret
      exact ⟨by rw [HS.out]; rfl, by rw [HG.out]; exact HB⟩
    | true =>
      cases q3 : ((x.b : Int) == (y.b : Int)) with
      | false =>
        have HS : Hid (sameX x y = false) := by show _ = _; rw [hS.out, q1, q2, q3]; rfl
        clear hS
        go_enter Tryz.func16, Tryz.ntmps16
        go_upto_region 1 with fail
        rw [HW.out, HG.out]
        go_wp2_with fail
        go_ret
        exact ⟨by rw [HS.out]; rfl, by rw [HG.out]; exact HB⟩
      | true =>
        cases q4 : (x.al == y.al) with
        | false =>
          have HS : Hid (sameX x y = false) := by show _ = _; rw [hS.out, q1, q2, q3, q4]; rfl
          clear hS
          go_enter Tryz.func16, Tryz.ntmps16
          go_upto_region 1 with fail
          rw [HW.out, HG.out]
          go_wp2_with fail
          go_ret
          exact ⟨by rw [HS.out]; rfl, by rw [HG.out]; exact HB⟩
        | true =>
          have HS : Hid (sameX x y = (x.l == y.l)) := by show _ = _; rw [hS.out, q1, q2, q3, q4]; rfl
          obtain ⟨q, hq⟩ : ∃ q, (x.l == y.l) = q := ⟨_, rfl⟩
          rw [hq] at HS HE
          clear hS hq
          go_enter Tryz.func16, Tryz.ntmps16
          go_upto_region 1 with fail
          rw [HW.out, HG.out]
          go_wp2_with fail
          refine HE.out.mono ?_; rintro e w2 ⟨rfl, hb2⟩
          clear l0 l1 l2 l3 l4 m0 m1 m2 m3 m4
          go_wp2_with fail
          go_ret
          exact ⟨by rw [HS.out]; rfl, by rw [HG.out]; exact HB.out.trans (hb2.out.mono (by have := HSZ.out; omega))⟩
end Go.Proofs.YtpanlhbdphobdaaGreatDoor
