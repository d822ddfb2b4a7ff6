/-
  host: the rules in memory; which one is for an import: contracts.
-/
import Derived.Test.YtnfaaiifbiobiaaDoorHostB
import Derived.Deep.DeepCutAuto
import Derived.Deep.RegionLaw
import Derived.Deep.RegionHeld3
import Derived.Deep.QuietTactic
namespace Go.Proofs.YtnfaaiifbiobiaaDoor
open Go.RowKit
set_option linter.unusedVariables false

def hrV (r : HR) : List Value := [.string ⟨r.m.toArray⟩, .string ⟨r.n.toArray⟩, .int .i64 r.way, .int .u64 (r.word : Int)]
theorem hrV_len (r : HR) : (hrV r).length = 4 := rfl
theorem fm_get {α : Type} {dec : α → List Value} {size : Nat} (hd : ∀ a, (dec a).length = size) : ∀ (ys : List α) (i j : Nat) (a : α), ys[i]? = some a → j < size → (ys.flatMap dec)[i * size + j]? = (dec a)[j]? := by
  intro ys
  induction ys with
  | nil => intro i j a h; simp at h
  | cons b r ih =>
    intro i j a h hj
    rw [List.flatMap_cons]
    cases i with
    | zero =>
      have : b = a := by simpa using h
      subst this
      rw [Nat.zero_mul, Nat.zero_add, List.getElem?_append_left (by rw [hd]; exact hj)]
    | succ i =>
      rw [List.getElem?_append_right (by rw [hd, Nat.succ_mul]; omega), hd, show (i + 1) * size + j - size = i * size + j from by rw [Nat.succ_mul]; omega]
      exact ih i j a (by simpa using h) hj
theorem add_pos' (a : Addr) (j : Nat) (hj : 0 < j) : a.add j = ⟨a.block, a.off + j, none⟩ := by
  conv => lhs; unfold Addr.add
  split
  · omega
  · rfl
/-- one rule of those that lie there -/
theorem rule_at {w : World} {Bk : Nat} {A : Option Addr} {rs : List HR} (h : Reads w Bk 4 A rs.length (rs.flatMap hrV)) {i : Nat} (hi : i < rs.length) :
    ∃ (ad : Addr) (r : HR), A = some ad ∧ Hid (rs[i]? = some r) ∧ w.cell? (ad.add (i * 4)) = some (.string ⟨r.m.toArray⟩) ∧ w.cell? ⟨(ad.add (i * 4)).block, (ad.add (i * 4)).off + 1, none⟩ = some (.string ⟨r.n.toArray⟩) ∧
      w.cell? ⟨(ad.add (i * 4)).block, (ad.add (i * 4)).off + 2, none⟩ = some (.int .i64 r.way) ∧ w.cell? ⟨(ad.add (i * 4)).block, (ad.add (i * 4)).off + 3, none⟩ = some (.int .u64 (r.word : Int)) ∧ ad.block < Bk := by
  obtain ⟨ad, h1, hb, h2⟩ := h.2 (by omega)
  have hg := List.getElem?_eq_getElem hi
  have hk : ∀ j, j < 4 → ∀ u, (hrV rs[i])[j]? = some u → w.cell? ((ad.add (i * 4)).add j) = some u := by
    intro j hj u hu
    rw [add_of_add]
    refine h2 _ _ ?_
    rw [fm_get hrV_len rs i j _ hg hj]
    exact hu
  refine ⟨ad, rs[i], h1, hg, ?_, ?_, ?_, ?_, hb⟩
  · have := hk 0 (by omega) _ rfl
    rw [show (ad.add (i * 4)).add 0 = ad.add (i * 4) from by simp [Addr.add]] at this
    exact this
  · rw [← add_pos' _ 1 (by omega)]; exact hk 1 (by omega) _ rfl
  · rw [← add_pos' _ 2 (by omega)]; exact hk 2 (by omega) _ rfl
  · rw [← add_pos' _ 3 (by omega)]; exact hk 3 (by omega) _ rfl

set_option maxHeartbeats 800000 in
theorem rule1_any (r : HR) (xb : Nat) (xm xn : List UInt8) (sg : Int) (w : World) (hx : Hid (w.heap[xb]? = some (.cells #[.string ⟨xm.toArray⟩, .string ⟨xn.toArray⟩, .int .i64 sg] 35 (0, 0)))) :
    Calls Tryd.prog 21 #[.agg #[.string ⟨r.m.toArray⟩, .string ⟨r.n.toArray⟩, .int .i64 r.way, .int .u64 (r.word : Int)], .pointer (some ⟨xb, 0, none⟩)] w fun e w' => e = .returned (.bool (fitsH r xm xn)) ∧ Hid (Below w.heap.size w w') := by
  have HF := hide (fun W => fits_any r xm xn sg W)
  obtain ⟨W, hW⟩ : ∃ W, w.alloc (.cells #[.string ⟨r.m.toArray⟩, .string ⟨r.n.toArray⟩, .int .i64 r.way, .int .u64 (r.word : Int)] 28) = W := ⟨_, rfl⟩
  have hb : Below w.heap.size w W := by rw [← hW]; exact (Below.refl _ _).alloc (Nat.le_refl _) _
  have hr : W.heap[w.heap.size]? = some (.cells #[.string ⟨r.m.toArray⟩, .string ⟨r.n.toArray⟩, .int .i64 r.way, .int .u64 (r.word : Int)] 28 (0, 0)) := by rw [← hW]; exact heap_alloc_new w _
  have hx2 := (hb.block xb (blk_lt hx.out)).trans hx.out
  have a0 := cell_blk hr 0
  have a1 := cell_blk hr 1
  have a2 := cell_blk hr 2
  have a3 := cell_blk hr 3
  have b0 := cell_blk hx2 0
  have b1 := cell_blk hx2 1
  have b2 := cell_blk hx2 2
  simp at a0 a1 a2 a3 b0 b1 b2
  have HB := hide hb; have HW := hide hW
  clear hb hW hr hx2 hx
  go_enter Tryd.func21, Tryd.ntmps21
  go_upto_region 1 with fail
  rw [HW.out]
  go_wp2_with fail
  refine (HF.out W).mono ?_; rintro e w2 ⟨rfl, h2⟩
  go_wp2_with fail
  go_ret
  exact ⟨rfl, HB.out.trans (h2.out.mono HB.out.size)⟩

def idxI : Option Nat → Int
  | some k => k
  | none => -1
theorem findH_drop (rs : List HR) (xm xn : List UInt8) {k : Nat} {r : HR} (hr : rs[k]? = some r) (i : Nat) : findH (rs.drop k) xm xn i = if fitsH r xm xn then some i else findH (rs.drop (k + 1)) xm xn (i + 1) := by
  obtain ⟨j1, j2⟩ := List.getElem?_eq_some_iff.1 hr
  rw [List.drop_eq_getElem_cons j1, j2]
  rfl
set_option maxRecDepth 100000 in
set_option maxHeartbeats 1600000 in
theorem indexFunc_any (A : Option Addr) (c : Nat) (rs : List HR) (xb : Nat) (xm xn : List UInt8) (sg : Int) (w : World) (hr : Hid (Reads w w.heap.size 4 A rs.length (rs.flatMap hrV))) (hl : rs.length ≤ 1000)
    (hx : Hid (w.heap[xb]? = some (.cells #[.string ⟨xm.toArray⟩, .string ⟨xn.toArray⟩, .int .i64 sg] 35 (0, 0)))) :
    Calls Tryd.prog 20 #[.slice A rs.length c, .func (.func 21) #[] #[.pointer (some ⟨xb, 0, none⟩)]] w fun e w' => e = .returned (.int .i64 (idxI (findH rs xm xn 0))) ∧ Hid (Below w.heap.size w w') := by
  go_enter Tryd.func20, Tryd.ntmps20
  go_wp2_with fail
  go_loopw [4, 5, 8] (fun r v i w1 => ∃ k : Nat, r = .int .i64 0 ∧ i = .int .i64 k ∧ k ≤ rs.length ∧ Hid (Below w.heap.size w w1) ∧ Hid (findH rs xm xn 0 = findH (rs.drop k) xm xn k)) (fun _ _ i _ => rs.length - (intOf i).toNat)
  case atStart => exact ⟨0, rfl, rfl, by omega, Below.refl _ _, rfl⟩
  case round =>
    obtain ⟨k, rfl, rfl, hk, hbw, hf⟩ := hrel
    by_cases hlt : k < rs.length
    · obtain ⟨ad, r, rfl, hrr, u0, u1, u2, u3, _⟩ := rule_at (hr.out.below hbw.out) hlt
      have hx1 : Hid (wr.heap[xb]? = some (.cells #[.string ⟨xm.toArray⟩, .string ⟨xn.toArray⟩, .int .i64 sg] 35 (0, 0))) := (hbw.out.block xb (blk_lt hx.out)).trans hx.out
      have HC := hide (rule1_any r xb xm xn sg wr hx1)
      have hstep := findH_drop rs xm xn hrr.out k
      rw [← hf.out] at hstep
      cases hq : fitsH r xm xn with
      | true =>
        rw [hq, if_pos rfl] at hstep
        rw [hq] at HC
        have HS := hide hstep
        clear hstep hq hf hrr
        go_wp2_with fail
        refine HC.out.mono ?_; rintro e w2 ⟨rfl, h2⟩
        go_wp2_with fail
        go_ret
        exact ⟨by rw [HS.out]; rfl, hbw.out.trans (h2.out.mono hbw.out.size)⟩
      | false =>
        rw [hq, if_neg (by simp)] at hstep
        rw [hq] at HC
        have HS : Hid (findH rs xm xn 0 = findH (rs.drop (k + 1)) xm xn (k + 1)) := hstep
        clear hstep hq hf hrr
        go_wp2_with fail
        refine HC.out.mono ?_; rintro e w2 ⟨rfl, h2⟩
        have HB2 : Hid (Below w.heap.size w w2) := hbw.out.trans (h2.out.mono hbw.out.size)
        clear h2 HC u0 u1 u2 u3
        go_wp2_with fail
        go_roundw
        case rel => exact ⟨k + 1, rfl, by go_num, by omega, HB2, HS⟩
        case measure => simp [intOf] <;> omega
    · have hnone : Hid (findH rs xm xn 0 = none) := by
        have := hf.out
        rw [List.drop_of_length_le (by omega)] at this
        exact this
      clear hf
      go_wp2_with fail
      go_ret
      exact ⟨by rw [hnone.out]; rfl, hbw⟩
end Go.Proofs.YtnfaaiifbiobiaaDoor
