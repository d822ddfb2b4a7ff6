/-
  code: walk, Spans: contracts.
-/
import Derived.Test.YtdhmkapknaphpaaNestC
namespace Go.Proofs.Ytdhmkapknaphpaa
open Go.RowKit
set_option linter.unusedVariables false

def WPost (w : World) (nb : Nat) (Al : Option Addr) (n cl : Nat) (vs vo : Value) (r : Nat × Nat × NS) (e : Ending) (w' : World) : Prop :=
  ∃ vs' vo', e = .returned (.tuple #[.int .i64 (r.1 : Int), .int .i64 (r.2.1 : Int)]) ∧ Hid (NE w' nb Al n cl vs' vo' r.2.2) ∧ Hid (NW w w' nb vs vo vs' vo')

theorem IL.below {w w' : World} {nb : Nat} {Al : Option Addr} {n : Nat} {xs : List (Int × Int × Int × Int × Value)} {cs : List Int} (h : IL w Al n xs cs) (hr : Reads w nb 5 Al n (xs.flatMap insD)) (hb : Below nb w w') (hs : nb ≤ w'.heap.size) : IL w' Al n xs cs :=
  ⟨(hr.below hb).more hs, h.len, h.codes, h.bd, h.one⟩

theorem drop_cons {α : Type} {l : List α} {k : Nat} {c : α} (h : l[k]? = some c) : l.drop k = c :: l.drop (k + 1) := by
  obtain ⟨hk, hv⟩ := List.getElem?_eq_some_iff.1 h
  rw [List.drop_eq_getElem_cons hk, hv]

set_option maxHeartbeats 1600000 in
theorem walk_any (nb : Nat) (Al : Option Addr) (n cl : Nat) (vs vo : Value) (w : World) (xs : List (Int × Int × Int × Int × Value)) (cs : List Int) (h : Hid (NE w nb Al n cl vs vo initN)) (hI : Hid (IL w Al n xs cs)) (hr : Hid (Reads w nb 5 Al n (xs.flatMap insD))) (hn : n ≤ 900000) :
    Calls Try.prog 12 #[.pointer (some ⟨nb, 0, none⟩)] w (WPost w nb Al n cl vs vo (goN cs cs 0 initN)) := by
  have hcn : cs.length = n := by rw [← hI.out.codes, List.length_map, hI.out.len]
  have HCN := hide hcn; clear hcn
  have e0 := cell_blk h.out.blk 0
  simp at e0
  go_enter Try.func12, Try.ntmps12
  go_wp2_with fail
  go_loopw [11] (fun i w1 => ∃ (k : Nat) (vs1 vo1 : Value) (s1 : NS), i = .int .i64 k ∧ k ≤ n ∧ Hid (NE w1 nb Al n cl vs1 vo1 s1) ∧ Hid (NW w w1 nb vs vo vs1 vo1) ∧ Hid (NInv cs k s1) ∧ Hid (NSz k s1) ∧ Hid (goN cs cs 0 initN = goN cs (cs.drop k) k s1)) (fun i _ => n - (intOf i).toNat)
  case atStart => exact ⟨0, vs, vo, initN, rfl, by omega, h, ⟨Only.refl _ _, Lies.refl _ _, Lies.refl _ _⟩, NInv.init cs, ⟨by simp [initN], by simp [initN], by simp [initN]⟩, rfl⟩
  case round =>
    obtain ⟨k, vs1, vo1, s1, rfl, hk, h1, hw1, hInv, hS, hg⟩ := hrel
    by_cases hlt : k < n
    · obtain ⟨c, hc⟩ : ∃ c, cs[k]? = some c := ⟨_, List.getElem?_eq_getElem (by rw [HCN.out]; exact hlt)⟩
      have HC := hide hc; clear hc
      have I1 := hide (hI.out.below hr.out (hw1.out.below h.out) (Nat.le_of_lt (blk_lt h1.out.blk)))
      have HST := hide (step_any nb Al n cl vs1 vo1 s1 k c wr xs cs h1 I1 hInv hS hlt hn HC)
      obtain ⟨en, s2, hE⟩ : ∃ en s2, stepN cs c k s1 = (en, s2) := ⟨_, _, rfl⟩
      rw [hE] at HST
      have HE := hide hE; clear hE
      go_wp2_with fail
      refine HST.out.mono ?_; rintro e w2 ⟨vs2, vo2, rfl, k1, k2⟩
      have hgo := hg.out
      rw [drop_cons HC.out, goN, HE.out] at hgo
      simp only at hgo
      by_cases hen : en = 0
      · subst hen
        rw [if_neg (by omega)] at hgo
        have HGO := hide hgo; clear hgo
        have hi2 := hide (hInv.out.step HC.out (by rw [HE.out]))
        have hs2 := hide (hS.out.step (cs := cs) (c := c))
        rw [HE.out] at hi2 hs2
        go_wp2_with fail
        go_roundw
        case rel => exact ⟨k + 1, vs2, vo2, s2, by go_num, by omega, k1, hw1.out.trans k2.out, hi2, hs2, HGO⟩
        case measure => simp [intOf] <;> omega
      · rw [if_pos hen] at hgo
        have HGO := hide hgo; clear hgo
        have f0 : ((en : Int) == 0) = false := by simp; omega
        have f1 : ((en : Int) != 0) = true := by simp; omega
        clear hen
        go_wp2_with fail
        go_ret2
        rw [HGO.out]
        exact ⟨vs2, vo2, rfl, k1, hw1.out.trans k2.out⟩
    · have hkn : k = n := by omega
      clear hlt
      have hgo := hg.out
      rw [List.drop_of_length_le (by rw [HCN.out]; omega), goN] at hgo
      have d0 := cell_blk h1.out.blk 0
      have d3 := cell_blk h1.out.blk 3
      simp at d0 d3
      by_cases hcl : s1.closed = true
      · rw [if_pos hcl] at hgo
        have HGO := hide hgo; clear hgo
        rw [hcl] at d3
        clear hcl
        go_wp2_with fail
        go_ret2
        rw [HGO.out]
        exact ⟨vs1, vo1, rfl, h1, hw1⟩
      · rw [if_neg hcl, hkn] at hgo
        have HGO := hide hgo; clear hgo
        rw [show s1.closed = false from by simpa using hcl] at d3
        clear hcl
        go_wp2_with fail
        go_ret2
        rw [HGO.out]
        exact ⟨vs1, vo1, rfl, h1, hw1⟩

/-- what Spans answers -/
def SPost (w : World) (r : Nat × Nat × NS) (e : Ending) (w' : World) : Prop :=
  ∃ v' ss, e = .returned (.tuple #[v', .int .i64 ((if r.2.1 = 0 then 0 else r.1 : Nat) : Int), .int .i64 (r.2.1 : Int)]) ∧ Hid (ss = if r.2.1 = 0 then r.2.2.spans else []) ∧ Hid (w'.ownsRow w.heap.size 40 3 v' ss.length (ss.flatMap spanD)) ∧ Hid (Below w.heap.size w w')

set_option maxHeartbeats 800000 in
theorem spans_any (Al : Option Addr) (n cl : Nat) (w : World) (xs : List (Int × Int × Int × Int × Value)) (cs : List Int) (hI : Hid (IL w Al n xs cs)) (hn : n ≤ 900000) :
    Calls Try.prog 6 #[.slice Al n cl] w (SPost w (goN cs cs 0 initN)) := by
  obtain ⟨W, hW⟩ : ∃ W, w.alloc (.cells #[.slice Al n cl, .slice none 0 0, .slice none 0 0, .bool false, .int .i64 0] 53) = W := ⟨_, rfl⟩
  have hb : Below w.heap.size w W := by rw [← hW]; exact (Below.refl _ _).alloc (Nat.le_refl _) _
  have hNE : Hid (NE W w.heap.size Al n cl (.slice none 0 0) (.slice none 0 0) initN) := by
    refine ⟨by rw [← hW]; exact heap_alloc_new w _, own_nil _ _ _ _, own_nil _ _ _ _, fun g hg => by cases hg⟩
  have hsz : w.heap.size < W.heap.size := blk_lt hNE.out.blk
  have hr := hide (hI.out.reads.below hb)
  have hIW : Hid (IL W Al n xs cs) := ⟨hr.out.more (by omega), hI.out.len, hI.out.codes, hI.out.bd, hI.out.one⟩
  have HWK := hide (walk_any w.heap.size Al n cl _ _ W xs cs hNE hIW hr hn)
  obtain ⟨pl, en, sf, hE⟩ : ∃ pl en sf, goN cs cs 0 initN = (pl, en, sf) := ⟨_, _, _, rfl⟩
  rw [hE] at HWK ⊢
  have HB := hide hb; clear hb hE
  have HW := hide hW; clear hW
  go_enter Try.func6, Try.ntmps6
  go_wp2_with fail
  rw [HW.out]
  refine HWK.out.mono ?_; rintro e w2 ⟨vs2, vo2, rfl, k1, k2⟩
  have hbel : Hid (Below w.heap.size w w2) := HB.out.trans (k2.out.below hNE.out)
  by_cases hen : en = 0
  · subst hen
    have d1 := cell_blk k1.out.blk 1
    simp at d1
    go_wp2_with fail
    go_ret3
    exact ⟨vs2, sf.spans, rfl, by show _ = _; rw [if_pos rfl], own_base k1.out.sp (fun g hg => by have := own_ge k1.out.sp g hg; omega), hbel⟩
  · have f0 : ((en : Int) == 0) = false := by simp; omega
    have f1 : ((en : Int) != 0) = true := by simp; omega
    have HEN := hide hen; clear hen
    go_wp2_with fail
    go_ret3
    refine ⟨.slice none 0 0, [], ?_, by show _ = _; rw [if_neg HEN.out], own_nil _ _ _ _, hbel⟩
    simp only
    rw [if_neg HEN.out]
    rfl
end Go.Proofs.Ytdhmkapknaphpaa
