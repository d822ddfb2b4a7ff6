/-
  code's laws: List, the example; CodeNests: the law's walk.
-/
import Derived.Test.YtdhmkapknaphpaaNestE
namespace Go.Proofs.Ytdhmkapknaphpaa
open Go.RowKit
set_option linter.unusedVariables false

theorem ins_elem : IsElem Try.prog 23 27 5 56 := IsElem.mk' Try.underlying23 (z := .agg #[.int .i64 0, .int .u64 0, .int .u64 0, .int .i64 0, .slice none 0 0]) (by kernel_rfl) rfl (by omega)

/-- what List leaves: as many instructions, of the same codes -/
def ListPost (s : Sl RI) (w : World) (e : Ending) (w' : World) : Prop :=
  ∃ (v' : Value) (xs : List (Int × Int × Int × Int × Value)), e = .returned v' ∧ Hid (w'.ownsRow w.heap.size 27 5 v' xs.length (xs.flatMap insD)) ∧ Hid (xs.map (·.1) = s.l.map (·.1)) ∧ Hid (∀ x ∈ xs, x.2.2.2.2.oneCell' = true) ∧ Hid (Below w.heap.size w w')

set_option maxHeartbeats 1600000 in
theorem insList_any (s : Sl RI) (w0 w : World) (hs : Hid (s.Ok w0 riD 5 56 (riOk w0))) (hb : Hid (Below w0.heap.size w0 w)) (hl : s.l.length ≤ 150) (hall : Hid (∀ x ∈ s.l, x.2.2.2.2.1.l.length ≤ 110)) :
    Calls Try.prog 25 #[.slice s.at_ s.l.length s.cap] w (ListPost s w) := by
  have hcap := hs.out.len
  have hmax := hs.out.cap
  unfold maxLen at hmax
  obtain ⟨base, hbase⟩ : ∃ b, w.heap.size = b := ⟨_, rfl⟩
  have HB := hide hbase; clear hbase
  go_enter Try.func25, Try.ntmps25
  go_wp2_with fail
  go_loopw [3, 4] (fun v i w1 => ∃ (k : Nat) (xs : List (Int × Int × Int × Int × Value)), i = .int .i64 k ∧ k ≤ s.l.length ∧ Hid (w1.ownsRow base 27 5 v xs.length (xs.flatMap insD)) ∧ Hid (xs.map (·.1) = (s.l.take k).map (·.1)) ∧ Hid (∀ x ∈ xs, x.2.2.2.2.oneCell' = true) ∧ Hid (Below base w w1) ∧ base ≤ w1.heap.size) (fun _ i _ => s.l.length - (intOf i).toNat)
  case atStart => exact ⟨0, [], rfl, by omega, own_nil _ _ _ _, rfl, (by show ∀ _, _; simp), Below.refl _ _, by rw [HB.out]; omega⟩
  case round =>
    obtain ⟨k, xs, rfl, hk, ho, hx, h1, hbl, hsz⟩ := hrel
    by_cases hlt : k < s.l.length
    · have hbl0 := hide (hb.out.trans (by have := hbl.out; rw [← HB.out] at this; exact this.mono hb.out.size))
      obtain ⟨ad, y, hat, hy, hok, i0, i1, i2, i3, i4⟩ := ri_at hs.out hbl0.out hlt
      rw [hat]
      have HAT := hide hat; clear hat
      have hyr := hide ((hok.out.2.2.2.2.1.reads.below hbl0.out).more hbl0.out.size)
      have hyl := hall.out y (List.mem_of_getElem? hy.out)
      have hxl : xs.length = k := by have := congrArg List.length hx.out; simp at this; omega
      have HTO := hide (insTo_any y wr hyr (by omega))
      go_wp2_with fail
      refine HTO.out.mono ?_; rintro e w2 ⟨A2, c2, rfl, ho2, hb2⟩
      have hown2 := hide (own_only3 (S := []) ho.out (Only.of_below hb2.out) (by simp))
      have hroom : Room xs.length 1 56 := room_of (by omega) (by omega)
      have hsz2 : base ≤ w2.heap.size := Nat.le_trans hsz hb2.out.size
      go_wp2_with (at_builtin; refine wpList_push_n rfl _ _ rfl base ins_elem _ xs.length (xs.flatMap insD) rfl w2 [.int .i64 y.1, .int .u64 y.2.1, .int .u64 y.2.2.1, .int .i64 y.2.2.2.1, .slice A2 y.2.2.2.2.1.l.length c2] 27 rfl hown2.out rfl rfl (by simp [Value.oneCell']) hroom hsz2 ?_; intro v' w3 ho3 hg3)
      have hb3 := hg3.below hsz2 (own_ge hown2.out)
      have hown3 : Hid (w3.ownsRow base 27 5 v' (xs ++ [(y.1, y.2.1, y.2.2.1, y.2.2.2.1, Value.slice A2 y.2.2.2.2.1.l.length c2)]).length ((xs ++ [(y.1, y.2.1, y.2.2.1, y.2.2.2.1, Value.slice A2 y.2.2.2.2.1.l.length c2)]).flatMap insD)) := own_cast ho3 (by simp) (by simp [insD])
      go_roundw
      case rel =>
        refine ⟨k + 1, _, by go_num, by omega, hown3, ?_, ?_, (hbl.out.trans (hb2.out.mono hsz)).trans hb3, Nat.le_trans hsz2 hb3.size⟩
        · show _ = _
          rw [List.map_append, hx.out, List.take_add_one, hy.out]
          simp
        · show ∀ _, _
          intro x hxm
          rcases List.mem_append.1 hxm with h | h
          · exact h1.out x h
          · simp at h; subst h; rfl
      case measure => simp [intOf] <;> omega
    · have hkk : k = s.l.length := by omega
      clear hlt
      obtain ⟨A, c, hv, _, _⟩ := own_form ho.out
      go_wp2_with fail
      go_ret
      refine ⟨_, xs, rfl, ?_, ?_, h1, by rw [HB.out]; exact hbl.out⟩
      · rw [HB.out]; exact ho.out
      · show _ = _
        rw [hx.out, hkk, List.take_length]

def exN : List (Int × Int × Int × Int × Value) := [(2, 64, 0, 0, .slice none 0 0), (11, 0, 0, 0, .slice none 0 0), (11, 0, 0, 0, .slice none 0 0)]
theorem exN_go : goN [2, 11, 11] [2, 11, 11] 0 initN = (0, 0, ⟨[(0, -1, 1)], [], true, 1⟩) := by
  simp [goN, stepN, initN, opensC, spanN]

set_option maxHeartbeats 1600000 in
set_option maxRecDepth 100000 in
theorem awakeN (w : World) : Calls Try.prog 5 #[] w fun e w' => e = .returned (.bool true) ∧ Below w.heap.size w w' := by
  obtain ⟨W, hW⟩ : ∃ W, w.alloc (.cells (exN.flatMap insD).toArray 27) = W := ⟨_, rfl⟩
  have hb0 : Below w.heap.size w W := by rw [← hW]; exact (Below.refl _ _).alloc (Nat.le_refl _) _
  have hsz : W.heap.size = w.heap.size + 1 := by rw [← hW]; simp
  have hIL : Hid (IL W (some ⟨w.heap.size, 0, none⟩) 3 exN [2, 11, 11]) := by
    have h1 := Reads.of_new w (exN.flatMap insD) 27 15 rfl
    rw [hW] at h1
    refine ⟨⟨rfl, fun _ => ?_⟩, rfl, rfl, by simp, ?_⟩
    · obtain ⟨ad, e, hlt, hc⟩ := h1.2 (by omega)
      exact ⟨ad, e, by omega, hc⟩
    · intro x hx
      simp [exN] at hx
      rcases hx with rfl | rfl <;> rfl
  have HSP := hide (spans_any (some ⟨w.heap.size, 0, none⟩) 3 3 W exN [2, 11, 11] hIL (by omega))
  rw [exN_go] at HSP
  have HB0 := hide hb0; clear hb0
  have HW : Hid (w.alloc (.cells #[.int .i64 2, .int .u64 64, .int .u64 0, .int .i64 0, .slice none 0 0, .int .i64 11, .int .u64 0, .int .u64 0, .int .i64 0, .slice none 0 0, .int .i64 11, .int .u64 0, .int .u64 0, .int .i64 0, .slice none 0 0] 27) = W) := hW
  clear hW hsz hIL
  go_enter Try.func5, Try.ntmps5
  go_wp2_with fail
  rw [HW.out]
  refine HSP.out.mono ?_; rintro e w1 ⟨v', ss, rfl, hss, ho, hb1⟩
  have hss' := hss.out
  simp only [if_true] at hss'
  subst hss'
  obtain ⟨g, cp, rfl, hg1, hg2⟩ := ho.out.form (by decide)
  have c0 := ho.out.cells (g := g) rfl 0 (.int .i64 0) rfl
  have c1 := ho.out.cells (g := g) rfl 1 (.int .i64 (-1)) rfl
  have c2 := ho.out.cells (g := g) rfl 2 (.int .i64 1) rfl
  simp [Addr.add] at c0 c1 c2
  have HBB := hide (HB0.out.trans (hb1.out.mono HB0.out.size))
  clear HB0 hb1 hss
  go_wp2_with fail
  go_ret
  exact ⟨rfl, HBB.out⟩
end Go.Proofs.Ytdhmkapknaphpaa
