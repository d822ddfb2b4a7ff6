/-
  The document's blocks: Spans, stands: contracts.
-/
import Derived.Test.YtdhmkapknaphpaaRefBlk
namespace Go.Proofs.Ytdhmkapknaphpaa
open Go.RowKit
set_option linter.unusedVariables false

def SpPost (w : World) (r : Nat × Nat) (e : Ending) (w' : World) : Prop :=
  ∃ (A : Option Addr) (m c : Nat), e = .returned (.tuple #[.slice A m c, .int .i64 (r.1 : Int), .int .i64 (r.2 : Int)]) ∧ Hid (Below w.heap.size w w')

set_option maxHeartbeats 1600000 in
theorem refSpans_any (Al : Option Addr) (n cl : Nat) (xs : List (Int × Int × Int × Int × Value)) (cs : List Int) (hn : n ≤ 100000) (w : World) (hI : Hid (IL w Al n xs cs)) :
    Calls Try.prog 41 #[.slice Al n cl] w (SpPost w (refSp cs)) := by
  have hcn : cs.length = n := by rw [← hI.out.codes, List.length_map, hI.out.len]
  have HBK := hide (refBlock_any Al n cl xs cs hn (cs.length + 1) 0 0 w hI (by omega) (by omega) (by omega))
  have hle := blockP_le cs (cs.length + 1) 0 0 (by omega)
  obtain ⟨r, hr⟩ : ∃ r, refSp cs = r := ⟨_, rfl⟩
  rw [hr]
  unfold refSp at hr
  obtain ⟨q, hq⟩ : ∃ q, blockP cs (cs.length + 1) 0 0 = q := ⟨_, rfl⟩
  rw [hq] at HBK hle hr
  simp only at hr
  rw [hcn] at hle hr
  have HCN := hide hcn
  clear hcn hq
  have hr' := hr
  have HR := hide hr; clear hr hr'
  go_enter Try.func41, Try.ntmps41
  go_wp2_with fail
  refine HBK.out.mono ?_; rintro e w1 ⟨A, m, c, us, rfl, ho, hu, hb, hm⟩
  have hI1 := hide (hI.out.stay hb.out)
  by_cases he : q.2 = 0
  · have f0 : ((q.2 : Int) != 0) = false := by simp; omega
    have hr := HR.out
    rw [if_neg (fun x => x he)] at hr
    have HE := hide he
    clear he
    by_cases hl : q.1 = n
    · have fl : ((q.1 : Int) == (n : Int)) = true := by simp; omega
      rw [if_pos (.inl hl)] at hr
      subst hr
      clear hl
      go_wp2_with fail
      go_ret3
      exact ⟨none, 0, 0, rfl, hb⟩
    · have hlt : q.1 < n := by omega
      have fl : ((q.1 : Int) == (n : Int)) = false := by simp; omega
      obtain ⟨ad, c5, rfl, hc5, hcell⟩ := hI1.out.code1 hlt
      have hbd := hI.out.bd c5 (List.mem_of_getElem? hc5.out)
      by_cases h5 : c5 = 5
      · subst h5
        rw [if_pos (.inr hc5.out)] at hr
        subst hr
        clear hl
        go_wp2_with fail
        go_ret3
        exact ⟨none, 0, 0, rfl, hb⟩
      · have f5 : (c5 == 5) = false := by simpa using h5
        have hn5 : ¬ (q.1 = n ∨ cs[q.1]? = some 5) := by
          rintro (x | x)
          · exact hl x
          · rw [hc5.out] at x; injection x with x; exact h5 x
        rw [if_neg hn5] at hr
        have HN5 := hide hn5
        clear hl h5 hn5
        by_cases h6 : q.1 + 1 < n
        · rw [if_pos h6] at hr
          subst hr
          go_wp2_with fail
          go_ret3
          exact ⟨none, 0, 0, rfl, hb⟩
        · rw [if_neg h6] at hr
          subst hr
          have hn1 : n ≤ q.1 + 1 := by omega
          clear h6
          obtain ⟨A2, c2, hv, _, _⟩ := own_form ho.out
          clear hv
          go_wp2_with fail
          go_ret3
          exact ⟨A, m, c, rfl, hb⟩
  · have f0 : ((q.2 : Int) != 0) = true := by simp; omega
    have hr := HR.out
    rw [if_pos he] at hr
    subst hr
    clear he
    go_wp2_with fail
    go_ret3
    exact ⟨none, 0, 0, rfl, hb⟩

set_option maxHeartbeats 400000 in
theorem stands_any (Al : Option Addr) (n cl : Nat) (xs : List (Int × Int × Int × Int × Value)) (cs : List Int) (hn : n ≤ 100000) (w : World) (hI : Hid (IL w Al n xs cs)) :
    Calls Try.prog 20 #[.slice Al n cl] w fun e w' => e = .returned (.tuple #[.int .i64 ((goP cs 0 initN).1 : Int), .int .i64 ((goP cs 0 initN).2 : Int)]) ∧ Hid (Below w.heap.size w w') := by
  have HS := hide (refSpans_any Al n cl xs cs hn w hI)
  rw [refSp_go] at HS
  obtain ⟨r, hr⟩ : ∃ r, goP cs 0 initN = r := ⟨_, rfl⟩
  rw [hr] at HS ⊢
  clear hr
  go_enter Try.func20, Try.ntmps20
  go_wp2_with fail
  refine HS.out.mono ?_; rintro e w1 ⟨A, m, c, rfl, hb⟩
  go_wp2_with fail
  go_ret2
  exact ⟨rfl, hb⟩
end Go.Proofs.Ytdhmkapknaphpaa
