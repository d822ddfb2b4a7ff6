/-
  host: a new host: contract.
-/
import Derived.Test.YtnfaaiifbiobiaaDoorHostE
import Derived.Test.YtnfaaiifbiobiaaDoorRegionT
import Derived.Laws.MakeOwn
import Derived.Lib.SliceRun
namespace Go.Proofs.YtnfaaiifbiobiaaDoor
open Go.RowKit
set_option linter.unusedVariables false

/-- strings of any length that is, words of 64 bits -/
def Fair (rs : List HR) : Prop := ∀ r ∈ rs, r.m.length ≤ 9223372036854775807 ∧ r.n.length ≤ 9223372036854775807 ∧ r.word ≤ 18446744073709551615
theorem rule_elem : IsElem Tryd.prog 22 28 4 48 := IsElem.mk' Tryd.underlying22 (z := .agg #[.string ⟨#[]⟩, .string ⟨#[]⟩, .int .i64 0, .int .u64 0]) (by kernel_rfl) rfl (by omega)
theorem hrV_one (rs : List HR) : ∀ u ∈ rs.flatMap hrV, u.oneCell' = true := by
  intro u hu
  obtain ⟨r, _, hu⟩ := List.mem_flatMap.1 hu
  simp only [hrV, List.mem_cons, List.not_mem_nil, or_false] at hu
  rcases hu with rfl | rfl | rfl | rfl <;> rfl

set_option maxHeartbeats 800000 in
theorem new1_any (r : HR) (w : World) (hm : r.m.length ≤ 9223372036854775807 ∧ r.n.length ≤ 9223372036854775807 ∧ r.word ≤ 18446744073709551615) :
    Calls Tryd.prog 17 #[.agg #[.string ⟨r.m.toArray⟩, .string ⟨r.n.toArray⟩, .int .i64 r.way, .int .u64 (r.word : Int)]] w fun e w' => e = .returned (.bool (!rightH r)) ∧ Hid (Below w.heap.size w w') := by
  have HF := hide (fun W => right_any r W hm.1 hm.2.1 (by omega))
  obtain ⟨W, hW⟩ : ∃ W, w.alloc (.cells #[.string ⟨r.m.toArray⟩, .string ⟨r.n.toArray⟩, .int .i64 r.way, .int .u64 (r.word : Int)] 28) = W := ⟨_, rfl⟩
  have hb : Below w.heap.size w W := by rw [← hW]; exact (Below.refl _ _).alloc (Nat.le_refl _) _
  have hr : W.heap[w.heap.size]? = some (.cells #[.string ⟨r.m.toArray⟩, .string ⟨r.n.toArray⟩, .int .i64 r.way, .int .u64 (r.word : Int)] 28 (0, 0)) := by rw [← hW]; exact heap_alloc_new w _
  have a0 := cell_blk hr 0
  have a1 := cell_blk hr 1
  have a2 := cell_blk hr 2
  have a3 := cell_blk hr 3
  simp at a0 a1 a2 a3
  have HB := hide hb; have HW := hide hW
  clear hb hW hr hm
  go_enter Tryd.func17, Tryd.ntmps17
  go_upto_region 1 with fail
  rw [HW.out]
  go_wp2_with fail
  refine (HF.out W).mono ?_; rintro e w2 ⟨rfl, h2⟩
  go_wp2_with fail
  go_ret
  exact ⟨rfl, HB.out.trans (h2.out.mono HB.out.size)⟩

/-- the first rule that is not right, from place i on -/
def findN : List HR → Nat → Option Nat
  | [], _ => none
  | r :: l, i => if rightH r then findN l (i + 1) else some i
theorem findN_drop (rs : List HR) {k : Nat} {r : HR} (hr : rs[k]? = some r) (i : Nat) : findN (rs.drop k) i = if rightH r then findN (rs.drop (k + 1)) (i + 1) else some i := by
  obtain ⟨j1, j2⟩ := List.getElem?_eq_some_iff.1 hr
  rw [List.drop_eq_getElem_cons j1, j2]
  rfl
theorem findN_any (rs : List HR) : ∀ i, (findN rs i).isSome = !(rs.all rightH) := by
  induction rs with
  | nil => intro i; rfl
  | cons r l ih =>
    intro i
    unfold findN
    cases h : rightH r with
    | true => simp [ih (i + 1), h]
    | false => simp [h]
set_option maxRecDepth 100000 in
set_option maxHeartbeats 1600000 in
theorem indexNew_any (A : Option Addr) (c n : Nat) (rs : List HR) (w : World) (hr : Hid (Reads w w.heap.size 4 A rs.length (rs.flatMap hrV))) (hn : Hid (rs.length = n)) (hl : n ≤ 1000) (hfair : Hid (Fair rs)) :
    Calls Tryd.prog 20 #[.slice A n c, .func (.func 17) #[] #[]] w fun e w' => e = .returned (.int .i64 (idxI (findN rs 0))) ∧ Hid (Below w.heap.size w w') := by
  go_enter Tryd.func20, Tryd.ntmps20
  go_wp2_with fail
  go_loopw [4, 5, 8] (fun r v i w1 => ∃ k : Nat, r = .int .i64 0 ∧ i = .int .i64 k ∧ k ≤ n ∧ Hid (Below w.heap.size w w1) ∧ Hid (findN rs 0 = findN (rs.drop k) k)) (fun _ _ i _ => n - (intOf i).toNat)
  case atStart => exact ⟨0, rfl, rfl, by omega, Below.refl _ _, rfl⟩
  case round =>
    obtain ⟨k, rfl, rfl, hk, hbw, hf⟩ := hrel
    by_cases hlt : k < n
    · obtain ⟨ad, r, rfl, hrr, u0, u1, u2, u3, _⟩ := rule_at (hr.out.below hbw.out) (i := k) (by rw [hn.out]; exact hlt)
      have hfr := hfair.out r (List.mem_of_getElem? hrr.out)
      have HC := hide (new1_any r wr hfr)
      have hstep := findN_drop rs hrr.out k
      rw [← hf.out] at hstep
      cases hq : rightH r with
      | false =>
        rw [hq, if_neg (by simp)] at hstep
        rw [hq] at HC
        have HS : Hid (findN rs 0 = some k) := hstep
        clear hstep hq hf hrr hfr
        simp only [Bool.not_false] at HC
        go_wp2_with fail
        refine HC.out.mono ?_; rintro e w2 ⟨rfl, h2⟩
        go_wp2_with fail
        go_ret
        exact ⟨by rw [HS.out]; rfl, hbw.out.trans (h2.out.mono hbw.out.size)⟩
      | true =>
        rw [hq, if_pos rfl] at hstep
        rw [hq] at HC
        have HS : Hid (findN rs 0 = findN (rs.drop (k + 1)) (k + 1)) := hstep
        clear hstep hq hf hrr hfr
        simp only [Bool.not_true] at HC
        go_wp2_with fail
        refine HC.out.mono ?_; rintro e w2 ⟨rfl, h2⟩
        have HB2 : Hid (Below w.heap.size w w2) := hbw.out.trans (h2.out.mono hbw.out.size)
        clear h2 HC u0 u1 u2 u3
        go_wp2_with fail
        go_roundw
        case rel => exact ⟨k + 1, rfl, by go_num, by omega, HB2, HS⟩
        case measure => simp [intOf] <;> omega
    · have hnone : Hid (findN rs 0 = none) := by
        have := hf.out
        rw [List.drop_of_length_le (by have := hn.out; omega)] at this
        exact this
      clear hf
      go_wp2_with fail
      go_ret
      exact ⟨by rw [hnone.out]; rfl, hbw⟩
set_option maxRecDepth 100000 in
set_option maxHeartbeats 800000 in
theorem containsNew_any (A : Option Addr) (c n : Nat) (rs : List HR) (w : World) (hr : Hid (Reads w w.heap.size 4 A rs.length (rs.flatMap hrV))) (hn : Hid (rs.length = n)) (hl : n ≤ 1000) (hfair : Hid (Fair rs)) :
    Calls Tryd.prog 16 #[.slice A n c, .func (.func 17) #[] #[]] w fun e w' => e = .returned (.bool (!(rs.all rightH))) ∧ Hid (Below w.heap.size w w') := by
  have HI := hide (indexNew_any A c n rs w hr hn hl hfair)
  rw [← findN_any rs 0]
  cases hq : findN rs 0 with
  | none =>
    rw [hq] at HI
    clear hq
    go_enter Tryd.func16, Tryd.ntmps16
    go_wp2_with fail
    refine HI.out.mono ?_; rintro e w2 ⟨rfl, h2⟩
    simp only [idxI]
    go_wp2_with fail
    go_ret
    exact ⟨rfl, h2⟩
  | some k =>
    rw [hq] at HI
    clear hq
    go_enter Tryd.func16, Tryd.ntmps16
    go_wp2_with fail
    refine HI.out.mono ?_; rintro e w2 ⟨rfl, h2⟩
    simp only [idxI]
    go_wp2_with fail
    go_ret
    exact ⟨by first | rfl | simp, h2⟩

set_option maxRecDepth 100000 in
set_option maxHeartbeats 800000 in
theorem clone_any (A : Option Addr) (c n : Nat) (rs : List HR) (w : World) (hr : Hid (Reads w w.heap.size 4 A n (rs.flatMap hrV))) (hl : n ≤ 1000) :
    Calls Tryd.prog 19 #[.slice A n c] w fun e w' => ∃ A1 c1, e = .returned (.slice A1 n c1) ∧ Hid (w'.ownsRow w.heap.size 28 4 (.slice A1 n c1) n (rs.flatMap hrV)) ∧ Hid (Below w.heap.size w w') := by
  cases A with
  | none =>
    have hn0 : n = 0 := by
      rcases Nat.eq_zero_or_pos n with h | h
      · exact h
      · obtain ⟨ad, h2, _⟩ := hr.out.2 h
        cases h2
    subst hn0
    have h0 : rs.flatMap hrV = [] := List.eq_nil_of_length_eq_zero (by simpa using hr.out.1)
    rw [h0]
    clear hr h0
    have q22 := fun (w : World) (a : Option Addr) (n c n' c' : Nat) => Lib.run_eql_slice_nil (P := Tryd.prog) w 22 28 a n c n' c' Tryd.underlying22
    go_enter Tryd.func19, Tryd.ntmps19
    go_wp2_with fail
    go_ret
    exact ⟨none, 0, rfl, own_nil _ _ _ _, Below.refl _ _⟩
  | some ad =>
    have hroom : Room 0 n 48 := room_of (by omega) (by omega)
    have hone := hide (hrV_one rs)
    obtain ⟨W, hW⟩ : ∃ W, w.alloc (.cells #[] 28) = W := ⟨_, rfl⟩
    have hb : Below w.heap.size w W := by rw [← hW]; exact (Below.refl _ _).alloc (Nat.le_refl _) _
    have hh : W.heap[w.heap.size]? = some (.cells #[] 28 (0, 0)) := by rw [← hW]; exact heap_alloc_new w _
    have hown : Hid (W.ownsRow w.heap.size 28 4 (.slice (some ⟨w.heap.size, 0, none⟩) 0 0) 0 []) := ⟨by simp, .inr ⟨w.heap.size, 0, #[], rfl, Nat.le_refl _, hh, Nat.le_refl _, by unfold maxLen; omega, by simp, by simp⟩⟩
    have hrW : Hid (Reads W w.heap.size 4 (some ad) n (rs.flatMap hrV)) := hr.out.below hb
    have hsz : w.heap.size ≤ W.heap.size := hb.size
    have HB := hide hb; have HW := hide hW
    clear hb hW hh hr
    have q22 := fun (w : World) (a : Option Addr) (n c n' c' : Nat) => Lib.run_eql_slice_nil (P := Tryd.prog) w 22 28 a n c n' c' Tryd.underlying22
    go_enter Tryd.func19, Tryd.ntmps19
    go_wp2_with (at_builtin; rw [HW.out]; refine wpList_append_any rfl _ _ rfl w.heap.size rule_elem (.slice (some ⟨w.heap.size, 0, none⟩) 0 0) 0 [] rfl hown.out w.heap.size (some ad) n c (rs.flatMap hrV) rfl hrW.out hone.out hroom hsz ?_; intro v' w' ho' hg')
    rw [Nat.zero_add, List.nil_append] at ho'
    obtain ⟨A2, c2, hv2, hc2, _⟩ := own_form ho'
    subst hv2
    have HO' := hide ho'
    have HG' := hide hg'
    clear ho' hg' hc2
    go_wp2_with fail
    go_ret
    exact ⟨A2, c2, rfl, HO', HB.out.grown HG'.out.by_ hsz (own_ge hown.out)⟩
end Go.Proofs.YtnfaaiifbiobiaaDoor
