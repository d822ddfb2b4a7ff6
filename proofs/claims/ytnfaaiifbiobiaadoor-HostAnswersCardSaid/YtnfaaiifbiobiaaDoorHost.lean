/-
  host: names: contracts.
-/
import Derived.Test.YtnfaaiifbiobiaaDoorHostPure
import Derived.Test.YtnfaaiifbiobiaaDoorBase
import Derived.Test.YtnfaaiifbiobiaaDoorStrs
import Derived.Outline
namespace Go.Proofs.YtnfaaiifbiobiaaDoor
open Go.RowKit
set_option linter.unusedVariables false

/-- may a byte stand in a name? -/
def nameC (c : UInt8) : Bool := decide (33 ≤ c.toNat) && decide (c.toNat ≤ 126)
theorem namedL_eq (s : List UInt8) : namedL s = (s.all nameC && decide (0 < s.length) && decide (s.length ≤ 30)) := rfl

set_option maxHeartbeats 800000 in
theorem mnamed_any (s : List UInt8) (w : World) (hl : s.length ≤ 9223372036854775807) :
    Calls Tryd.prog 43 #[.string ⟨s.toArray⟩] w fun e w' => e = .returned (.bool (namedL s)) ∧ w = w' := by
  have hsz : (⟨s.toArray⟩ : ByteArray).size = s.length := rfl
  go_enter Tryd.func43, Tryd.ntmps43
  go_wp2_with fail
  go_loop [2, 3, 6] (fun r _ i => ∃ k : Nat, r = .bool false ∧ i = .int .i64 k ∧ k ≤ s.length ∧ Hid ((s.take k).all nameC = true)) (fun _ _ i => s.length - (intOf i).toNat)
  case atStart => exact ⟨0, rfl, rfl, by omega, by show _ = _; simp⟩
  case round =>
    obtain ⟨k, rfl, rfl, hk, hin⟩ := hrel
    by_cases hlt : k < s.length
    · obtain ⟨c, hc⟩ : ∃ c, s[k]? = some c := ⟨_, List.getElem?_eq_getElem hlt⟩
      have hat := str_at s k .i64 hc w
      have hst : s.take (k + 1) = s.take k ++ [c] := by rw [List.take_add_one, hc]; rfl
      have HST := hide hst; have HC := hide hc
      have hc255 := c.toNat_lt
      clear hst hc
      by_cases h1 : c.toNat < 33
      · have hno : Hid (namedL s = false) := by
          show _ = _
          have : s.all nameC = false := by
            rw [List.all_eq_false]
            exact ⟨c, List.mem_of_getElem? HC.out, by unfold nameC; simp; omega⟩
          rw [namedL_eq, this]; rfl
        have g1 : decide ((c.toNat : Int) < 33) = true := by simp; omega
        clear h1
        go_wp2_with fail
        go_ret
        exact ⟨by rw [hno.out]; rfl, rfl⟩
      · have g1 : decide ((c.toNat : Int) < 33) = false := by simp; omega
        by_cases h2 : 126 < c.toNat
        · have hno : Hid (namedL s = false) := by
            show _ = _
            have : s.all nameC = false := by
              rw [List.all_eq_false]
              exact ⟨c, List.mem_of_getElem? HC.out, by unfold nameC; simp; omega⟩
            rw [namedL_eq, this]; rfl
          have g2 : decide ((126 : Int) < (c.toNat : Int)) = true := by simp; omega
          clear h1 h2
          go_wp2_with fail
          go_ret
          exact ⟨by rw [hno.out]; rfl, rfl⟩
        · have g2 : decide ((126 : Int) < (c.toNat : Int)) = false := by simp; omega
          have hnx : Hid ((s.take (k + 1)).all nameC = true) := by
            show _ = _
            rw [HST.out, List.all_append, hin.out]
            simp [nameC]
            omega
          clear h1 h2
          go_wp2_with fail
          go_round
          case rel => exact ⟨k + 1, rfl, by go_num, by omega, hnx⟩
          case measure => simp [intOf] <;> omega
    · have hk2 : k = s.length := by omega
      have hall := hin.out
      rw [List.take_of_length_le (by omega)] at hall
      clear hlt
      cases s with
      | nil =>
        go_wp2_with fail
        go_ret
        exact ⟨rfl, rfl⟩
      | cons b r =>
        have hN : Hid (namedL (b :: r) = decide ((b :: r).length ≤ 30)) := by show _ = _; rw [namedL_eq, hall]; simp
        have f1 : (⟨(b :: r).toArray⟩ : ByteArray).toList.isEmpty = false := by rw [ByteArray.toList_eq]; rfl
        clear hall
        go_wp2_with fail
        go_ret
        have hdd : decide ((r.length : Int) + 1 ≤ 30) = decide ((b :: r).length ≤ 30) := decide_eq_decide.2 (by simp only [List.length_cons]; omega)
        exact ⟨by rw [hN.out, ← hdd]; rfl, rfl⟩

set_option maxHeartbeats 400000 in
theorem named_any (s : List UInt8) (w : World) (hl : s.length ≤ 9223372036854775807) :
    Calls Tryd.prog 33 #[.string ⟨s.toArray⟩] w fun e w' => e = .returned (.bool (namedL s)) ∧ w = w' := by
  have HN := hide (mnamed_any s w hl)
  have hq : (s == [42]) = decide (s = [42]) := by
    by_cases h : s = [42]
    · subst h; rfl
    · rw [decide_eq_false h]; exact beq_eq_false_iff_ne.2 h
  by_cases h : s = [42]
  · subst h
    have hn : namedL [42] = true := by decide
    rw [hn]
    clear hn hq HN
    go_enter Tryd.func33, Tryd.ntmps33
    go_wp2_with fail
    go_ret
    exact ⟨rfl, rfl⟩
  · rw [decide_eq_false h] at hq
    clear h
    go_enter Tryd.func33, Tryd.ntmps33
    go_wp2_with fail
    refine HN.out.mono ?_; rintro e w1 ⟨rfl, rfl⟩
    go_wp2_with fail
    go_ret
    exact ⟨rfl, rfl⟩

set_option maxHeartbeats 800000 in
theorem right_any (r : HR) (w : World) (hm : r.m.length ≤ 9223372036854775807) (hn : r.n.length ≤ 9223372036854775807) (hw : (r.word : Int) ≤ 18446744073709551615) :
    Calls Tryd.prog 18 #[.agg #[.string ⟨r.m.toArray⟩, .string ⟨r.n.toArray⟩, .int .i64 r.way, .int .u64 (r.word : Int)]] w fun e w' => e = .returned (.bool (rightH r)) ∧ Hid (Below w.heap.size w w') := by
  obtain ⟨m, n, k, v⟩ := r
  simp only at hm hn hw ⊢
  have H1 := hide (fun W => named_any m W hm)
  have H2 := hide (fun W => named_any n W hn)
  have hr : rightH ⟨m, n, k, v⟩ = (namedL m && namedL n && decide (0 ≤ k) && decide (k ≤ 4) && (decide (k ≠ 0) || decide (v = 0))) := rfl
  rw [hr]
  generalize namedL m = p at *
  generalize namedL n = q at *
  clear hr
  have hb : Hid (Below w.heap.size w (w.alloc (.cells #[.string ⟨m.toArray⟩, .string ⟨n.toArray⟩, .int .i64 k, .int .u64 (v : Int)] 28))) := (Below.refl _ _).alloc (Nat.le_refl _) _
  cases p with
  | false =>
    go_enter Tryd.func18, Tryd.ntmps18
    go_wp2_with fail
    refine (H1.out _).mono ?_; rintro e w1 ⟨rfl, rfl⟩
    go_wp2_with fail
    go_ret
    exact ⟨by simp, hb⟩
  | true =>
    cases q with
    | false =>
      go_enter Tryd.func18, Tryd.ntmps18
      go_wp2_with fail
      refine (H1.out _).mono ?_; rintro e w1 ⟨rfl, rfl⟩
      go_wp2_with fail
      refine (H2.out _).mono ?_; rintro e w1 ⟨rfl, rfl⟩
      go_wp2_with fail
      go_ret
      exact ⟨by simp, hb⟩
    | true =>
      by_cases h0 : 0 ≤ k
      · by_cases h5 : k < 5
        · by_cases hz : k = 0
          · subst hz
            by_cases hv : v = 0
            · subst hv
              go_enter Tryd.func18, Tryd.ntmps18
              go_wp2_with fail
              refine (H1.out _).mono ?_; rintro e w1 ⟨rfl, rfl⟩
              go_wp2_with fail
              refine (H2.out _).mono ?_; rintro e w1 ⟨rfl, rfl⟩
              go_wp2_with fail
              go_ret
              exact ⟨by simp, hb⟩
            · have fv : ((v : Int) == 0) = false := by simp; omega
              have HV := hide hv
              clear hv
              go_enter Tryd.func18, Tryd.ntmps18
              go_wp2_with fail
              refine (H1.out _).mono ?_; rintro e w1 ⟨rfl, rfl⟩
              go_wp2_with fail
              refine (H2.out _).mono ?_; rintro e w1 ⟨rfl, rfl⟩
              go_wp2_with fail
              go_ret
              exact ⟨by simp [HV.out], hb⟩
          · have fz : (k != 0) = true := by simpa using hz
            have HZ := hide hz
            clear hz
            go_enter Tryd.func18, Tryd.ntmps18
            go_wp2_with fail
            refine (H1.out _).mono ?_; rintro e w1 ⟨rfl, rfl⟩
            go_wp2_with fail
            refine (H2.out _).mono ?_; rintro e w1 ⟨rfl, rfl⟩
            go_wp2_with fail
            go_ret
            exact ⟨by have h4 : k ≤ 4 := by omega
                      simp [HZ.out, h0, h4], hb⟩
        · go_enter Tryd.func18, Tryd.ntmps18
          go_wp2_with fail
          refine (H1.out _).mono ?_; rintro e w1 ⟨rfl, rfl⟩
          go_wp2_with fail
          refine (H2.out _).mono ?_; rintro e w1 ⟨rfl, rfl⟩
          go_wp2_with fail
          go_ret
          exact ⟨by have h4 : ¬ k ≤ 4 := by omega
                    simp [h4], hb⟩
      · go_enter Tryd.func18, Tryd.ntmps18
        go_wp2_with fail
        refine (H1.out _).mono ?_; rintro e w1 ⟨rfl, rfl⟩
        go_wp2_with fail
        refine (H2.out _).mono ?_; rintro e w1 ⟨rfl, rfl⟩
        go_wp2_with fail
        go_ret
        exact ⟨by simp; intro h; omega, hb⟩

theorem beq_d (a b : List UInt8) : (a == b) = decide (a = b) := by
  by_cases h : a = b
  · subst h; simp
  · rw [decide_eq_false h]; exact beq_eq_false_iff_ne.2 h
set_option maxHeartbeats 800000 in
theorem fits_any (r : HR) (xm xn : List UInt8) (sg : Int) (w : World) :
    Calls Tryd.prog 22 #[.agg #[.string ⟨r.m.toArray⟩, .string ⟨r.n.toArray⟩, .int .i64 r.way, .int .u64 (r.word : Int)], .agg #[.string ⟨xm.toArray⟩, .string ⟨xn.toArray⟩, .int .i64 sg]] w fun e w' => e = .returned (.bool (fitsH r xm xn)) ∧ Hid (Below w.heap.size w w') := by
  obtain ⟨m, n, k, v⟩ := r
  have hr : fitsH ⟨m, n, k, v⟩ xm xn = ((m == [42] || m == xm) && (n == [42] || n == xn)) := by unfold fitsH; simp only [beq_d]
  rw [hr]
  clear hr
  have hb : Hid (Below w.heap.size w ((w.alloc (.cells #[.string ⟨m.toArray⟩, .string ⟨n.toArray⟩, .int .i64 k, .int .u64 (v : Int)] 28)).alloc (.cells #[.string ⟨xm.toArray⟩, .string ⟨xn.toArray⟩, .int .i64 sg] 35))) := ((Below.refl _ _).alloc (Nat.le_refl _) _).alloc (by simp) _
  cases h1 : (m == [42]) <;> cases h2 : (m == xm) <;> cases h3 : (n == [42]) <;> cases h4 : (n == xn)
  all_goals
    go_enter Tryd.func22, Tryd.ntmps22
    go_wp2_with fail
    go_ret
    exact ⟨rfl, hb⟩
end Go.Proofs.YtnfaaiifbiobiaaDoor
