/-
  host's laws: awake; names, rules, types: contracts.
-/
import Derived.Test.YtnfaaiifbiobiaaDoorHostI
namespace Go.Proofs.YtnfaaiifbiobiaaDoor
open Go.RowKit
set_option linter.unusedVariables false

theorem type_elem : IsElem Tryd.prog 44 54 1 1 := IsElem.mk' Tryd.underlying44 (z := .int .u8 0) (by kernel_rfl) rfl (by omega)
set_option maxHeartbeats 800000 in
theorem to_any (A : Option Addr) (cap : Nat) (ts : List UInt8) (w : World) (hr : Hid (Reads w w.heap.size 1 A ts.length (ts.map B))) (hl : ts.length ≤ 1000) :
    Calls Tryd.prog 11 #[.slice A ts.length cap] w fun e w' => ∃ A2 c2, e = .returned (.slice A2 ts.length c2) ∧ Hid (Reads w' w'.heap.size 1 A2 ts.length (ts.map B)) ∧ Hid (∀ ad, A2 = some ad → w.heap.size ≤ ad.block) ∧ Hid (Below w.heap.size w w') := by
  obtain ⟨base, hbase⟩ : ∃ b, w.heap.size = b := ⟨_, rfl⟩
  have HBA := hide hbase
  rw [hbase] at hr
  clear hbase
  go_enter Tryd.func11, Tryd.ntmps11
  go_wp2_with fail
  go_loopw [3, 4] (fun v i w1 => ∃ k : Nat, i = .int .i64 k ∧ k ≤ ts.length ∧ Hid (w1.ownsRow base 54 1 v k ((ts.take k).map B)) ∧ Hid (Below base w w1) ∧ base ≤ w1.heap.size) (fun _ i _ => ts.length - (intOf i).toNat)
  case atStart => exact ⟨0, rfl, by omega, own_nil _ _ _ _, Below.refl _ _, by rw [HBA.out]; omega⟩
  case round =>
    obtain ⟨k, rfl, hk, ho, hb, hbs⟩ := hrel
    by_cases hlt : k < ts.length
    · have hrk : Reads wr base 1 A ts.length (ts.map B) := hr.out.below hb.out
      obtain ⟨ad, c, rfl, hc, hcell, hc0, hc1⟩ := hrk.byte (k := k) hlt
      have hst : ts.take (k + 1) = ts.take k ++ [c] := by rw [List.take_add_one, hc.out]; rfl
      have HST := hide hst
      have hroom : Room k 1 1 := room_of (by omega) (by omega)
      clear hrk hst
      go_wp2_with (at_builtin; refine wpList_push rfl _ _ rfl base type_elem _ k ((ts.take k).map B) rfl wr _ _ rfl ho.out rfl rfl hroom hbs ?_; intro v' w' ho' hg')
      go_roundw
      case rel =>
        refine ⟨k + 1, by go_num, by omega, ?_, hb.out.grown hg'.by_ hbs (own_ge ho.out), Nat.le_trans hbs hg'.by_.size⟩
        show World.ownsRow _ _ _ _ _ _ _
        rw [HST.out, List.map_append, List.map_singleton]
        exact ho'
      case measure => simp [intOf] <;> omega
    · have hkn : k = ts.length := by omega
      subst hkn
      have hfull := ho.out
      rw [List.take_length] at hfull
      obtain ⟨A2, c2, hv, hc2, _⟩ := own_form hfull
      subst hv
      have HF := hide hfull
      clear hlt hfull ho
      go_wp2_with fail
      go_ret
      exact ⟨A2, c2, rfl, Reads.of_own HF.out, by rw [HBA.out]; exact fun ad e => own_ge HF.out ad.block (by rw [e]; rfl), by rw [HBA.out]; exact hb⟩

set_option maxHeartbeats 800000 in
theorem lnamed_any (s : List UInt8) (w : World) (hl : s.length ≤ 9223372036854775807) :
    Calls Tryd.prog 15 #[.string ⟨s.toArray⟩] w fun e w' => e = .returned (.bool (namedL s)) ∧ w = w' := by
  have hsz : (⟨s.toArray⟩ : ByteArray).size = s.length := rfl
  go_enter Tryd.func15, Tryd.ntmps15
  go_wp2_with fail
  go_loop [2, 3] (fun r i => ∃ k : Nat, r = .bool false ∧ i = .int .i64 k ∧ k ≤ s.length ∧ Hid ((s.take k).all nameC = true)) (fun _ i => s.length - (intOf i).toNat)
  case atStart => exact ⟨0, rfl, rfl, by omega, by show _ = _; simp⟩
  case round =>
    obtain ⟨k, rfl, rfl, hk, hin⟩ := hrel
    by_cases hlt : k < s.length
    · obtain ⟨c, hc⟩ : ∃ c, s[k]? = some c := ⟨_, List.getElem?_eq_getElem hlt⟩
      have hat := str_at s k .i64 hc w
      have hst : s.take (k + 1) = s.take k ++ [c] := by rw [List.take_add_one, hc]; rfl
      have HST := hide hst; have HC := hide hc
      have hc255 := c.toNat_lt
      clear hst hc
      by_cases h1 : c.toNat < 33
      · have hno : Hid (namedL s = false) := by
          show _ = _
          have : s.all nameC = false := by
            rw [List.all_eq_false]
            exact ⟨c, List.mem_of_getElem? HC.out, by unfold nameC; simp; omega⟩
          rw [namedL_eq, this]; rfl
        have g1 : decide ((c.toNat : Int) < 33) = true := by simp; omega
        clear h1
        go_wp2_with fail
        go_ret
        exact ⟨by rw [hno.out]; rfl, rfl⟩
      · have g1 : decide ((c.toNat : Int) < 33) = false := by simp; omega
        by_cases h2 : 126 < c.toNat
        · have hno : Hid (namedL s = false) := by
            show _ = _
            have : s.all nameC = false := by
              rw [List.all_eq_false]
              exact ⟨c, List.mem_of_getElem? HC.out, by unfold nameC; simp; omega⟩
            rw [namedL_eq, this]; rfl
          have g2 : decide ((126 : Int) < (c.toNat : Int)) = true := by simp; omega
          clear h1 h2
          go_wp2_with fail
          go_ret
          exact ⟨by rw [hno.out]; rfl, rfl⟩
        · have g2 : decide ((126 : Int) < (c.toNat : Int)) = false := by simp; omega
          have hnx : Hid ((s.take (k + 1)).all nameC = true) := by
            show _ = _
            rw [HST.out, List.all_append, hin.out]
            simp [nameC]
            omega
          clear h1 h2
          go_wp2_with fail
          go_round
          case rel => exact ⟨k + 1, rfl, by go_num, by omega, hnx⟩
          case measure => simp [intOf] <;> omega
    · have hk2 : k = s.length := by omega
      have hall := hin.out
      rw [List.take_of_length_le (by omega)] at hall
      clear hlt
      have hN : Hid (namedL s = (decide (0 < s.length) && decide (s.length ≤ 30))) := by show _ = _; rw [namedL_eq, hall]; simp
      clear hall hin
      by_cases h0 : 0 < s.length
      · go_wp2_with fail
        go_ret
        exact ⟨by rw [hN.out, decide_eq_true h0, Bool.true_and]; simp; omega, rfl⟩
      · go_wp2_with fail
        go_ret
        exact ⟨by rw [hN.out, decide_eq_false h0]; simp, rfl⟩

set_option maxHeartbeats 800000 in
theorem lright_any (r : HR) (w : World) (hm : r.m.length ≤ 9223372036854775807) (hn : r.n.length ≤ 9223372036854775807) (hw : (r.word : Int) ≤ 18446744073709551615) :
    Calls Tryd.prog 7 #[.agg #[.string ⟨r.m.toArray⟩, .string ⟨r.n.toArray⟩, .int .i64 r.way, .int .u64 (r.word : Int)]] w fun e w' => e = .returned (.bool (rightH r)) ∧ Hid (Below w.heap.size w w') := by
  obtain ⟨m, n, k, v⟩ := r
  simp only at hm hn hw ⊢
  have H1 := hide (fun W => lnamed_any m W hm)
  have H2 := hide (fun W => lnamed_any n W hn)
  have hr : rightH ⟨m, n, k, v⟩ = (namedL m && namedL n && decide (0 ≤ k) && decide (k ≤ 4) && (decide (k ≠ 0) || decide (v = 0))) := rfl
  rw [hr]
  generalize namedL m = p at *
  generalize namedL n = q at *
  clear hr
  have hb : Hid (Below w.heap.size w (w.alloc (.cells #[.string ⟨m.toArray⟩, .string ⟨n.toArray⟩, .int .i64 k, .int .u64 (v : Int)] 28))) := (Below.refl _ _).alloc (Nat.le_refl _) _
  cases p with
  | false =>
    go_enter Tryd.func7, Tryd.ntmps7
    go_wp2_with fail
    refine (H1.out _).mono ?_; rintro e w1 ⟨rfl, rfl⟩
    go_wp2_with fail
    go_ret
    exact ⟨by simp, hb⟩
  | true =>
    cases q with
    | false =>
      go_enter Tryd.func7, Tryd.ntmps7
      go_wp2_with fail
      refine (H1.out _).mono ?_; rintro e w1 ⟨rfl, rfl⟩
      go_wp2_with fail
      refine (H2.out _).mono ?_; rintro e w1 ⟨rfl, rfl⟩
      go_wp2_with fail
      go_ret
      exact ⟨by simp, hb⟩
    | true =>
      have hcase : (k < 0) ∨ (4 < k) ∨ (0 < k ∧ k ≤ 4) ∨ (k = 0 ∧ v = 0) ∨ (k = 0 ∧ v ≠ 0) := by omega
      rcases hcase with h | h | ⟨h, h'⟩ | ⟨rfl, rfl⟩ | ⟨rfl, hv⟩
      · go_enter Tryd.func7, Tryd.ntmps7
        go_wp2_with fail
        refine (H1.out _).mono ?_; rintro e w1 ⟨rfl, rfl⟩
        go_wp2_with fail
        refine (H2.out _).mono ?_; rintro e w1 ⟨rfl, rfl⟩
        go_wp2_with fail
        go_ret
        exact ⟨by have h4 : ¬ 0 ≤ k := by omega
                  simp [h4], hb⟩
      · have h0 : 0 ≤ k := by omega
        go_enter Tryd.func7, Tryd.ntmps7
        go_wp2_with fail
        refine (H1.out _).mono ?_; rintro e w1 ⟨rfl, rfl⟩
        go_wp2_with fail
        refine (H2.out _).mono ?_; rintro e w1 ⟨rfl, rfl⟩
        go_wp2_with fail
        go_ret
        exact ⟨by have h4 : ¬ k ≤ 4 := by omega
                  simp [h4], hb⟩
      · have h0 : 0 ≤ k := by omega
        go_enter Tryd.func7, Tryd.ntmps7
        go_wp2_with fail
        refine (H1.out _).mono ?_; rintro e w1 ⟨rfl, rfl⟩
        go_wp2_with fail
        refine (H2.out _).mono ?_; rintro e w1 ⟨rfl, rfl⟩
        go_wp2_with fail
        go_ret
        exact ⟨by have h4 : ¬ k = 0 := by omega
                  simp [h0, h', h4], hb⟩
      · go_enter Tryd.func7, Tryd.ntmps7
        go_wp2_with fail
        refine (H1.out _).mono ?_; rintro e w1 ⟨rfl, rfl⟩
        go_wp2_with fail
        refine (H2.out _).mono ?_; rintro e w1 ⟨rfl, rfl⟩
        go_wp2_with fail
        go_ret
        exact ⟨by simp, hb⟩
      · have fv : ((v : Int) == 0) = false := by simp; omega
        have HV := hide hv
        clear hv
        go_enter Tryd.func7, Tryd.ntmps7
        go_wp2_with fail
        refine (H1.out _).mono ?_; rintro e w1 ⟨rfl, rfl⟩
        go_wp2_with fail
        refine (H2.out _).mono ?_; rintro e w1 ⟨rfl, rfl⟩
        go_wp2_with fail
        go_ret
        exact ⟨by simp [HV.out], hb⟩

/-- the document's example -/
def exT : List UInt8 := [101, 110, 118, 32, 42, 32, 99, 111, 110, 115, 116, 32, 55]
def exR : HR := ⟨[101, 110, 118], [42], 1, 7⟩
theorem exR_right : rightH exR = true := by decide
theorem exR_text : printH exR = exT := by
  unfold printH partsH
  rw [if_pos exR_right]
  have h7 : Lib.itoa (signV 64 7) = [55] := by
    rw [itoa_64 7 (by omega), if_neg (by omega), digL_small (by omega)]
    rfl
  show Lib.join ([101, 110, 118] :: [42] :: wayL 1 :: (if (1 : Int) = 0 then [] else [Lib.itoa (signV 64 7)])) [32] = _
  rw [if_neg (by omega), h7]
  rfl
theorem ex_ok : okH exT = true := by rw [← exR_text]; exact okH_print exR_right (by decide)
theorem ex_rule : parseH exT = exR := by rw [← exR_text]; exact parse_print exR_right (by decide)
end Go.Proofs.YtnfaaiifbiobiaaDoor
