/-
  The document's answers on texts of numbers: contracts.
-/
import Derived.Test.YtnfaaiifbiobiaaGreatDoorStrs
import Derived.Test.YtnfaaiifbiobiaaGreatDoorConvI
namespace Go.Proofs.YtnfaaiifbiobiaaGreatDoor
open Go.RowKit
set_option linter.unusedVariables false

def preL (b v : Nat) : List UInt8 := if v = 0 then [] else digL b v
theorem preL_step {b v : Nat} (hb : 2 ≤ b) : digL b v = preL b (v / b) ++ [digC (v % b)] := by
  unfold preL
  by_cases h : v < b
  · rw [if_pos (Nat.div_eq_of_lt h), digL_small h, Nat.mod_eq_of_lt h]; rfl
  · have h1 : 1 ≤ v / b := (Nat.one_le_div_iff (by omega)).2 (by omega)
    rw [if_neg (by omega), digL_big hb (by omega)]
theorem hex16_at : ∀ d : Fin 16, ([48, 49, 50, 51, 52, 53, 54, 55, 56, 57, 97, 98, 99, 100, 101, 102] : List UInt8)[d.val]? = some (digC d.val) := by decide +kernel
theorem hex16_piece (d : Nat) (h : d < 16) : (([48, 49, 50, 51, 52, 53, 54, 55, 56, 57, 97, 98, 99, 100, 101, 102] : List UInt8).drop d).take (d + 1 - d) = [digC d] := by
  have h1 := hex16_at ⟨d, h⟩
  simp only at h1
  obtain ⟨h2, h3⟩ := List.getElem?_eq_some_iff.1 h1
  rw [List.drop_eq_getElem_cons h2, h3, show d + 1 - d = 1 from by omega]
  rfl


def emptyV : Value → Nat
  | .string s => if s.size = 0 then 1 else 0
  | _ => 0
theorem emptyV_cat (c : UInt8) (tl : List UInt8) : emptyV (.string (⟨#[c]⟩ ++ ⟨tl.toArray⟩)) = 0 := by
  have h := str_cat [c] tl
  have h2 : (⟨#[c]⟩ : ByteArray) ++ ⟨tl.toArray⟩ = ⟨([c] ++ tl).toArray⟩ := h
  rw [h2]
  have hs : (⟨([c] ++ tl).toArray⟩ : ByteArray).size = tl.length + 1 := by show ([c] ++ tl).toArray.size = _; simp
  show (if (⟨([c] ++ tl).toArray⟩ : ByteArray).size = 0 then 1 else 0) = 0
  rw [hs, if_neg (by omega)]
theorem emptyV_one (c : UInt8) : emptyV (.string ⟨#[c]⟩) = 0 := rfl

set_option maxHeartbeats 1600000 in
set_option maxRecDepth 100000 in
theorem refDigits_10 (a : Nat) (w : World) (ha : a ≤ 18446744073709551615) :
    Calls Tryz.prog 23 #[.int .u64 a, .int .u64 10] w (SaysP w (digL 10 a)) := by
  obtain ⟨base, hbase⟩ : ∃ q, w.heap.size = q := ⟨_, rfl⟩
  have HW := hide hbase; clear hbase
  go_enter Tryz.func23, Tryz.ntmps23
  go_wp2_with fail
  go_loopw [0, 5] (fun va vs w2 => ∃ (v : Nat) (tl : List UInt8), va = .int .u64 v ∧ vs = .string ⟨tl.toArray⟩ ∧ v ≤ 18446744073709551615 ∧ Hid ((tl = [] ∧ v = a) ∨ (tl ≠ [] ∧ digL 10 a = preL 10 v ++ tl)) ∧ Hid (Below base w w2) ∧ tl.length ≤ 70 ∧ Hid (v < 10 ^ (70 - tl.length))) (fun va vs _ => (intOf va).toNat + emptyV vs)
  case atStart => exact ⟨a, [], rfl, rfl, ha, .inl ⟨rfl, rfl⟩, Below.refl _ _, by simp, by show _ < _; simp; omega⟩
  case round =>
    obtain ⟨v, tl, rfl, rfl, hv, hin, hb, hl0, hpow⟩ := hrel
    by_cases hgo : tl = [] ∨ 0 < v
    · have hsl : ∀ W, (Instr.slice 9 (.string ⟨#[48, 49, 50, 51, 52, 53, 54, 55, 56, 57, 97, 98, 99, 100, 101, 102]⟩) (some (.int .u64 ((v : Int) % 10))) (some (.int .u64 ((v : Int) % 10 + 1))) none).run Tryz.prog W = .ok (.string ⟨#[digC (v % 10)]⟩) W := fun W => by
        have h := str_mid [48, 49, 50, 51, 52, 53, 54, 55, 56, 57, 97, 98, 99, 100, 101, 102] (v % 10) (v % 10 + 1) .u64 .u64 (by omega) (by simp; omega) W
        rw [hex16_piece _ (by omega), Int.natCast_add, Int.natCast_emod] at h
        exact h
      have hl1 : tl.length < 70 := by
        apply Decidable.byContradiction
        intro hn
        have h7 : tl.length = 70 := by omega
        have := hpow.out
        rw [h7] at this
        simp at this
        rcases hgo with h | h
        · subst h; simp at h7
        · omega
      have hnx : Hid (digL 10 a = preL 10 (v / 10) ++ ([digC (v % 10)] ++ tl)) := by
        show _ = _
        rw [← List.append_assoc, ← preL_step (by omega)]
        rcases hin.out with ⟨rfl, rfl⟩ | ⟨h1, h2⟩
        · rw [List.append_nil]
        · rw [h2]
          unfold preL
          rw [if_neg (by rcases hgo with h | h; · exact absurd h h1
                         · exact Nat.pos_iff_ne_zero.1 h)]
      have hpw : Hid (v / 10 < 10 ^ (70 - (tl.length + 1))) := by
        show _ < _
        rw [Nat.div_lt_iff_lt_mul (by omega), ← Nat.pow_succ, show (70 - (tl.length + 1)).succ = 70 - tl.length from by omega]
        exact hpow.out
      by_cases ht : tl = []
      · subst ht
        clear hgo hpow hin
        go_wp2_with fail
        go_quiet (fail)
        go_wp2_with fail
        go_roundw
        case rel =>
          refine ⟨v / 10, [digC (v % 10)] ++ [], int_congr (by omega), ?_, by omega, .inr ⟨by simp, hnx.out⟩, below_drewN hb.out _, by simp only [List.append_nil, List.length_singleton]; omega, hpw.out⟩
          first | rfl | (congr 1; exact str_cat [digC (v % 10)] [])
        case measure =>
          have e1 := emptyV_one (digC (v % 10))
          have e2 := emptyV_cat (digC (v % 10)) []
          have e3 : emptyV (.string ⟨#[]⟩) = 1 := rfl
          simp only [intOf]
          first | (rw [e1]; show _ < _ + emptyV (.string ⟨#[]⟩); rw [e3]; omega) | (rw [e2]; show _ < _ + emptyV (.string ⟨#[]⟩); rw [e3]; omega)
      · have he : tl.isEmpty = false := by cases tl <;> simp_all
        have hv0 : 0 < v := hgo.resolve_left ht
        clear hgo hpow hin ht
        go_wp2_with fail
        go_quiet (fail)
        go_wp2_with fail
        go_roundw
        case rel =>
          refine ⟨v / 10, [digC (v % 10)] ++ tl, int_congr (by omega), ?_, by omega, .inr ⟨by simp, hnx.out⟩, below_drewN hb.out _, by simp; omega, hpw.out⟩
          exact congrArg Value.string (str_cat [digC (v % 10)] tl)
        case measure =>
          simp only [intOf]
          rw [emptyV_cat]
          omega
    · have ht : tl ≠ [] := fun h => hgo (.inl h)
      have hv0 : v = 0 := by
        apply Decidable.byContradiction
        intro h
        exact hgo (.inr (by omega))
      subst hv0
      have he : tl.isEmpty = false := by cases tl <;> simp_all
      have hfin : Hid (digL 10 a = tl) := by
        rcases hin.out with ⟨h, _⟩ | ⟨_, h⟩
        · exact absurd h ht
        · exact h
      clear hgo hin ht hpow
      go_wp2_with fail
      go_ret
      exact ⟨by rw [hfin.out]; rfl, by rw [HW.out]; exact hb.out⟩
set_option maxHeartbeats 1600000 in
set_option maxRecDepth 100000 in
theorem refDigits_16 (a : Nat) (w : World) (ha : a ≤ 18446744073709551615) :
    Calls Tryz.prog 23 #[.int .u64 a, .int .u64 16] w (SaysP w (digL 16 a)) := by
  obtain ⟨base, hbase⟩ : ∃ q, w.heap.size = q := ⟨_, rfl⟩
  have HW := hide hbase; clear hbase
  go_enter Tryz.func23, Tryz.ntmps23
  go_wp2_with fail
  go_loopw [0, 5] (fun va vs w2 => ∃ (v : Nat) (tl : List UInt8), va = .int .u64 v ∧ vs = .string ⟨tl.toArray⟩ ∧ v ≤ 18446744073709551615 ∧ Hid ((tl = [] ∧ v = a) ∨ (tl ≠ [] ∧ digL 16 a = preL 16 v ++ tl)) ∧ Hid (Below base w w2) ∧ tl.length ≤ 70 ∧ Hid (v < 16 ^ (70 - tl.length))) (fun va vs _ => (intOf va).toNat + emptyV vs)
  case atStart => exact ⟨a, [], rfl, rfl, ha, .inl ⟨rfl, rfl⟩, Below.refl _ _, by simp, by show _ < _; simp; omega⟩
  case round =>
    obtain ⟨v, tl, rfl, rfl, hv, hin, hb, hl0, hpow⟩ := hrel
    by_cases hgo : tl = [] ∨ 0 < v
    · have hsl : ∀ W, (Instr.slice 9 (.string ⟨#[48, 49, 50, 51, 52, 53, 54, 55, 56, 57, 97, 98, 99, 100, 101, 102]⟩) (some (.int .u64 ((v : Int) % 16))) (some (.int .u64 ((v : Int) % 16 + 1))) none).run Tryz.prog W = .ok (.string ⟨#[digC (v % 16)]⟩) W := fun W => by
        have h := str_mid [48, 49, 50, 51, 52, 53, 54, 55, 56, 57, 97, 98, 99, 100, 101, 102] (v % 16) (v % 16 + 1) .u64 .u64 (by omega) (by simp; omega) W
        rw [hex16_piece _ (by omega), Int.natCast_add, Int.natCast_emod] at h
        exact h
      have hl1 : tl.length < 70 := by
        apply Decidable.byContradiction
        intro hn
        have h7 : tl.length = 70 := by omega
        have := hpow.out
        rw [h7] at this
        simp at this
        rcases hgo with h | h
        · subst h; simp at h7
        · omega
      have hnx : Hid (digL 16 a = preL 16 (v / 16) ++ ([digC (v % 16)] ++ tl)) := by
        show _ = _
        rw [← List.append_assoc, ← preL_step (by omega)]
        rcases hin.out with ⟨rfl, rfl⟩ | ⟨h1, h2⟩
        · rw [List.append_nil]
        · rw [h2]
          unfold preL
          rw [if_neg (by rcases hgo with h | h; · exact absurd h h1
                         · exact Nat.pos_iff_ne_zero.1 h)]
      have hpw : Hid (v / 16 < 16 ^ (70 - (tl.length + 1))) := by
        show _ < _
        rw [Nat.div_lt_iff_lt_mul (by omega), ← Nat.pow_succ, show (70 - (tl.length + 1)).succ = 70 - tl.length from by omega]
        exact hpow.out
      by_cases ht : tl = []
      · subst ht
        clear hgo hpow hin
        go_wp2_with fail
        go_quiet (fail)
        go_wp2_with fail
        go_roundw
        case rel =>
          refine ⟨v / 16, [digC (v % 16)] ++ [], int_congr (by omega), ?_, by omega, .inr ⟨by simp, hnx.out⟩, below_drewN hb.out _, by simp only [List.append_nil, List.length_singleton]; omega, hpw.out⟩
          first | rfl | (congr 1; exact str_cat [digC (v % 16)] [])
        case measure =>
          have e1 := emptyV_one (digC (v % 16))
          have e2 := emptyV_cat (digC (v % 16)) []
          have e3 : emptyV (.string ⟨#[]⟩) = 1 := rfl
          simp only [intOf]
          first | (rw [e1]; show _ < _ + emptyV (.string ⟨#[]⟩); rw [e3]; omega) | (rw [e2]; show _ < _ + emptyV (.string ⟨#[]⟩); rw [e3]; omega)
      · have he : tl.isEmpty = false := by cases tl <;> simp_all
        have hv0 : 0 < v := hgo.resolve_left ht
        clear hgo hpow hin ht
        go_wp2_with fail
        go_quiet (fail)
        go_wp2_with fail
        go_roundw
        case rel =>
          refine ⟨v / 16, [digC (v % 16)] ++ tl, int_congr (by omega), ?_, by omega, .inr ⟨by simp, hnx.out⟩, below_drewN hb.out _, by simp; omega, hpw.out⟩
          exact congrArg Value.string (str_cat [digC (v % 16)] tl)
        case measure =>
          simp only [intOf]
          rw [emptyV_cat]
          omega
    · have ht : tl ≠ [] := fun h => hgo (.inl h)
      have hv0 : v = 0 := by
        apply Decidable.byContradiction
        intro h
        exact hgo (.inr (by omega))
      subst hv0
      have he : tl.isEmpty = false := by cases tl <;> simp_all
      have hfin : Hid (digL 16 a = tl) := by
        rcases hin.out with ⟨h, _⟩ | ⟨_, h⟩
        · exact absurd h ht
        · exact h
      clear hgo hin ht hpow
      go_wp2_with fail
      go_ret
      exact ⟨by rw [hfin.out]; rfl, by rw [HW.out]; exact hb.out⟩
end Go.Proofs.YtnfaaiifbiobiaaGreatDoor
