/-
  Strings as lists of bytes: pieces, bytes, joins, tests: as facts for a walk.
  The document's answers on texts of numbers: contracts.
  The document's reading of a number: contracts.
  The document's texts of words: contracts.
-/
import Derived.Test.YtpanlhbdphobdaaGreatDoorDeAL
import Derived.Laws.Strings2
import Derived.Laws.Strings3
import Derived.Lib.Strings
import Derived.Test.YtpanlhbdphobdaaGreatDoorDeBG
import Derived.Test.YtpanlhbdphobdaaGreatDoorDeBC
namespace Go.Proofs.YtpanlhbdphobdaaGreatDoor
open Go.RowKit
set_option linter.unusedVariables false

theorem ba_ext {s : ByteArray} {l : List UInt8} (h : s.data.toList = l) : s = ⟨l.toArray⟩ := by
  subst h
  rfl
theorem ext_mk (l : List UInt8) (a b : Nat) : (⟨l.toArray⟩ : ByteArray).extract a b = ⟨((l.drop a).take (b - a)).toArray⟩ := ba_ext (by rw [Lib.extract_data])
theorem str_from (l : List UInt8) (k : Nat) (kd : IntKind) (hk : k ≤ l.length) (W : World) : (Instr.slice 9 (.string ⟨l.toArray⟩) (some (.int kd k)) none none).run Tryz.prog W = .ok (.string ⟨(l.drop k).toArray⟩) W := by
  have hs : (⟨l.toArray⟩ : ByteArray).size = l.length := rfl
  rw [run_slice_string_from_if _ _ _ _ _ Tryz.underlying9, if_pos ⟨by omega, by rw [hs]; omega⟩]
  have e : ((k : Int)).toNat = k := by omega
  rw [e, hs, ext_mk, List.take_of_length_le (by rw [List.length_drop]; omega)]
theorem str_upto (l : List UInt8) (k : Nat) (kd : IntKind) (hk : k ≤ l.length) (W : World) : (Instr.slice 9 (.string ⟨l.toArray⟩) none (some (.int kd k)) none).run Tryz.prog W = .ok (.string ⟨(l.take k).toArray⟩) W := by
  have hs : (⟨l.toArray⟩ : ByteArray).size = l.length := rfl
  rw [run_slice_string_to_if _ _ _ _ _ Tryz.underlying9, if_pos ⟨by omega, by rw [hs]; omega⟩]
  have e : ((k : Int)).toNat = k := by omega
  rw [e, ext_mk, List.drop_zero, Nat.sub_zero]
theorem str_mid (l : List UInt8) (i j : Nat) (kd ke : IntKind) (hi : i ≤ j) (hj : j ≤ l.length) (W : World) : (Instr.slice 9 (.string ⟨l.toArray⟩) (some (.int kd i)) (some (.int ke j)) none).run Tryz.prog W = .ok (.string ⟨((l.drop i).take (j - i)).toArray⟩) W := by
  have hs : (⟨l.toArray⟩ : ByteArray).size = l.length := rfl
  rw [run_slice_string _ _ _ _ _ _ _ Tryz.underlying9 (by omega) (by omega) (by rw [hs]; omega)]
  have e : ((i : Int)).toNat = i := by omega
  have e2 : ((j : Int)).toNat = j := by omega
  rw [e, e2, ext_mk]
theorem str_at (l : List UInt8) (k : Nat) (kd : IntKind) {c : UInt8} (hk : l[k]? = some c) (W : World) : (Instr.index 9 (.string ⟨l.toArray⟩) (.int kd k)).run Tryz.prog W = .ok (.int .u8 (c.toNat : Int)) W := by
  obtain ⟨h1, h2⟩ := List.getElem?_eq_some_iff.1 hk
  have hs : (⟨l.toArray⟩ : ByteArray).size = l.length := rfl
  rw [run_index_string W 9 ⟨l.toArray⟩ kd _ Tryz.underlying9, dif_pos ⟨by omega, by rw [hs]; omega⟩]
  have e : ((k : Int)).toNat = k := by omega
  simp only [e]
  subst h2
  rfl
end Go.Proofs.YtpanlhbdphobdaaGreatDoor

namespace Go.Proofs.YtpanlhbdphobdaaGreatDoor
open Go.RowKit
set_option linter.unusedVariables false

def preL (b v : Nat) : List UInt8 := if v = 0 then [] else digL b v
theorem preL_step {b v : Nat} (hb : 2 ≤ b) : digL b v = preL b (v / b) ++ [digC (v % b)] := by
  unfold preL
  by_cases h : v < b
  · rw [if_pos (Nat.div_eq_of_lt h), digL_small h, Nat.mod_eq_of_lt h]; rfl
  · have h1 : 1 ≤ v / b := (Nat.one_le_div_iff (by omega)).2 (by omega)
    rw [if_neg (by omega), digL_big hb (by omega)]
theorem hex16_at : ∀ d : Fin 16, ([48, 49, 50, 51, 52, 53, 54, 55, 56, 57, 97, 98, 99, 100, 101, 102] : List UInt8)[d.val]? = some (digC d.val) := by decide +kernel
theorem hex16_piece (d : Nat) (h : d < 16) : (([48, 49, 50, 51, 52, 53, 54, 55, 56, 57, 97, 98, 99, 100, 101, 102] : List UInt8).drop d).take (d + 1 - d) = [digC d] := by
  have h1 := hex16_at ⟨d, h⟩
  simp only at h1
  obtain ⟨h2, h3⟩ := List.getElem?_eq_some_iff.1 h1
  rw [List.drop_eq_getElem_cons h2, h3, show d + 1 - d = 1 from by omega]
  rfl


def emptyV : Value → Nat
  | .string s => if s.size = 0 then 1 else 0
  | _ => 0
theorem emptyV_cat (c : UInt8) (tl : List UInt8) : emptyV (.string (⟨#[c]⟩ ++ ⟨tl.toArray⟩)) = 0 := by
  have h := str_cat [c] tl
  have h2 : (⟨#[c]⟩ : ByteArray) ++ ⟨tl.toArray⟩ = ⟨([c] ++ tl).toArray⟩ := h
  rw [h2]
  have hs : (⟨([c] ++ tl).toArray⟩ : ByteArray).size = tl.length + 1 := by show ([c] ++ tl).toArray.size = _; simp
  show (if (⟨([c] ++ tl).toArray⟩ : ByteArray).size = 0 then 1 else 0) = 0
  rw [hs, if_neg (by omega)]
theorem emptyV_one (c : UInt8) : emptyV (.string ⟨#[c]⟩) = 0 := rfl

set_option maxHeartbeats 1600000 in
set_option maxRecDepth 100000 in
theorem refDigits_10 (a : Nat) (w : World) (ha : a ≤ 18446744073709551615) :
    Calls Tryz.prog 40 #[.int .u64 a, .int .u64 10] w (SaysP w (digL 10 a)) := by
  obtain ⟨base, hbase⟩ : ∃ q, w.heap.size = q := ⟨_, rfl⟩
  have HW := hide hbase; clear hbase
  go_enter Tryz.func40, Tryz.ntmps40
  go_wp2_with fail
  go_loopw [0, 5] (fun va vs w2 => ∃ (v : Nat) (tl : List UInt8), va = .int .u64 v ∧ vs = .string ⟨tl.toArray⟩ ∧ v ≤ 18446744073709551615 ∧ Hid ((tl = [] ∧ v = a) ∨ (tl ≠ [] ∧ digL 10 a = preL 10 v ++ tl)) ∧ Hid (Below base w w2) ∧ tl.length ≤ 70 ∧ Hid (v < 10 ^ (70 - tl.length))) (fun va vs _ => (intOf va).toNat + emptyV vs)
  case atStart => exact ⟨a, [], rfl, rfl, ha, .inl ⟨rfl, rfl⟩, Below.refl _ _, by simp, by show _ < _; simp; omega⟩
  case round =>
    obtain ⟨v, tl, rfl, rfl, hv, hin, hb, hl0, hpow⟩ := hrel
    by_cases hgo : tl = [] ∨ 0 < v
    · have hsl : ∀ W, (Instr.slice 9 (.string ⟨#[48, 49, 50, 51, 52, 53, 54, 55, 56, 57, 97, 98, 99, 100, 101, 102]⟩) (some (.int .u64 ((v : Int) % 10))) (some (.int .u64 ((v : Int) % 10 + 1))) none).run Tryz.prog W = .ok (.string ⟨#[digC (v % 10)]⟩) W := fun W => by
        have h := str_mid [48, 49, 50, 51, 52, 53, 54, 55, 56, 57, 97, 98, 99, 100, 101, 102] (v % 10) (v % 10 + 1) .u64 .u64 (by omega) (by simp; omega) W
        rw [hex16_piece _ (by omega), Int.natCast_add, Int.natCast_emod] at h
        exact h
      have hl1 : tl.length < 70 := by
        apply Decidable.byContradiction
        intro hn
        have h7 : tl.length = 70 := by omega
        have := hpow.out
        rw [h7] at this
        simp at this
        rcases hgo with h | h
        · subst h; simp at h7
        · omega
      have hnx : Hid (digL 10 a = preL 10 (v / 10) ++ ([digC (v % 10)] ++ tl)) := by
        show _ = _
        rw [← List.append_assoc, ← preL_step (by omega)]
        rcases hin.out with ⟨rfl, rfl⟩ | ⟨h1, h2⟩
        · rw [List.append_nil]
        · rw [h2]
          unfold preL
          rw [if_neg (by rcases hgo with h | h; · exact absurd h h1
                         · exact Nat.pos_iff_ne_zero.1 h)]
      have hpw : Hid (v / 10 < 10 ^ (70 - (tl.length + 1))) := by
        show _ < _
        rw [Nat.div_lt_iff_lt_mul (by omega), ← Nat.pow_succ, show (70 - (tl.length + 1)).succ = 70 - tl.length from by omega]
        exact hpow.out
      by_cases ht : tl = []
      · subst ht
        clear hgo hpow hin
        go_wp2_with fail
        go_quiet (fail)
        go_wp2_with fail
        go_roundw
        case rel =>
          refine ⟨v / 10, [digC (v % 10)] ++ [], int_congr (by omega), ?_, by omega, .inr ⟨by simp, hnx.out⟩, below_drewN hb.out _, by simp only [List.append_nil, List.length_singleton]; omega, hpw.out⟩
          first | rfl | (congr 1; exact str_cat [digC (v % 10)] [])
        case measure =>
          have e1 := emptyV_one (digC (v % 10))
          have e2 := emptyV_cat (digC (v % 10)) []
          have e3 : emptyV (.string ⟨#[]⟩) = 1 := rfl
          simp only [intOf]
          first | (rw [e1]; show _ < _ + emptyV (.string ⟨#[]⟩); rw [e3]; omega) | (rw [e2]; show _ < _ + emptyV (.string ⟨#[]⟩); rw [e3]; omega)
      · have he : tl.isEmpty = false := by cases tl <;> simp_all
        have hv0 : 0 < v := hgo.resolve_left ht
        clear hgo hpow hin ht
        go_wp2_with fail
        go_quiet (fail)
        go_wp2_with fail
        go_roundw
        case rel =>
          refine ⟨v / 10, [digC (v % 10)] ++ tl, int_congr (by omega), ?_, by omega, .inr ⟨by simp, hnx.out⟩, below_drewN hb.out _, by simp; omega, hpw.out⟩
          exact congrArg Value.string (str_cat [digC (v % 10)] tl)
        case measure =>
          simp only [intOf]
          rw [emptyV_cat]
          omega
    · have ht : tl ≠ [] := fun h => hgo (.inl h)
      have hv0 : v = 0 := by
        apply Decidable.byContradiction
        intro h
        exact hgo (.inr (by omega))
      subst hv0
      have he : tl.isEmpty = false := by cases tl <;> simp_all
      have hfin : Hid (digL 10 a = tl) := by
        rcases hin.out with ⟨h, _⟩ | ⟨_, h⟩
        · exact absurd h ht
        · exact h
      clear hgo hin ht hpow
      go_wp2_with fail
      go_ret
      exact ⟨by rw [hfin.out]; rfl, by rw [HW.out]; exact hb.out⟩
set_option maxHeartbeats 1600000 in
set_option maxRecDepth 100000 in
theorem refDigits_16 (a : Nat) (w : World) (ha : a ≤ 18446744073709551615) :
    Calls Tryz.prog 40 #[.int .u64 a, .int .u64 16] w (SaysP w (digL 16 a)) := by
  obtain ⟨base, hbase⟩ : ∃ q, w.heap.size = q := ⟨_, rfl⟩
  have HW := hide hbase; clear hbase
  go_enter Tryz.func40, Tryz.ntmps40
  go_wp2_with fail
  go_loopw [0, 5] (fun va vs w2 => ∃ (v : Nat) (tl : List UInt8), va = .int .u64 v ∧ vs = .string ⟨tl.toArray⟩ ∧ v ≤ 18446744073709551615 ∧ Hid ((tl = [] ∧ v = a) ∨ (tl ≠ [] ∧ digL 16 a = preL 16 v ++ tl)) ∧ Hid (Below base w w2) ∧ tl.length ≤ 70 ∧ Hid (v < 16 ^ (70 - tl.length))) (fun va vs _ => (intOf va).toNat + emptyV vs)
  case atStart => exact ⟨a, [], rfl, rfl, ha, .inl ⟨rfl, rfl⟩, Below.refl _ _, by simp, by show _ < _; simp; omega⟩
  case round =>
    obtain ⟨v, tl, rfl, rfl, hv, hin, hb, hl0, hpow⟩ := hrel
    by_cases hgo : tl = [] ∨ 0 < v
    · have hsl : ∀ W, (Instr.slice 9 (.string ⟨#[48, 49, 50, 51, 52, 53, 54, 55, 56, 57, 97, 98, 99, 100, 101, 102]⟩) (some (.int .u64 ((v : Int) % 16))) (some (.int .u64 ((v : Int) % 16 + 1))) none).run Tryz.prog W = .ok (.string ⟨#[digC (v % 16)]⟩) W := fun W => by
        have h := str_mid [48, 49, 50, 51, 52, 53, 54, 55, 56, 57, 97, 98, 99, 100, 101, 102] (v % 16) (v % 16 + 1) .u64 .u64 (by omega) (by simp; omega) W
        rw [hex16_piece _ (by omega), Int.natCast_add, Int.natCast_emod] at h
        exact h
      have hl1 : tl.length < 70 := by
        apply Decidable.byContradiction
        intro hn
        have h7 : tl.length = 70 := by omega
        have := hpow.out
        rw [h7] at this
        simp at this
        rcases hgo with h | h
        · subst h; simp at h7
        · omega
      have hnx : Hid (digL 16 a = preL 16 (v / 16) ++ ([digC (v % 16)] ++ tl)) := by
        show _ = _
        rw [← List.append_assoc, ← preL_step (by omega)]
        rcases hin.out with ⟨rfl, rfl⟩ | ⟨h1, h2⟩
        · rw [List.append_nil]
        · rw [h2]
          unfold preL
          rw [if_neg (by rcases hgo with h | h; · exact absurd h h1
                         · exact Nat.pos_iff_ne_zero.1 h)]
      have hpw : Hid (v / 16 < 16 ^ (70 - (tl.length + 1))) := by
        show _ < _
        rw [Nat.div_lt_iff_lt_mul (by omega), ← Nat.pow_succ, show (70 - (tl.length + 1)).succ = 70 - tl.length from by omega]
        exact hpow.out
      by_cases ht : tl = []
      · subst ht
        clear hgo hpow hin
        go_wp2_with fail
        go_quiet (fail)
        go_wp2_with fail
        go_roundw
        case rel =>
          refine ⟨v / 16, [digC (v % 16)] ++ [], int_congr (by omega), ?_, by omega, .inr ⟨by simp, hnx.out⟩, below_drewN hb.out _, by simp only [List.append_nil, List.length_singleton]; omega, hpw.out⟩
          first | rfl | (congr 1; exact str_cat [digC (v % 16)] [])
        case measure =>
          have e1 := emptyV_one (digC (v % 16))
          have e2 := emptyV_cat (digC (v % 16)) []
          have e3 : emptyV (.string ⟨#[]⟩) = 1 := rfl
          simp only [intOf]
          first | (rw [e1]; show _ < _ + emptyV (.string ⟨#[]⟩); rw [e3]; omega) | (rw [e2]; show _ < _ + emptyV (.string ⟨#[]⟩); rw [e3]; omega)
      · have he : tl.isEmpty = false := by cases tl <;> simp_all
        have hv0 : 0 < v := hgo.resolve_left ht
        clear hgo hpow hin ht
        go_wp2_with fail
        go_quiet (fail)
        go_wp2_with fail
        go_roundw
        case rel =>
          refine ⟨v / 16, [digC (v % 16)] ++ tl, int_congr (by omega), ?_, by omega, .inr ⟨by simp, hnx.out⟩, below_drewN hb.out _, by simp; omega, hpw.out⟩
          exact congrArg Value.string (str_cat [digC (v % 16)] tl)
        case measure =>
          simp only [intOf]
          rw [emptyV_cat]
          omega
    · have ht : tl ≠ [] := fun h => hgo (.inl h)
      have hv0 : v = 0 := by
        apply Decidable.byContradiction
        intro h
        exact hgo (.inr (by omega))
      subst hv0
      have he : tl.isEmpty = false := by cases tl <;> simp_all
      have hfin : Hid (digL 16 a = tl) := by
        rcases hin.out with ⟨h, _⟩ | ⟨_, h⟩
        · exact absurd h ht
        · exact h
      clear hgo hin ht hpow
      go_wp2_with fail
      go_ret
      exact ⟨by rw [hfin.out]; rfl, by rw [HW.out]; exact hb.out⟩
end Go.Proofs.YtpanlhbdphobdaaGreatDoor

namespace Go.Proofs.YtpanlhbdphobdaaGreatDoor
open Go.RowKit
set_option linter.unusedVariables false

/-- what Read answers -/
def ReadP (f : Option Nat) (w : World) (e : Ending) (w' : World) : Prop := e = .returned (.tuple #[.int .u64 (f.getD 0 : Nat), .bool f.isSome]) ∧ w = w'

end Go.Proofs.YtpanlhbdphobdaaGreatDoor

namespace Go.Proofs.YtpanlhbdphobdaaGreatDoor
open Go.RowKit
set_option linter.unusedVariables false

theorem slice_from1 (c : UInt8) (r : List UInt8) (W : World) : (Instr.slice 9 (.string ⟨(c :: r).toArray⟩) (some (.int .i64 1)) none none).run Tryz.prog W = .ok (.string ⟨r.toArray⟩) W :=
  str_from (c :: r) 1 .i64 (by simp) W
theorem slice_from2 (a c : UInt8) (r : List UInt8) (W : World) : (Instr.slice 9 (.string ⟨(a :: c :: r).toArray⟩) (some (.int .i64 2)) none none).run Tryz.prog W = .ok (.string ⟨r.toArray⟩) W :=
  str_from (a :: c :: r) 2 .i64 (by simp) W
theorem slice_upto2 (a c : UInt8) (r : List UInt8) (W : World) : (Instr.slice 9 (.string ⟨(a :: c :: r).toArray⟩) none (some (.int .i64 2)) none).run Tryz.prog W = .ok (.string ⟨#[a, c]⟩) W :=
  str_upto (a :: c :: r) 2 .i64 (by simp) W
theorem index_0 (c : UInt8) (r : List UInt8) (W : World) : (Instr.index 9 (.string ⟨(c :: r).toArray⟩) (.int .i64 0)).run Tryz.prog W = .ok (.int .u8 (c.toNat : Int)) W :=
  str_at (c :: r) 0 .i64 rfl W
theorem pre2_iffK (bs : List UInt8) : Lib.hasPrefix bs [48, 120] = true ↔ ∃ r, bs = 48 :: 120 :: r := by
  unfold Lib.hasPrefix
  constructor
  · intro h
    obtain ⟨t, rfl⟩ := List.isPrefixOf_iff_prefix.1 h
    exact ⟨t, rfl⟩
  · rintro ⟨r, rfl⟩
    exact List.isPrefixOf_iff_prefix.2 ⟨r, rfl⟩

/-- a word's text -/
def printL (b : Int) (a : Nat) : List UInt8 := Lib.itoa (signV b a)

theorem valBb_top {a n : Nat} (hn : 1 ≤ n) : bitNb a (n - 1) = decide (2 ^ (n - 1) ≤ a % 2 ^ n) := by
  unfold bitNb
  obtain ⟨m, rfl⟩ : ∃ m, n = m + 1 := ⟨n - 1, by omega⟩
  rw [Nat.add_sub_cancel, Nat.mod_pow_succ]
  have h1 := Nat.mod_lt a (Nat.two_pow_pos m)
  have : a / 2 ^ m % 2 = 0 ∨ a / 2 ^ m % 2 = 1 := by omega
  rcases this with h | h <;> rw [h]
  · rw [decide_eq_false (by omega)]; rfl
  · rw [decide_eq_true (by omega)]; rfl

theorem itoa_pos (n : Nat) : Lib.itoa (n : Int) = digL 10 n := by rw [← decDigits_digL]; exact Lib.itoa_nonneg n
theorem itoa_neg' (n : Nat) (h : 1 ≤ n) : Lib.itoa (-(n : Int)) = 45 :: digL 10 n := by rw [← decDigits_digL]; exact Lib.itoa_neg n h

theorem print_facts32 (a : Nat) (ha : a ≤ 18446744073709551615) : ∃ v, v < 4294967296 ∧ valBb (bitsKb a 32) = v ∧ bitNb a 31 = decide (2147483648 ≤ v) ∧ printL 32 a = if 2147483648 ≤ v then 45 :: digL 10 (4294967296 - v) else digL 10 v := by
  have hval := valBb_bitsK a 32
  have htop := valBb_top (a := a) (n := 32) (by omega)
  have hlt : a % 2 ^ 32 < 2 ^ 32 := Nat.mod_lt _ (Nat.two_pow_pos _)
  simp only [Nat.reducePow, Nat.reduceSub] at hval htop hlt
  have hvi : (a : Int) % 4294967296 = ((a % 4294967296 : Nat) : Int) := by omega
  refine ⟨a % 4294967296, hlt, hval, htop, ?_⟩
  generalize a % 4294967296 = v at hlt hvi
  unfold printL signV
  rw [if_pos rfl]
  unfold wrap32
  split
  · rw [← itoa_neg' _ (by omega)]
    exact congrArg Lib.itoa (by omega)
  · rw [← itoa_pos]
    exact congrArg Lib.itoa (by omega)
theorem print_facts64 (b : Int) (hb : b ≠ 32) (a : Nat) (ha : a ≤ 18446744073709551615) : ∃ v, v < 18446744073709551616 ∧ valBb (bitsKb a 64) = v ∧ bitNb a 63 = decide (9223372036854775808 ≤ v) ∧ printL b a = if 9223372036854775808 ≤ v then 45 :: digL 10 (18446744073709551616 - v) else digL 10 v := by
  have hval := valBb_bitsK a 64
  have htop := valBb_top (a := a) (n := 64) (by omega)
  have hlt : a % 2 ^ 64 < 2 ^ 64 := Nat.mod_lt _ (Nat.two_pow_pos _)
  simp only [Nat.reducePow, Nat.reduceSub] at hval htop hlt
  have hvi : (a : Int) % 18446744073709551616 = ((a % 18446744073709551616 : Nat) : Int) := by omega
  refine ⟨a % 18446744073709551616, hlt, hval, htop, ?_⟩
  generalize a % 18446744073709551616 = v at hlt hvi
  unfold printL signV
  rw [if_neg hb]
  unfold wrap64
  split
  · rw [← itoa_neg' _ (by omega)]
    exact congrArg Lib.itoa (by omega)
  · rw [← itoa_pos]
    exact congrArg Lib.itoa (by omega)
set_option maxHeartbeats 1600000 in
set_option maxRecDepth 100000 in
theorem refPrint_32 (a : Nat) (w : World) (ha : a ≤ 18446744073709551615) :
    Calls Tryz.prog 41 #[.int .i64 32, .int .u64 a] w (SaysP w (printL 32 a)) := by
  obtain ⟨v, hvlt, hval, htop, hsg⟩ := print_facts32 a ha
  obtain ⟨L, hL⟩ : ∃ L, printL 32 a = L := ⟨_, rfl⟩
  rw [hL] at hsg ⊢
  have HSG := hide hsg
  clear hL
  have HVAL := hide hval
  have HTB := hide htop
  have HL := hide (refList_any 32 a w (by omega) (by show a < 2 ^ 64; simp only [Nat.reducePow]; omega))
  clear hval htop hsg
  go_enter Tryz.func41, Tryz.ntmps41
  go_wp2_with fail
  refine HL.out.mono ?_; rintro e w1 ⟨A1, c1, rfl, ho1, hb1, hc1⟩
  have hl64 : (bitsKb a 32).length = 32 := bitsKb_len a 32
  have hrd := Reads.of_own ho1.out
  have HW := hide (refWord_any A1 c1 (bitsKb a 32) w1 hrd (by rw [hl64]; omega))
  rw [HVAL.out] at HW
  obtain ⟨tb, htb⟩ : ∃ q, decide (2147483648 ≤ v) = q := ⟨_, rfl⟩
  rw [htb] at HTB
  have hcell : ∃ ad : Addr, A1 = some ad ∧ w1.cell? ⟨ad.block, ad.off + 31, none⟩ = some (.bool tb) := by
    rw [hl64] at hrd
    obtain ⟨ad, h, _, hc⟩ := hrd.2 (by omega)
    have h2 := hc 31 (.bool tb) (by rw [List.getElem?_map, bitsKb_get a 32 31 (by omega)]; show some (Tb (bitNb a 31)) = _; rw [HTB.out]; rfl)
    exact ⟨ad, h, h2⟩
  obtain ⟨ad, rfl, hcell⟩ := hcell
  rw [hl64] at HW ⊢
  have HB1 := hide hb1.out
  clear hl64 hrd ho1 hb1 hc1
  cases tb with
  | false =>
    have hv3 : ¬ 2147483648 ≤ v := of_decide_eq_false htb
    have HLL := hide (HSG.out.trans (if_neg hv3))
    clear htb HSG
    go_wp2_with fail
    refine HW.out.mono ?_; rintro e w' ⟨rfl, rfl⟩
    go_wp2_with fail
    refine (refDigits_10 v _ (by omega)).mono ?_; rintro e w2 ⟨rfl, hb2⟩
    have HB2 := hide hb2; clear hb2
    go_wp2_with fail
    go_ret
    exact ⟨by rw [HLL.out]; rfl, HB1.out.trans (HB2.out.mono HB1.out.size)⟩
  | true =>
    have hv3 : 2147483648 ≤ v := of_decide_eq_true htb
    have HLP := hide (HSG.out.trans (if_pos hv3))
    clear htb HSG
    have hlen := digL10_len (4294967296 - v) (by omega)
    obtain ⟨x, hx⟩ : ∃ x, 4294967296 - v = x := ⟨_, rfl⟩
    have hxi : 4294967296 - (v : Int) = (x : Int) := by omega
    have hD := hide (fun W => refDigits_10 x W (by omega))
    have hll := HLP.out
    rw [hx] at hlen hll
    have HLL := hide hll
    clear hx hll HLP
    go_wp2_with fail
    refine HW.out.mono ?_; rintro e w' ⟨rfl, rfl⟩
    go_wp2_with fail
    refine (hD.out _).mono ?_; rintro e w2 ⟨rfl, hb2⟩
    have HB2 := hide hb2; clear hb2
    go_wp2_with fail
    go_ret
    exact ⟨by rw [HLL.out]; exact congrArg (fun s => Ending.returned (.string s)) (str_cat [45] _), HB1.out.trans (HB2.out.mono HB1.out.size)⟩
set_option maxHeartbeats 1600000 in
set_option maxRecDepth 100000 in
theorem refPrint_64 (b : Int) (hb : b ≠ 32) (a : Nat) (w : World) (ha : a ≤ 18446744073709551615) :
    Calls Tryz.prog 41 #[.int .i64 b, .int .u64 a] w (SaysP w (printL b a)) := by
  obtain ⟨v, hvlt, hval, htop, hsg⟩ := print_facts64 b hb a ha
  obtain ⟨L, hL⟩ : ∃ L, printL b a = L := ⟨_, rfl⟩
  rw [hL] at hsg ⊢
  have HSG := hide hsg
  clear hL
  have HVAL := hide hval
  have HTB := hide htop
  have HL := hide (refList_any 64 a w (by omega) (by show a < 2 ^ 64; simp only [Nat.reducePow]; omega))
  have e32 : (b == 32) = false := by simp; omega
  clear hval htop hsg
  go_enter Tryz.func41, Tryz.ntmps41
  go_wp2_with fail
  refine HL.out.mono ?_; rintro e w1 ⟨A1, c1, rfl, ho1, hb1, hc1⟩
  have hl64 : (bitsKb a 64).length = 64 := bitsKb_len a 64
  have hrd := Reads.of_own ho1.out
  have HW := hide (refWord_any A1 c1 (bitsKb a 64) w1 hrd (by rw [hl64]; omega))
  rw [HVAL.out] at HW
  obtain ⟨tb, htb⟩ : ∃ q, decide (9223372036854775808 ≤ v) = q := ⟨_, rfl⟩
  rw [htb] at HTB
  have hcell : ∃ ad : Addr, A1 = some ad ∧ w1.cell? ⟨ad.block, ad.off + 63, none⟩ = some (.bool tb) := by
    rw [hl64] at hrd
    obtain ⟨ad, h, _, hc⟩ := hrd.2 (by omega)
    have h2 := hc 63 (.bool tb) (by rw [List.getElem?_map, bitsKb_get a 64 63 (by omega)]; show some (Tb (bitNb a 63)) = _; rw [HTB.out]; rfl)
    exact ⟨ad, h, h2⟩
  obtain ⟨ad, rfl, hcell⟩ := hcell
  rw [hl64] at HW ⊢
  have HB1 := hide hb1.out
  clear hl64 hrd ho1 hb1 hc1
  cases tb with
  | false =>
    have hv3 : ¬ 9223372036854775808 ≤ v := of_decide_eq_false htb
    have HLL := hide (HSG.out.trans (if_neg hv3))
    clear htb HSG
    go_wp2_with fail
    refine HW.out.mono ?_; rintro e w' ⟨rfl, rfl⟩
    go_wp2_with fail
    refine (refDigits_10 v _ (by omega)).mono ?_; rintro e w2 ⟨rfl, hb2⟩
    have HB2 := hide hb2; clear hb2
    go_wp2_with fail
    go_ret
    exact ⟨by rw [HLL.out]; rfl, HB1.out.trans (HB2.out.mono HB1.out.size)⟩
  | true =>
    have hv3 : 9223372036854775808 ≤ v := of_decide_eq_true htb
    have HLP := hide (HSG.out.trans (if_pos hv3))
    clear htb HSG
    have hlen := digL10_len (18446744073709551616 - v) (by omega)
    obtain ⟨x, hx⟩ : ∃ x, 18446744073709551616 - v = x := ⟨_, rfl⟩
    have hxi : 18446744073709551615 - (v : Int) + 1 = (x : Int) := by omega
    have hD := hide (fun W => refDigits_10 x W (by omega))
    have hll := HLP.out
    rw [hx] at hlen hll
    have HLL := hide hll
    clear hx hll HLP
    go_wp2_with fail
    refine HW.out.mono ?_; rintro e w' ⟨rfl, rfl⟩
    go_wp2_with fail
    refine (hD.out _).mono ?_; rintro e w2 ⟨rfl, hb2⟩
    have HB2 := hide hb2; clear hb2
    go_wp2_with fail
    go_ret
    exact ⟨by rw [HLL.out]; exact congrArg (fun s => Ending.returned (.string s)) (str_cat [45] _), HB1.out.trans (HB2.out.mono HB1.out.size)⟩

theorem refPrint_any (b : Int) (a : Nat) (w : World) (ha : a ≤ 18446744073709551615) :
    Calls Tryz.prog 41 #[.int .i64 b, .int .u64 a] w (SaysP w (printL b a)) := by
  by_cases hb : b = 32
  · subst hb
    exact refPrint_32 a w ha
  · exact refPrint_64 b hb a w ha
end Go.Proofs.YtpanlhbdphobdaaGreatDoor
