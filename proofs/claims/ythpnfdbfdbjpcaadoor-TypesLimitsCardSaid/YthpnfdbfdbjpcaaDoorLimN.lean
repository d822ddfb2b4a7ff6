/-
  types: limits: the document's texts of numbers: contracts.
-/
import Derived.Test.YthpnfdbfdbjpcaaDoorStrs
import Derived.Test.YthpnfdbfdbjpcaaDoorBits
import Derived.Test.YthpnfdbfdbjpcaaDoorNumTxt
import Derived.Lib.ItoaMem
import Derived.Deep.DeepCutAuto
import Derived.Deep.QuietTactic
import Derived.BigQuiet
namespace Go.Proofs.YthpnfdbfdbjpcaaDoor
open Go.RowKit
set_option linter.unusedVariables false

/-- a string that a call answers, new blocks aside -/
def SaysP (w : World) (l : List UInt8) (e : Ending) (w' : World) : Prop := e = .returned (.string ⟨l.toArray⟩) ∧ Below w.heap.size w w'
def preL (b v : Nat) : List UInt8 := if v = 0 then [] else digL b v
theorem preL_step {b v : Nat} (hb : 2 ≤ b) : digL b v = preL b (v / b) ++ [digC (v % b)] := by
  unfold preL
  by_cases h : v < b
  · rw [if_pos (Nat.div_eq_of_lt h), digL_small h, Nat.mod_eq_of_lt h]; rfl
  · have h1 : 1 ≤ v / b := (Nat.one_le_div_iff (by omega)).2 (by omega)
    rw [if_neg (by omega), digL_big hb (by omega)]
theorem hex16_at : ∀ d : Fin 16, ([48, 49, 50, 51, 52, 53, 54, 55, 56, 57, 97, 98, 99, 100, 101, 102] : List UInt8)[d.val]? = some (digC d.val) := by decide +kernel
theorem hex16_piece (d : Nat) (h : d < 16) : (([48, 49, 50, 51, 52, 53, 54, 55, 56, 57, 97, 98, 99, 100, 101, 102] : List UInt8).drop d).take (d + 1 - d) = [digC d] := by
  have h1 := hex16_at ⟨d, h⟩
  simp only at h1
  obtain ⟨h2, h3⟩ := List.getElem?_eq_some_iff.1 h1
  rw [List.drop_eq_getElem_cons h2, h3, show d + 1 - d = 1 from by omega]
  rfl
def emptyV : Value → Nat
  | .string s => if s.size = 0 then 1 else 0
  | _ => 0
theorem emptyV_cat (c : UInt8) (tl : List UInt8) : emptyV (.string (⟨#[c]⟩ ++ ⟨tl.toArray⟩)) = 0 := by
  have h := str_cat [c] tl
  have h2 : (⟨#[c]⟩ : ByteArray) ++ ⟨tl.toArray⟩ = ⟨([c] ++ tl).toArray⟩ := h
  rw [h2]
  have hs : (⟨([c] ++ tl).toArray⟩ : ByteArray).size = tl.length + 1 := by show ([c] ++ tl).toArray.size = _; simp
  show (if (⟨([c] ++ tl).toArray⟩ : ByteArray).size = 0 then 1 else 0) = 0
  rw [hs, if_neg (by omega)]
theorem emptyV_one (c : UInt8) : emptyV (.string ⟨#[c]⟩) = 0 := rfl
set_option maxHeartbeats 1600000 in
set_option maxRecDepth 100000 in
theorem refDigits_10 (a : Nat) (w : World) (ha : a ≤ 18446744073709551615) :
    Calls Tryd.prog 16 #[.int .u64 a, .int .u64 10] w (SaysP w (digL 10 a)) := by
  obtain ⟨base, hbase⟩ : ∃ q, w.heap.size = q := ⟨_, rfl⟩
  have HW := hide hbase; clear hbase
  go_enter Tryd.func16, Tryd.ntmps16
  go_wp2_with fail
  go_loopw [0, 5] (fun va vs w2 => ∃ (v : Nat) (tl : List UInt8), va = .int .u64 v ∧ vs = .string ⟨tl.toArray⟩ ∧ v ≤ 18446744073709551615 ∧ Hid ((tl = [] ∧ v = a) ∨ (tl ≠ [] ∧ digL 10 a = preL 10 v ++ tl)) ∧ Hid (Below base w w2) ∧ tl.length ≤ 70 ∧ Hid (v < 10 ^ (70 - tl.length))) (fun va vs _ => (intOf va).toNat + emptyV vs)
  case atStart => exact ⟨a, [], rfl, rfl, ha, .inl ⟨rfl, rfl⟩, Below.refl _ _, by simp, by show _ < _; simp; omega⟩
  case round =>
    obtain ⟨v, tl, rfl, rfl, hv, hin, hb, hl0, hpow⟩ := hrel
    by_cases hgo : tl = [] ∨ 0 < v
    · have hsl : ∀ W, (Instr.slice 9 (.string ⟨#[48, 49, 50, 51, 52, 53, 54, 55, 56, 57, 97, 98, 99, 100, 101, 102]⟩) (some (.int .u64 ((v : Int) % 10))) (some (.int .u64 ((v : Int) % 10 + 1))) none).run Tryd.prog W = .ok (.string ⟨#[digC (v % 10)]⟩) W := fun W => by
        have h := str_mid [48, 49, 50, 51, 52, 53, 54, 55, 56, 57, 97, 98, 99, 100, 101, 102] (v % 10) (v % 10 + 1) .u64 .u64 (by omega) (by simp; omega) W
        rw [hex16_piece _ (by omega), Int.natCast_add, Int.natCast_emod] at h
        exact h
      have hl1 : tl.length < 70 := by
        apply Decidable.byContradiction
        intro hn
        have h7 : tl.length = 70 := by omega
        have := hpow.out
        rw [h7] at this
        simp at this
        rcases hgo with h | h
        · subst h; simp at h7
        · omega
      have hnx : Hid (digL 10 a = preL 10 (v / 10) ++ ([digC (v % 10)] ++ tl)) := by
        show _ = _
        rw [← List.append_assoc, ← preL_step (by omega)]
        rcases hin.out with ⟨rfl, rfl⟩ | ⟨h1, h2⟩
        · rw [List.append_nil]
        · rw [h2]
          unfold preL
          rw [if_neg (by rcases hgo with h | h; · exact absurd h h1
                         · exact Nat.pos_iff_ne_zero.1 h)]
      have hpw : Hid (v / 10 < 10 ^ (70 - (tl.length + 1))) := by
        show _ < _
        rw [Nat.div_lt_iff_lt_mul (by omega), ← Nat.pow_succ, show (70 - (tl.length + 1)).succ = 70 - tl.length from by omega]
        exact hpow.out
      by_cases ht : tl = []
      · subst ht
        clear hgo hpow hin
        go_wp2_with fail
        go_quiet (fail)
        go_wp2_with fail
        go_roundw
        case rel =>
          refine ⟨v / 10, [digC (v % 10)] ++ [], int_congr (by omega), ?_, by omega, .inr ⟨by simp, hnx.out⟩, below_drewN hb.out _, by simp only [List.append_nil, List.length_singleton]; omega, hpw.out⟩
          first | rfl | (congr 1; exact str_cat [digC (v % 10)] [])
        case measure =>
          have e1 := emptyV_one (digC (v % 10))
          have e2 := emptyV_cat (digC (v % 10)) []
          have e3 : emptyV (.string ⟨#[]⟩) = 1 := rfl
          simp only [intOf]
          first | (rw [e1]; show _ < _ + emptyV (.string ⟨#[]⟩); rw [e3]; omega) | (rw [e2]; show _ < _ + emptyV (.string ⟨#[]⟩); rw [e3]; omega)
      · have he : tl.isEmpty = false := by cases tl <;> simp_all
        have hv0 : 0 < v := hgo.resolve_left ht
        clear hgo hpow hin ht
        go_wp2_with fail
        go_quiet (fail)
        go_wp2_with fail
        go_roundw
        case rel =>
          refine ⟨v / 10, [digC (v % 10)] ++ tl, int_congr (by omega), ?_, by omega, .inr ⟨by simp, hnx.out⟩, below_drewN hb.out _, by simp; omega, hpw.out⟩
          exact congrArg Value.string (str_cat [digC (v % 10)] tl)
        case measure =>
          simp only [intOf]
          rw [emptyV_cat]
          omega
    · have ht : tl ≠ [] := fun h => hgo (.inl h)
      have hv0 : v = 0 := by
        apply Decidable.byContradiction
        intro h
        exact hgo (.inr (by omega))
      subst hv0
      have he : tl.isEmpty = false := by cases tl <;> simp_all
      have hfin : Hid (digL 10 a = tl) := by
        rcases hin.out with ⟨h, _⟩ | ⟨_, h⟩
        · exact absurd h ht
        · exact h
      clear hgo hin ht hpow
      go_wp2_with fail
      go_ret
      exact ⟨by rw [hfin.out]; rfl, by rw [HW.out]; exact hb.out⟩
/-- what Read answers -/
def ReadP (f : Option Nat) (w : World) (e : Ending) (w' : World) : Prop := e = .returned (.tuple #[.int .u64 (f.getD 0 : Nat), .bool f.isSome]) ∧ w = w'
set_option maxHeartbeats 3200000 in
set_option maxRecDepth 100000 in
theorem refRead_10 (bs : List UInt8) (most : Nat) (w : World) (hl : bs.length ≤ 1000) (h99 : 99 ≤ most) (hm : most ≤ 18446744073709551615) :
    Calls Tryd.prog 21 #[.string ⟨bs.toArray⟩, .int .u64 10, .int .u64 most] w (ReadP (readL 10 most bs) w) := by
  cases bs with
  | nil =>
    go_enter Tryd.func21, Tryd.ntmps21
    go_wp2_with fail
    go_ret2
    exact ⟨rfl, rfl⟩
  | cons c0 r0 =>
    have hi0 : ∀ W, (Instr.index 9 (.string ⟨(c0 :: r0).toArray⟩) (.int .i64 0)).run Tryd.prog W = .ok (.int .u8 (c0.toNat : Int)) W := fun W => str_at (c0 :: r0) 0 .i64 (c := c0) rfl W
    have hc0 := c0.toNat_lt
    by_cases hz : c0.toNat = 48 ∧ r0 ≠ []
    · have hR : readL 10 most (c0 :: r0) = none := if_pos hz
      rw [hR]
      obtain ⟨hz1, hz2⟩ := hz
      have hlen : (1 : Int) < ((c0 :: r0).length : Int) := by cases r0 <;> simp_all; omega
      have e0 : ((c0.toNat : Int) == 48) = true := by rw [hz1]; rfl
      have hsz : (⟨(c0 :: r0).toArray⟩ : ByteArray).size = (c0 :: r0).length := rfl
      have hemp : (c0 :: r0).isEmpty = false := rfl
      generalize c0 :: r0 = bs at *
      clear hz1 hz2 hR
      go_enter Tryd.func21, Tryd.ntmps21
      go_wp2_with fail
      go_ret2
      exact ⟨rfl, rfl⟩
    · have hR : readL 10 most (c0 :: r0) = readGoL 10 most (c0 :: r0) 0 := if_neg hz
      have hsz : (⟨(c0 :: r0).toArray⟩ : ByteArray).size = (c0 :: r0).length := rfl
      have hemp : (c0 :: r0).isEmpty = false := rfl
      have htest : (1 : Int) < ((c0 :: r0).length : Int) → ((c0.toNat : Int) == 48) = false := by
        intro h
        have hne : r0 ≠ [] := by rintro rfl; simp at h
        have : c0.toNat ≠ 48 := fun h' => hz ⟨h', hne⟩
        simp
        omega
      clear hz
      generalize c0 :: r0 = bs at *
      have HR := hide hR
      have HI0 := hide hi0
      have HT := hide htest
      clear hR hi0 htest
      go_enter Tryd.func21, Tryd.ntmps21
      go_upto_region 1 with fail
      go_cut [22] (fun c wx => c = .bool false ∧ wx = w)
      case first =>
        by_cases hlen : (1 : Int) < (bs.length : Int)
        · have e0 := HT.out hlen
          have hi0 := HI0.out
          go_wp2_with fail
          go_meet
          exact ⟨rfl, rfl⟩
        · have hlen' : (bs.length : Int) ≤ 1 := by omega
          clear hlen
          go_wp2_with fail
          go_meet
          exact ⟨rfl, rfl⟩
      obtain ⟨rfl, rfl⟩ := hcut
      go_wp2_with fail
      go_loop [8, 9, 10] (fun vv vi _ => ∃ k v : Nat, vi = .int .i64 k ∧ vv = .int .u64 v ∧ k ≤ bs.length ∧ v ≤ most ∧ Hid (readL 10 most bs = readGoL 10 most (bs.drop k) v)) (fun _ vi _ => bs.length - (intOf vi).toNat)
      case atStart => exact ⟨0, 0, rfl, rfl, by omega, by omega, HR.out⟩
      case round =>
        obtain ⟨k, v, rfl, rfl, hk, hv, hin⟩ := hrel
        by_cases hlt : k < bs.length
        · have hget : bs[k]? = some bs[k] := List.getElem?_eq_getElem hlt
          have hdrop : bs.drop k = bs[k] :: bs.drop (k + 1) := List.drop_eq_getElem_cons hlt
          have hix := fun W => str_at bs k .i64 hget W
          have hst := hin.out
          rw [hdrop, readGoL] at hst
          generalize bs[k] = c at hix hst
          clear hget hdrop hin
          have hc256 := c.toNat_lt
          by_cases hA : 48 ≤ c.toNat ∧ c.toNat ≤ 57
          · have hdv : dvC c = c.toNat - 48 := by unfold dvC; rw [if_pos hA]
            rw [hdv] at hst
            obtain ⟨hA1, hA2⟩ := hA
            clear hdv
            by_cases hbad : (most - (c.toNat - 48)) / 10 < v
            · rw [if_pos (.inr hbad)] at hst
              have HST := hide hst
              have hbi : ((most : Int) - ((c.toNat : Int) - 48)) / 10 < (v : Int) := by omega
              clear hst hbad
              go_wp2_with fail
              go_ret2
              exact ⟨by rw [HST.out]; rfl, rfl⟩
            · rw [if_neg (by omega)] at hst
              have HST := hide hst
              have hbi : (v : Int) ≤ ((most : Int) - ((c.toNat : Int) - 48)) / 10 := by omega
              have hov : 10 * v + (c.toNat - 48) ≤ most := by omega
              have hcast : ((10 * v + (c.toNat - 48) : Nat) : Int) = 10 * (v : Int) + ((c.toNat : Int) - 48) := by omega
              have HCA := hide hcast
              have hovi : 10 * (v : Int) + ((c.toNat : Int) - 48) ≤ 18446744073709551615 := by omega
              clear hst hbad hcast
              go_wp2_with fail
              go_round
              case rel => exact ⟨k + 1, 10 * v + (c.toNat - 48), by go_num, int_congr HCA.out.symm, by omega, hov, HST.out⟩
              case measure => simp [intOf]; omega
          · by_cases hB : 97 ≤ c.toNat ∧ c.toNat ≤ 102
            · have hdv : dvC c = c.toNat - 87 := by unfold dvC; rw [if_neg hA, if_pos hB]
              rw [hdv] at hst
              obtain ⟨hB1, hB2⟩ := hB
              clear hdv hA
              rw [if_pos (.inl (by omega))] at hst
              have HST := hide hst
              clear hst
              go_wp2_with fail
              go_ret2
              exact ⟨by rw [HST.out]; rfl, rfl⟩
            · have hdv : dvC c = 99 := by unfold dvC; rw [if_neg hA, if_neg hB]
              rw [hdv, if_pos (.inl (by omega))] at hst
              have HST := hide hst
              have h3 : (c.toNat < 48 ∨ (57 < c.toNat ∧ c.toNat < 97)) ∨ 102 < c.toNat := by omega
              clear hst hA hB hdv
              rcases h3 with (h3 | ⟨h3, h4⟩) | h3
              all_goals
                go_wp2_with fail
                go_ret2
                exact ⟨by rw [HST.out]; rfl, rfl⟩
        · have hkk : k = bs.length := by omega
          subst hkk
          have hst := hin.out
          rw [List.drop_length, readGoL] at hst
          have HST := hide hst
          clear hst hin
          go_wp2_with fail
          go_ret2
          exact ⟨by rw [HST.out]; rfl, rfl⟩
theorem digL_len_le {b : Nat} (hb : 2 ≤ b) (hb16 : b ≤ 16) : ∀ (L m : Nat), 1 ≤ L → m < b ^ L → (digL b m).length ≤ L := by
  intro L m
  induction m using Nat.strongRecOn generalizing L with
  | _ m ih =>
    intro hL hm
    by_cases h : m < b
    · rw [digL_small h]; simpa using hL
    · rw [digL_big hb (by omega), List.length_append, List.length_singleton]
      obtain ⟨L, rfl⟩ : ∃ K, L = K + 1 := ⟨L - 1, by omega⟩
      have hL1 : 1 ≤ L := by
        rcases Nat.eq_zero_or_pos L with h0 | h0
        · subst h0; rw [Nat.zero_add, Nat.pow_one] at hm; omega
        · exact h0
      have := ih (m / b) (Nat.div_lt_self (by omega) (by omega)) L hL1 ((Nat.div_lt_iff_lt_mul (by omega)).2 (by rw [Nat.pow_succ] at hm; exact hm))
      omega
theorem digL10_len (a : Nat) (ha : a ≤ 18446744073709551615) : (digL 10 a).length ≤ 20 := digL_len_le (by omega) (by omega) 20 a (by omega) (by simp; omega)
/-- a word as a number with a sign -/
def signV (b : Int) (a : Nat) : Int := if b = 32 then wrap32 a else wrap64 a
/-- a word's text -/
def printL (b : Int) (a : Nat) : List UInt8 := Lib.itoa (signV b a)
theorem valB_top {a n : Nat} (hn : 1 ≤ n) : bitN a (n - 1) = decide (2 ^ (n - 1) ≤ a % 2 ^ n) := by
  unfold bitN
  obtain ⟨m, rfl⟩ : ∃ m, n = m + 1 := ⟨n - 1, by omega⟩
  rw [Nat.add_sub_cancel, Nat.mod_pow_succ]
  have h1 := Nat.mod_lt a (Nat.two_pow_pos m)
  have : a / 2 ^ m % 2 = 0 ∨ a / 2 ^ m % 2 = 1 := by omega
  rcases this with h | h <;> rw [h]
  · rw [decide_eq_false (by omega)]; rfl
  · rw [decide_eq_true (by omega)]; rfl
theorem itoa_pos (n : Nat) : Lib.itoa (n : Int) = digL 10 n := by rw [← decDigits_digL]; exact Lib.itoa_nonneg n
theorem itoa_neg' (n : Nat) (h : 1 ≤ n) : Lib.itoa (-(n : Int)) = 45 :: digL 10 n := by rw [← decDigits_digL]; exact Lib.itoa_neg n h
theorem print_facts64 (b : Int) (hb : b ≠ 32) (a : Nat) (ha : a ≤ 18446744073709551615) : ∃ v, v < 18446744073709551616 ∧ valB (bitsK a 64) = v ∧ bitN a 63 = decide (9223372036854775808 ≤ v) ∧ printL b a = if 9223372036854775808 ≤ v then 45 :: digL 10 (18446744073709551616 - v) else digL 10 v := by
  have hval := valB_bitsK a 64
  have htop := valB_top (a := a) (n := 64) (by omega)
  have hlt : a % 2 ^ 64 < 2 ^ 64 := Nat.mod_lt _ (Nat.two_pow_pos _)
  simp only [Nat.reducePow, Nat.reduceSub] at hval htop hlt
  have hvi : (a : Int) % 18446744073709551616 = ((a % 18446744073709551616 : Nat) : Int) := by omega
  refine ⟨a % 18446744073709551616, hlt, hval, htop, ?_⟩
  generalize a % 18446744073709551616 = v at hlt hvi
  unfold printL signV
  rw [if_neg hb]
  unfold wrap64
  split
  · rw [← itoa_neg' _ (by omega)]
    exact congrArg Lib.itoa (by omega)
  · rw [← itoa_pos]
    exact congrArg Lib.itoa (by omega)
set_option maxHeartbeats 1600000 in
set_option maxRecDepth 100000 in
theorem refPrint_64 (b : Int) (hb : b ≠ 32) (a : Nat) (w : World) (ha : a ≤ 18446744073709551615) :
    Calls Tryd.prog 5 #[.int .i64 b, .int .u64 a] w (SaysP w (printL b a)) := by
  obtain ⟨v, hvlt, hval, htop, hsg⟩ := print_facts64 b hb a ha
  obtain ⟨L, hL⟩ : ∃ L, printL b a = L := ⟨_, rfl⟩
  rw [hL] at hsg ⊢
  have HSG := hide hsg
  clear hL
  have HVAL := hide hval
  have HTB := hide htop
  have HL := hide (refList_any 64 a w (by omega) (by show a < 2 ^ 64; simp only [Nat.reducePow]; omega))
  have e32 : (b == 32) = false := by simp; omega
  clear hval htop hsg
  go_enter Tryd.func5, Tryd.ntmps5
  go_wp2_with fail
  refine HL.out.mono ?_; rintro e w1 ⟨A1, c1, rfl, ho1, hb1, hc1⟩
  have hl64 : (bitsK a 64).length = 64 := bitsK_len a 64
  have hrd := Reads.of_own ho1.out
  have HW := hide (refWord_any A1 c1 (bitsK a 64) w1 hrd (by rw [hl64]; omega))
  rw [HVAL.out] at HW
  obtain ⟨tb, htb⟩ : ∃ q, decide (9223372036854775808 ≤ v) = q := ⟨_, rfl⟩
  rw [htb] at HTB
  have hcell : ∃ ad : Addr, A1 = some ad ∧ w1.cell? ⟨ad.block, ad.off + 63, none⟩ = some (.bool tb) := by
    rw [hl64] at hrd
    obtain ⟨ad, h, _, hc⟩ := hrd.2 (by omega)
    have h2 := hc 63 (.bool tb) (by rw [List.getElem?_map, bitsK_get a 64 63 (by omega)]; show some (T (bitN a 63)) = _; rw [HTB.out]; rfl)
    exact ⟨ad, h, h2⟩
  obtain ⟨ad, rfl, hcell⟩ := hcell
  rw [hl64] at HW ⊢
  have HB1 := hide hb1.out
  clear hl64 hrd ho1 hb1 hc1
  cases tb with
  | false =>
    have hv3 : ¬ 9223372036854775808 ≤ v := of_decide_eq_false htb
    have HLL := hide (HSG.out.trans (if_neg hv3))
    clear htb HSG
    go_wp2_with fail
    refine HW.out.mono ?_; rintro e w' ⟨rfl, rfl⟩
    go_wp2_with fail
    refine (refDigits_10 v _ (by omega)).mono ?_; rintro e w2 ⟨rfl, hb2⟩
    have HB2 := hide hb2; clear hb2
    go_wp2_with fail
    go_ret
    exact ⟨by rw [HLL.out]; rfl, HB1.out.trans (HB2.out.mono HB1.out.size)⟩
  | true =>
    have hv3 : 9223372036854775808 ≤ v := of_decide_eq_true htb
    have HLP := hide (HSG.out.trans (if_pos hv3))
    clear htb HSG
    have hlen := digL10_len (18446744073709551616 - v) (by omega)
    obtain ⟨x, hx⟩ : ∃ x, 18446744073709551616 - v = x := ⟨_, rfl⟩
    have hxi : 18446744073709551615 - (v : Int) + 1 = (x : Int) := by omega
    have hD := hide (fun W => refDigits_10 x W (by omega))
    have hll := HLP.out
    rw [hx] at hlen hll
    have HLL := hide hll
    clear hx hll HLP
    go_wp2_with fail
    refine HW.out.mono ?_; rintro e w' ⟨rfl, rfl⟩
    go_wp2_with fail
    refine (hD.out _).mono ?_; rintro e w2 ⟨rfl, hb2⟩
    have HB2 := hide hb2; clear hb2
    go_wp2_with fail
    go_ret
    exact ⟨by rw [HLL.out]; exact congrArg (fun s => Ending.returned (.string s)) (str_cat [45] _), HB1.out.trans (HB2.out.mono HB1.out.size)⟩
/-- what a number with a sign, taken as a word, is printed as -/
theorem printL_int (a : Int) (h0 : -9223372036854775808 ≤ a) (h1 : a ≤ 9223372036854775807) : printL 64 (a % 18446744073709551616).toNat = Lib.itoa a := by
  have e : signV 64 (a % 18446744073709551616).toNat = a := by
    unfold signV wrap64
    rw [if_neg (by decide)]
    omega
  unfold printL
  rw [e]
end Go.Proofs.YthpnfdbfdbjpcaaDoor
