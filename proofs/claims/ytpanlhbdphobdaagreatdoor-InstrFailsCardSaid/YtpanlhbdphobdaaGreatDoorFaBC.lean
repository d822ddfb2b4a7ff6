/-
  Bits in a list, the lowest first: what lies in memory; the number that they are.
  conv: a word of other widths: contracts.
  Numbers told by a base of 10 or 16, and read again; in plain Lean.
  strconv: numbers told in tens and by 16: contracts.
-/
import Derived.Test.YtpanlhbdphobdaaGreatDoorRows
import Derived.Test.YtpanlhbdphobdaaGreatDoorDeAC
import Derived.Test.YtpanlhbdphobdaaGreatDoorDeAD
import Derived.Maps.RangeWalk
import Derived.Deep.QuietTactic
import Derived.BigQuiet
import Derived.IntWalk
import Derived.Outline
import Derived.Test.YtpanlhbdphobdaaGreatDoorFaAP
import Derived.Lib.ParseIntBCases
import Derived.Lib.ItoaNum
import Derived.Test.YtpanlhbdphobdaaGreatDoorShelf
import Derived.Lib.ItoaMem
import Derived.Lib.AppendIntMem
import Derived.Lib.ItoaWalk
import Derived.Lib.Walk
import Derived.BigCall
import Derived.BigGuard
import Derived.CellFam
namespace Go.Proofs.YtpanlhbdphobdaaGreatDoor
open Go.RowKit
set_option linter.unusedVariables false

def Tb (b : Bool) : Value := .bool b
theorem Tb_one (bs : List Bool) : ∀ u ∈ bs.map Tb, u.oneCell' = true := by
  intro u hu; obtain ⟨b, _, rfl⟩ := List.mem_map.1 hu; rfl
theorem bool_elem : IsElem Tryz.prog 134 4 1 1 := IsElem.mk' Tryz.underlying134 (z := .bool false) (by kernel_rfl) rfl (by omega)
def OwnTb (w : World) (base : Nat) (v : Value) (bs : List Bool) : Prop := w.ownsRow base 4 1 v bs.length (bs.map Tb)
theorem OwnTb.push {w : World} {base : Nat} {v : Value} {bs : List Bool} {b : Bool} (h : w.ownsRow base 4 1 v (bs.length + 1) (bs.map Tb ++ [Tb b])) : OwnTb w base v (bs ++ [b]) :=
  own_cast h (by simp) (by simp)
theorem OwnTb.cast {w : World} {base : Nat} {v : Value} {bs bs' : List Bool} (h : OwnTb w base v bs) (e : bs = bs') : OwnTb w base v bs' := e ▸ h

def bitNb (c k : Nat) : Bool := c / 2 ^ k % 2 == 1
def bitsKb (c : Nat) (k : Nat) : List Bool := (List.range k).map (bitNb c)
theorem bitsKb_succ (c k : Nat) : bitsKb c (k + 1) = bitsKb c k ++ [bitNb c k] := by
  unfold bitsKb; rw [List.range_succ, List.map_append]; rfl
theorem bitsKb_len (c k : Nat) : (bitsKb c k).length = k := by simp [bitsKb]
theorem bitsKb_get (c k i : Nat) (h : i < k) : (bitsKb c k)[i]? = some (bitNb c i) := by
  unfold bitsKb; rw [List.getElem?_map, List.getElem?_range h]; rfl
theorem bitsKb_take (c k j : Nat) (h : j ≤ k) : (bitsKb c k).take j = bitsKb c j := by
  unfold bitsKb; rw [← List.map_take, List.take_range, Nat.min_eq_left h]

def valBb : List Bool → Nat
  | [] => 0
  | b :: r => (if b then 1 else 0) + 2 * valBb r
theorem valBb_append : ∀ (a b : List Bool), valBb (a ++ b) = valBb a + 2 ^ a.length * valBb b := by
  intro a
  induction a with
  | nil => intro b; simp [valBb]
  | cons x a ih =>
    intro b
    rw [List.cons_append, valBb, ih, valBb, List.length_cons, Nat.pow_succ]
    have : 2 * (valBb a + 2 ^ a.length * valBb b) = 2 * valBb a + 2 ^ a.length * 2 * valBb b := by
      rw [Nat.mul_add, ← Nat.mul_assoc, Nat.mul_comm 2 (2 ^ a.length)]
    omega
theorem valBb_lt : ∀ (a : List Bool), valBb a < 2 ^ a.length := by
  intro a
  induction a with
  | nil => simp [valBb]
  | cons x a ih => rw [valBb, List.length_cons, Nat.pow_succ]; split <;> omega
theorem valBb_bitsK (c : Nat) : ∀ k, valBb (bitsKb c k) = c % 2 ^ k := by
  intro k
  induction k with
  | zero => simp [bitsKb, valBb, Nat.mod_one]
  | succ k ih =>
    rw [bitsKb_succ, valBb_append, ih, Nat.mod_pow_succ]
    rw [bitsKb_len]
    congr 2
    unfold bitNb
    have : c / 2 ^ k % 2 = 0 ∨ c / 2 ^ k % 2 = 1 := by omega
    rcases this with h | h <;> rw [h] <;> rfl

/-- bits that a call has made -/
def BitsPost (w : World) (bs : List Bool) (e : Ending) (w' : World) : Prop := ∃ A c, e = .returned (.slice A bs.length c) ∧ Hid (OwnTb w' w.heap.size (.slice A bs.length c) bs) ∧ Hid (Below w.heap.size w w') ∧ Hid (bs.length ≤ c)

theorem bit_T (m : Nat) (k a : Nat) (h : a / 2 ^ k = m) : Value.bool ((m : Int) % 2 == 1) = Tb (bitNb a k) := by
  unfold Tb bitNb
  rw [h]
  congr 1
  rw [Bool.eq_iff_iff]
  simp
  omega

set_option maxHeartbeats 800000 in
theorem refList_any (n a : Nat) (w : World) (hn : n ≤ 1000) (ha : Hid (a < 2 ^ 64)) :
    Calls Tryz.prog 77 #[.int .i64 n, .int .u64 a] w (BitsPost w (bitsKb a n)) := by
  obtain ⟨base, hbase⟩ : ∃ b, w.heap.size = b := ⟨_, rfl⟩
  have HB := hide hbase; clear hbase
  go_enter Tryz.func77, Tryz.ntmps77
  go_wp2_with fail
  go_loopw [5, 1, 6] (fun v m i w1 => ∃ (k q : Nat), i = .int .i64 k ∧ k ≤ n ∧ m = .int .u64 q ∧ Hid (a / 2 ^ k = q) ∧ q ≤ 18446744073709551615 ∧ Hid (OwnTb w1 base v (bitsKb a k)) ∧ Hid (Below base w w1) ∧ base ≤ w1.heap.size) (fun _ _ i _ => n - (intOf i).toNat)
  case atStart => exact ⟨0, a, rfl, by omega, rfl, by show _ = _; simp, by have := ha.out; simp at this; omega, own_nil _ _ _ _, Below.refl _ _, by rw [HB.out]; omega⟩
  case round =>
    obtain ⟨k, q, rfl, hk, rfl, hq, hq1, ho, hb, hbs⟩ := hrel
    by_cases hlt : k < n
    · have hroom : Room (bitsKb a k).length 1 1 := room_of (by rw [bitsKb_len]; omega) (by omega)
      go_wp2_with (at_builtin; refine wpList_push rfl _ _ rfl base bool_elem _ (bitsKb a k).length ((bitsKb a k).map Tb) rfl wr _ _ rfl ho.out rfl rfl hroom hbs ?_; intro v' w' ho' hg')
      go_roundw
      case rel =>
        first | rw [bit_T q k a hq.out] at ho' | skip
        refine ⟨k + 1, q / 2, by go_num, by omega, int_congr (by omega), ?_, by omega, (OwnTb.push ho').cast (bitsKb_succ a k).symm, hb.out.grown hg'.by_ hbs (own_ge ho.out), Nat.le_trans hbs hg'.by_.size⟩
        show _ = _
        rw [Nat.pow_succ, ← Nat.div_div_eq_div_mul, hq.out]
      case measure => simp [intOf] <;> omega
    · have hkn : k = n := by omega
      subst hkn
      clear hlt
      obtain ⟨A, c, hv, hc, _⟩ := own_form ho.out
      subst hv
      go_wp2_with fail
      go_ret
      exact ⟨A, c, rfl, by rw [HB.out]; exact ho.out, by rw [HB.out]; exact hb.out, hc⟩

theorem valBb_drop {l : List Bool} {k : Nat} {b : Bool} (h : l[k]? = some b) : valBb (l.drop k) = (if b then 1 else 0) + 2 * valBb (l.drop (k + 1)) := by
  obtain ⟨hk, hv⟩ := List.getElem?_eq_some_iff.1 h
  rw [List.drop_eq_getElem_cons hk, hv, valBb]

set_option maxHeartbeats 800000 in
theorem refWord_any (A : Option Addr) (cap : Nat) (l : List Bool) (w : World) (hr : Hid (Reads w w.heap.size 1 A l.length (l.map Tb))) (hl : l.length ≤ 64) :
    Calls Tryz.prog 78 #[.slice A l.length cap] w fun e w' => e = .returned (.int .u64 (valBb l : Nat)) ∧ w = w' := by
  go_enter Tryz.func78, Tryz.ntmps78
  go_wp2_with fail
  go_loop [3, 4] (fun m i => ∃ (k q : Nat), k ≤ l.length ∧ i = .int .i64 ((k : Int) - 1) ∧ m = .int .u64 q ∧ Hid (valBb (l.drop k) = q)) (fun _ i => (intOf i + 1).toNat)
  case atStart => exact ⟨l.length, 0, by omega, rfl, rfl, by show _ = _; simp [valBb]⟩
  case round =>
    obtain ⟨k, q, hk, rfl, rfl, hq⟩ := hrel
    by_cases hlt : 0 < k
    · obtain ⟨j, rfl⟩ : ∃ j, k = j + 1 := ⟨k - 1, by omega⟩
      obtain ⟨ad, b, rfl, hb, hcell⟩ := hr.out.elem (k := j) (by omega)
      have hlt64 : q < 2 ^ 63 := by
        have h1 := valBb_lt (l.drop (j + 1))
        rw [List.length_drop, hq.out] at h1
        exact Nat.lt_of_lt_of_le h1 (Nat.pow_le_pow_right (by omega) (by omega))
      have hq1 : q ≤ 9223372036854775807 := by simp at hlt64; omega
      clear hlt64 hlt
      have hnext := valBb_drop hb.out
      rw [hq.out] at hnext
      have HN := hide hnext; clear hnext
      have hj : ((j + 1 : Nat) : Int) - 1 = j := by omega
      rw [hj]
      have HJ := hide hj; clear hj
      unfold Tb at hcell
      cases b with
      | true =>
        go_wp2_with fail
        go_round
        case rel => exact ⟨j, 2 * q + 1, by omega, int_congr (by omega), int_congr (by omega), by show _ = _; rw [HN.out]; simp; omega⟩
        case measure => simp [intOf] <;> omega
      | false =>
        go_wp2_with fail
        go_round
        case rel => exact ⟨j, 2 * q, by omega, int_congr (by omega), int_congr (by omega), by show _ = _; rw [HN.out]; simp⟩
        case measure => simp [intOf] <;> omega
    · have hk0 : k = 0 := by omega
      subst hk0
      clear hlt
      go_wp2_with fail
      go_ret
      have := hq.out
      rw [List.drop_zero] at this
      exact ⟨by rw [this]; rfl, rfl⟩
end Go.Proofs.YtpanlhbdphobdaaGreatDoor

namespace Go.Proofs.YtpanlhbdphobdaaGreatDoor
open Go.RowKit
set_option linter.unusedVariables false

theorem valBb_rep (b : Bool) : ∀ k, valBb (List.replicate k b) = if b then 2 ^ k - 1 else 0 := by
  intro k
  induction k with
  | zero => simp [valBb]
  | succ k ih =>
    rw [List.replicate_succ, valBb, ih, Nat.pow_succ]
    have := Nat.one_le_two_pow (n := k)
    cases b <;> simp <;> omega

/-- a word of f bits as one of t bits -/
def extV (f t : Nat) (sg : Bool) (a : Nat) : Nat := a % 2 ^ f + 2 ^ f * (if sg && bitNb a (f - 1) then 2 ^ (t - f) - 1 else 0)
theorem extV_bits (f t : Nat) (sg : Bool) (a : Nat) : valBb (bitsKb a f ++ List.replicate (t - f) (sg && bitNb a (f - 1))) = extV f t sg a := by
  unfold extV
  rw [valBb_append, valBb_bitsK, valBb_rep, bitsKb_len]

def widthsOk (f t : Int) : Prop := (f = 8 ∨ f = 16 ∨ f = 32) ∧ (t = 32 ∨ t = 64)

end Go.Proofs.YtpanlhbdphobdaaGreatDoor

namespace Go.Proofs.YtpanlhbdphobdaaGreatDoor

def digC (d : Nat) : UInt8 := if d < 10 then UInt8.ofNat (48 + d) else UInt8.ofNat (87 + d)
def dvC (c : UInt8) : Nat := if 48 ≤ c.toNat ∧ c.toNat ≤ 57 then c.toNat - 48 else if 97 ≤ c.toNat ∧ c.toNat ≤ 102 then c.toNat - 87 else 99
theorem ofNat_to (n : Nat) (h : n < 256) : (UInt8.ofNat n).toNat = n := by simp [UInt8.toNat_ofNat']; omega
theorem digC_to (d : Nat) (h : d < 16) : (digC d).toNat = if d < 10 then 48 + d else 87 + d := by
  unfold digC
  split <;> exact ofNat_to _ (by omega)
theorem dv_digC (d : Nat) (h : d < 16) : dvC (digC d) = d := by
  unfold dvC
  rw [digC_to d h]
  by_cases h1 : d < 10
  · simp only [h1, if_true]; rw [if_pos (by omega)]; omega
  · simp only [h1, if_false]; rw [if_neg (by omega), if_pos (by omega)]; omega
theorem digC_dv (c : UInt8) (h : dvC c < 16) : digC (dvC c) = c := by
  have hc := c.toNat_lt
  apply UInt8.toNat_inj.1
  rw [digC_to _ h]
  unfold dvC at h ⊢
  split at h
  · rename_i h1; rw [if_pos h1, if_pos (by omega)]; omega
  · rename_i h1
    split at h
    · rename_i h2; rw [if_neg h1, if_pos h2, if_neg (by omega)]; omega
    · omega

/-- n, told by the base b -/
def digL (b n : Nat) : List UInt8 :=
  if _h : n < b ∨ b < 2 then [digC n] else digL b (n / b) ++ [digC (n % b)]
termination_by n
decreasing_by exact Nat.div_lt_self (by omega) (by omega)
theorem digL_small {b n : Nat} (h : n < b) : digL b n = [digC n] := by rw [digL, dif_pos (.inl h)]
theorem digL_big {b n : Nat} (hb : 2 ≤ b) (h : b ≤ n) : digL b n = digL b (n / b) ++ [digC (n % b)] := by rw [digL, dif_neg (by omega)]
theorem decDigits_digL : ∀ n : Nat, Lib.decDigits n = digL 10 n := by
  intro n
  induction n using Nat.strongRecOn with
  | _ n ih =>
    by_cases h : n < 10
    · rw [Lib.decDigits, dif_pos h, digL_small h, digC, if_pos h]
    · rw [Lib.decDigits, dif_neg h, digL_big (by omega) (by omega), ih (n / 10) (by omega), digC, if_pos (Nat.mod_lt _ (by omega))]

theorem digL_ne {b n : Nat} : digL b n ≠ [] := by
  rw [digL]
  split <;> simp
theorem digL_step {b v d : Nat} (hb : 2 ≤ b) (hv : 1 ≤ v) (hd : d < b) : digL b (b * v + d) = digL b v ++ [digC d] := by
  have h1 : b ≤ b * v + d := by
    have := Nat.mul_le_mul_left b hv
    omega
  rw [digL_big hb h1]
  have e1 : (b * v + d) / b = v := by rw [Nat.mul_add_div (by omega), Nat.div_eq_of_lt hd, Nat.add_zero]
  have e2 : (b * v + d) % b = d := by rw [Nat.mul_add_mod, Nat.mod_eq_of_lt hd]
  rw [e1, e2]
/-- a number's first digit is 0 for 0 alone -/
theorem digL_head {b : Nat} (hb : 2 ≤ b) (hb16 : b ≤ 16) : ∀ n, 1 ≤ n → ∃ c r, digL b n = c :: r ∧ c.toNat ≠ 48 := by
  intro n
  induction n using Nat.strongRecOn with
  | _ n ih =>
    intro hn
    by_cases h : n < b
    · refine ⟨digC n, [], digL_small h, ?_⟩
      rw [digC_to _ (by omega)]
      split <;> omega
    · have h1 : 1 ≤ n / b := (Nat.one_le_div_iff (by omega)).2 (by omega)
      obtain ⟨c, r, e, hc⟩ := ih (n / b) (Nat.div_lt_self (by omega) (by omega)) h1
      exact ⟨c, r ++ [digC (n % b)], by rw [digL_big hb (by omega), e]; rfl, hc⟩
theorem digL_head_any {b : Nat} (hb : 2 ≤ b) (hb16 : b ≤ 16) (n : Nat) : ∃ c r, digL b n = c :: r ∧ dvC c < b := by
  induction n using Nat.strongRecOn with
  | _ n ih =>
    by_cases h : n < b
    · exact ⟨digC n, [], digL_small h, by rw [dv_digC _ (by omega)]; exact h⟩
    · obtain ⟨c, r, e, hc⟩ := ih (n / b) (Nat.div_lt_self (by omega) (by omega))
      exact ⟨c, r ++ [digC (n % b)], by rw [digL_big hb (by omega), e]; rfl, hc⟩

/-- the document's reading of digits, from here on -/
def readGoL (b most : Nat) : List UInt8 → Nat → Option Nat
  | [], v => some v
  | c :: r, v => if b ≤ dvC c ∨ (most - dvC c) / b < v then none else readGoL b most r (b * v + dvC c)
/-- the document's reading -/
def readNL (b most : Nat) (s : List UInt8) : Option Nat :=
  match s with
  | [] => none
  | c :: r => if c.toNat = 48 ∧ r ≠ [] then none else readGoL b most s 0

theorem readGo_fwd {b most : Nat} (hb : 2 ≤ b) (hb16 : b ≤ 16) : ∀ (s : List UInt8) (v u : Nat), 1 ≤ v → v ≤ most → readGoL b most s v = some u → digL b u = digL b v ++ s ∧ u ≤ most := by
  intro s
  induction s with
  | nil => intro v u hv hm h; rw [readGoL] at h; injection h with h; subst h; exact ⟨by simp, hm⟩
  | cons c r ih =>
    intro v u hv hm h
    rw [readGoL] at h
    split at h
    · cases h
    · rename_i hc
      have hd : dvC c < b := by omega
      have hle : v ≤ (most - dvC c) / b := by omega
      rw [Nat.le_div_iff_mul_le (by omega), Nat.mul_comm] at hle
      have hpos : b ≤ b * v := by
        have := Nat.mul_le_mul_left b hv
        omega
      obtain ⟨h1, h2⟩ := ih (b * v + dvC c) u (by omega) (by omega) h
      refine ⟨?_, h2⟩
      rw [h1, digL_step hb hv hd, digC_dv _ (by omega), List.append_assoc, List.singleton_append]
theorem readGo_bwd {b most : Nat} (hb : 2 ≤ b) (hb16 : b ≤ 16) : ∀ (u : Nat) (r : List UInt8), u ≤ most → readGoL b most (digL b u ++ r) 0 = readGoL b most r u := by
  intro u
  induction u using Nat.strongRecOn with
  | _ u ih =>
    intro r hu
    by_cases h : u < b
    · rw [digL_small h, List.singleton_append, readGoL, dv_digC _ (by omega), if_neg (fun h' => h'.elim (fun h2 => by omega) (Nat.not_lt_zero _))]
      simp
    · rw [digL_big hb (by omega), List.append_assoc, ih (u / b) (Nat.div_lt_self (by omega) (by omega)) _ (Nat.le_trans (Nat.div_le_self _ _) hu), List.singleton_append, readGoL]
      have hm := Nat.mod_lt u (show 0 < b by omega)
      have hdm := Nat.div_add_mod u b
      rw [dv_digC _ (by omega), if_neg, hdm]
      have : u / b ≤ (most - u % b) / b := by
        rw [Nat.le_div_iff_mul_le (by omega), Nat.mul_comm]
        omega
      omega

/-- what is read is what is told -/
theorem readNL_iff {b most : Nat} (hb : 2 ≤ b) (hb16 : b ≤ 16) (hm : 16 ≤ most) (s : List UInt8) (u : Nat) : readNL b most s = some u ↔ (s = digL b u ∧ u ≤ most) := by
  constructor
  · intro h
    unfold readNL at h
    cases s with
    | nil => cases h
    | cons c r =>
      simp only at h
      split at h
      · cases h
      · rename_i hc
        rw [readGoL] at h
        split at h
        · cases h
        · rename_i hd
          have hd' : dvC c < b := by omega
          rw [Nat.mul_zero, Nat.zero_add] at h
          by_cases h0 : dvC c = 0
          · have hz : c.toNat = 48 := by
              have := digC_dv c (by omega)
              rw [h0] at this
              rw [← this]
              rfl
            have hr : r = [] := by
              apply Decidable.byContradiction
              intro hr
              exact hc ⟨hz, hr⟩
            subst hr
            rw [readGoL, h0] at h
            injection h with h
            subst h
            refine ⟨?_, by omega⟩
            rw [digL_small (by omega)]
            rw [← h0, digC_dv c (by omega)]
          · obtain ⟨h1, h2⟩ := readGo_fwd hb hb16 r (dvC c) u (by omega) (by omega) h
            refine ⟨?_, h2⟩
            rw [h1, digL_small hd', digC_dv c (by omega)]
            rfl
  · rintro ⟨rfl, hu⟩
    have hgo := readGo_bwd hb hb16 u [] hu
    rw [List.append_nil] at hgo
    unfold readNL
    cases h : digL b u with
    | nil => exact absurd h digL_ne
    | cons c r =>
      rw [h] at hgo
      simp only
      rw [if_neg, hgo, readGoL]
      rintro ⟨hc, hr⟩
      rcases Nat.eq_zero_or_pos u with h0 | h0
      · subst h0
        rw [digL_small (by omega)] at h
        injection h with _ h
        exact hr h.symm
      · obtain ⟨c', r', e, hc'⟩ := digL_head hb hb16 u h0
        rw [e] at h
        injection h with h _
        subst h
        exact hc' hc

/-- strconv's reading of what is told in tens -/
theorem parseM_dec {M : Nat} (hM : M ≤ 18446744073709551615) : ∀ (u : Nat) (r : List UInt8), u ≤ M → Lib.parseUintM M 0 (digL 10 u ++ r) = Lib.parseUintM M u r := by
  intro u
  induction u using Nat.strongRecOn with
  | _ u ih =>
    intro r hu
    have key : ∀ (d acc : Nat), d < 10 → acc * 10 + d ≤ M → Lib.parseUintM M acc (digC d :: r) = Lib.parseUintM M (acc * 10 + d) r := by
      intro d acc hd hm
      have e : (digC d).toNat = 48 + d := by rw [digC_to d (by omega), if_pos hd]
      rw [Lib.parseUintM, e, if_pos (by omega), if_neg (by omega), if_neg (by omega), show 48 + d - 48 = d from by omega]
    by_cases h : u < 10
    · rw [digL_small h, List.singleton_append, key u 0 h (by omega)]
      simp
    · rw [digL_big (by omega) (by omega), List.append_assoc, ih (u / 10) (by omega) _ (by omega), List.singleton_append, key (u % 10) (u / 10) (by omega) (by omega)]
      congr 1
      omega
theorem parseB_dec {k u : Nat} (hk : k ≤ 64) (hu : u < 2 ^ k) : Lib.parseUintB k (digL 10 u) = .ok u := by
  have hM : 2 ^ k - 1 ≤ 18446744073709551615 := by
    have : 2 ^ k ≤ 2 ^ 64 := Nat.pow_le_pow_right (by omega) hk
    simp only [Nat.reducePow] at this
    omega
  unfold Lib.parseUintB
  rw [if_neg digL_ne]
  have := parseM_dec hM u [] (by omega)
  rw [List.append_nil] at this
  rw [this, Lib.parseUintM]

theorem digL_inj {b : Nat} (hb : 2 ≤ b) (hb16 : b ≤ 16) {m n : Nat} (h : digL b m = digL b n) : m = n := by
  have h1 := (readNL_iff hb hb16 (most := m + n + 16) (by omega) (digL b m) m).2 ⟨rfl, by omega⟩
  have h2 := (readNL_iff hb hb16 (most := m + n + 16) (by omega) (digL b n) n).2 ⟨rfl, by omega⟩
  rw [h, h2] at h1
  injection h1 with h1
  exact h1.symm
/-- strconv's reading, told again: the document's reading -/
theorem tens_iff {k : Nat} (hk : k = 32 ∨ k = 64) (s : List UInt8) (u : Nat) : (Lib.parseUintB k s = .ok u ∧ Lib.decDigits u = s) ↔ readNL 10 (2 ^ k - 1) s = some u := by
  have hp : 16 ≤ 2 ^ k - 1 := by rcases hk with rfl | rfl <;> simp
  rw [readNL_iff (by omega) (by omega) hp]
  constructor
  · rintro ⟨h1, h2⟩
    exact ⟨by rw [← h2, decDigits_digL], Lib.parseUintB_le h1⟩
  · rintro ⟨rfl, hu⟩
    have h2 := Nat.two_pow_pos k
    exact ⟨parseB_dec (by omega) (by omega), decDigits_digL u⟩
/-- with a sign -/
theorem minus_iff {k : Nat} (hk : k = 32 ∨ k = 64) (r : List UInt8) (n : Int) : (Lib.parseIntB k (45 :: r) = .ok n ∧ Lib.itoa n = 45 :: r) ↔ ∃ u : Nat, readNL 10 (2 ^ (k - 1)) r = some u ∧ 1 ≤ u ∧ n = -(u : Int) := by
  have hp : 16 ≤ 2 ^ (k - 1) := by rcases hk with rfl | rfl <;> simp
  have hlt : 2 ^ (k - 1) < 2 ^ k := Nat.pow_lt_pow_right (by omega) (by omega)
  constructor
  · rintro ⟨h1, h2⟩
    rw [Lib.parseIntB_minus] at h1
    rcases h : Lib.parseUintB k r with u | _ | _
    rotate_left
    · rw [h] at h1; cases h1
    · rw [h] at h1; cases h1
    · rw [h] at h1
      simp only [Lib.signedC] at h1
      split at h1
      · cases h1
      · rename_i hle
        injection h1 with h1
        subst h1
        unfold Lib.itoa at h2
        split at h2
        · rename_i hneg
          rw [Int.natAbs_neg, Int.natAbs_natCast] at h2
          injection h2 with _ h2
          refine ⟨u, (readNL_iff (by omega) (by omega) hp r u).2 ⟨by rw [← h2, decDigits_digL], by omega⟩, by omega, rfl⟩
        · rename_i hneg
          exfalso
          obtain ⟨c, r', e, hc⟩ := digL_head_any (b := 10) (by omega) (by omega) (-(u : Int)).toNat
          rw [decDigits_digL, e] at h2
          injection h2 with h2 _
          subst h2
          revert hc
          decide
  · rintro ⟨u, h1, h2, rfl⟩
    obtain ⟨rfl, hu⟩ := (readNL_iff (by omega) (by omega) hp r u).1 h1
    refine ⟨?_, ?_⟩
    · rw [Lib.parseIntB_minus, parseB_dec (by omega) (by omega)]
      simp only [Lib.signedC]
      rw [if_neg (by omega)]
    · unfold Lib.itoa
      rw [if_pos (by omega), Int.natAbs_neg, Int.natAbs_natCast, decDigits_digL]
end Go.Proofs.YtpanlhbdphobdaaGreatDoor

namespace Go.Proofs.YtpanlhbdphobdaaGreatDoor
open Go.RowKit Go.Sort
set_option linter.unusedVariables false

abbrev Tab (w : World) : Prop := Lib.TabIs Tryz.prog w "internal/strconv.uint64pow10" .u64 Lib.pow10Tab
def dB64 : List Int := [0, 1, 56, 2, 57, 49, 28, 3, 61, 58, 42, 50, 38, 29, 17, 4, 62, 47, 59, 36, 45, 43, 51, 22, 53, 39, 33, 30, 24, 18, 12, 5, 63, 55, 48, 27, 60, 41, 37, 16, 46, 35, 44, 21, 52, 32, 23, 11, 54, 26, 40, 15, 34, 20, 31, 10, 25, 14, 19, 9, 13, 8, 7, 6]
abbrev Tab2 (w : World) : Prop := Lib.TabIs Tryz.prog w "math/bits.deBruijn64tab" .u8 dB64
/-- what the variables hold that this code reads -/
structure LaidC (w : World) : Prop where
  p10 : Tab w
  db : Tab2 w
  syn : ∃ tp p, w.cell? ⟨1, 0, none⟩ = some (.iface tp p)
  rng : ∃ tp p, w.cell? ⟨2, 0, none⟩ = some (.iface tp p)

theorem tab_below_any {P : Program} {name : String} {k : IntKind} {zs : List Int} {w w' : World} (h : Lib.TabIs P w name k zs) (hb : Below w.heap.size w w') : Lib.TabIs P w' name k zs := by
  unfold Lib.TabIs World.var? at *
  revert h
  cases hg : P.globalNamed name with
  | none => intro h; simp at h
  | some g =>
    intro h
    simp only [Option.bind_some] at h ⊢
    have hlt : g < w.heap.size := by
      apply Decidable.byContradiction
      intro hn
      rw [Array.getElem?_eq_none (by omega)] at h
      simp at h
    rw [hb.block g hlt]
    exact h
theorem tab_below {w w' : World} (h : Tab w) (hb : Below w.heap.size w w') : Tab w' := tab_below_any h hb
theorem LaidC.below {w w' : World} (h : LaidC w) (hb : Below w.heap.size w w') : LaidC w' := by
  refine ⟨tab_below_any h.p10 hb, tab_below_any h.db hb, ?_, ?_⟩
  · obtain ⟨tp, p, e⟩ := h.syn
    exact ⟨tp, p, (hb.cell (World.block_lt_of_cell? w _ e)).trans e⟩
  · obtain ⟨tp, p, e⟩ := h.rng
    exact ⟨tp, p, (hb.cell (World.block_lt_of_cell? w _ e)).trans e⟩

/-- a string that a call answers, new blocks aside -/
def SaysP (w : World) (l : List UInt8) (e : Ending) (w' : World) : Prop := e = .returned (.string ⟨l.toArray⟩) ∧ Below w.heap.size w w'

set_option maxHeartbeats 1600000 in
set_option maxRecDepth 100000 in
theorem formatUint10_small (u : Nat) (w : World) (hu : u < 100) : Calls Tryz.prog 125 #[.int .u64 u, .int .i64 10] w (SaysP w (Lib.decDigits u)) := by
  have H := hide (Tryz.internal_strconv_small u hu w)
  go_enter Tryz.func125, Tryz.ntmps125
  go_wp2_with fail
  refine H.out.mono ?_; rintro e w' ⟨rfl, rfl⟩
  go_wp2_with fail
  go_ret
  exact ⟨rfl, Below.refl _ _⟩

set_option maxHeartbeats 6400000 in
set_option maxRecDepth 100000 in
theorem formatUint10_big (u : Nat) (w : World) (hu : 100 ≤ u) (hu64 : u < 18446744073709551616) (ht : Hid (Tab w)) : Calls Tryz.prog 125 #[.int .u64 u, .int .i64 10] w (SaysP w (Lib.decDigits u)) := by
  have hu1 : 1 ≤ u := by omega
  have hnd20 : Lib.nDigits u ≤ 20 := by have := Lib.numDigits_eq u hu1 hu64; split at this <;> omega
  have hal : Tryz.prog.arrayLen 218 = 24 := by kernel_rfl
  have hun : Tryz.prog.underlying 218 = some (.array (Tryz.prog.arrayLen 218) (Tryz.prog.elem 218)) := by rw [Tryz.underlying218]; kernel_rfl
  have hsl : ∀ W, (Instr.sliceAt 218 (.pointer (some ⟨w.heap.size, 0, none⟩)) none (some (.int .i64 (Lib.nDigits u : Int))) none).run Tryz.prog W = .ok (.slice (some ⟨w.heap.size, 0, none⟩) (Lib.nDigits u) 24) W := fun W => by
    rw [run_sliceAt_array_h W 218 ⟨w.heap.size, 0, none⟩ hun .i64 (Lib.nDigits u : Int) (by omega) (by rw [hal]; omega)]
    clear hun hal
    go_simp
  have hH0 := Lib.holds_zero0 w 218 (Lib.nDigits u) (by omega)
  have hfmt := Tryz.internal_strconv_formatBase10 w.heap.size 0 24 u (Array.replicate (Lib.nDigits u) 0) (w.alloc (.cells Lib.zeros24 218)) hH0 (by rw [Array.size_replicate]; exact Lib.lt_pow_nDigits u) hu64 (by rw [Array.size_replicate]; omega)
  rw [Array.size_replicate] at hfmt
  have HF := hide hfmt
  have HN := hide (Tryz.internal_strconv_numDigits u hu1 hu64 (w.alloc (.cells Lib.zeros24 218)) (Lib.tabIs_alloc ht.out _))
  have HH0 := hide hH0
  have iu : (100 : Int) ≤ (u : Int) := by omega
  clear hH0 hal hun hfmt
  go_enter Tryz.func125, Tryz.ntmps125
  go_wp2_with fail
  refine HN.out.mono ?_; rintro e w' ⟨rfl, rfl⟩
  go_wp2_with fail
  refine HF.out.mono ?_
  rintro e w' ⟨rfl, k, v', dk, rfl, hF⟩
  have hread : Reads ((putRow (fun (b : UInt8) => Value.int .u8 (b.toNat : Int)) (w.alloc (.cells Lib.zeros24 218)) w.heap.size 0 dk).drewN k) (w.heap.size + 1) 1 (some ⟨w.heap.size, 0, none⟩) (Lib.nDigits u) ((Lib.decDigits u).map B) := by
    refine ⟨by rw [List.length_map, Lib.decDigits_length]; omega, fun _ => ⟨_, rfl, by simp, fun j u' hj => ?_⟩⟩
    have hjl : j < (Lib.decDigits u).length := by
      have h5 := (List.getElem?_eq_some_iff.1 hj).1
      rwa [List.length_map] at h5
    rw [List.getElem?_map, List.getElem?_eq_getElem hjl] at hj
    simp only [Option.map_some, Option.some.injEq] at hj
    subst hj
    rw [Lib.row_is_numeral hF j hjl, Lib.add_plain, World.cell?_drewN]
    exact cell?_putRow (fun (b : UInt8) => Value.int .u8 (b.toNat : Int)) _ w.heap.size 0 _ dk HH0.out (by rw [hF.size, Array.size_replicate]) j (by rw [hF.size]; rw [Lib.decDigits_length] at hjl; exact hjl)
  obtain ⟨os, eo⟩ := Lib.fin_at w (.cells Lib.zeros24 218) dk k 0
  have hnx2 : Below w.heap.size w ((putRow (fun (b : UInt8) => Value.int .u8 (b.toNat : Int)) (w.alloc (.cells Lib.zeros24 218)) w.heap.size 0 dk).drewN k) := by rw [eo]; exact Lib.below_grow w.heap.size w (Nat.le_refl _) k os
  generalize (putRow (fun (b : UInt8) => Value.int .u8 (b.toNat : Int)) (w.alloc (.cells Lib.zeros24 218)) w.heap.size 0 dk).drewN k = W2 at hread hnx2 ⊢
  clear eo HH0 HF HN
  have hread' : Reads W2 (w.heap.size + 1) 1 (some ⟨w.heap.size, 0, none⟩) (Lib.decDigits u).length ((Lib.decDigits u).map B) := by rw [Lib.decDigits_length]; exact hread
  have hcv := run_string_reads (P := Tryz.prog) 39 9 5 24 Tryz.underlying39 Tryz.underlying5 Tryz.underlying9 hread'
  rw [Lib.decDigits_length] at hcv
  have HNX := hide hnx2
  clear hread hread' hnx2
  go_wp2_with fail
  go_ret
  exact ⟨rfl, HNX.out⟩

theorem formatUint10 (u : Nat) (w : World) (hu64 : u < 18446744073709551616) (ht : Hid (Tab w)) : Calls Tryz.prog 125 #[.int .u64 u, .int .i64 10] w (SaysP w (Lib.decDigits u)) := by
  by_cases h : u < 100
  · exact formatUint10_small u w h
  · exact formatUint10_big u w (by omega) hu64 ht
end Go.Proofs.YtpanlhbdphobdaaGreatDoor
