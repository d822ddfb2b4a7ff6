/-
  conv: Parse, Print, Hex: contracts.
  host: rules as texts: the plain law.
  host: a rule's text, and back: the plain law.
  types.Bits: contract.
  types: what functions take and give: contracts.
-/
import Derived.Test.YtpanlhbdphobdaaGreatDoorFaBF
import Derived.Test.YtpanlhbdphobdaaGreatDoorFaBC
import Derived.Lib.SplitLaws
import Derived.Lib.SlicesS
import Derived.Lib.Join
import Derived.Test.YtpanlhbdphobdaaGreatDoorRows
import Derived.Test.YtpanlhbdphobdaaGreatDoorDeAC
import Derived.Outline
import Derived.Test.YtpanlhbdphobdaaGreatDoorDeAL
import Derived.Maps.RangeWalk
import Derived.Deep.DeepCutAuto
import Derived.IntWalk
namespace Go.Proofs.YtpanlhbdphobdaaGreatDoor
open Go.RowKit
set_option linter.unusedVariables false

theorem tens_any (k : Nat) (hk : k = 32 ∨ k = 64) (bs : List UInt8) (w : World) (hl : bs.length ≤ 900) (ht : Hid (LaidC w)) :
    Calls Tryz.prog 109 #[.int .i64 k, .string ⟨bs.toArray⟩] w (Told (tensF k bs) w) := by
  by_cases h : ∃ r, bs = (45 : UInt8) :: r
  · obtain ⟨r, rfl⟩ := h
    exact tens_minus k hk r w (by simp at hl; omega) ht
  · exact tens_plus k hk bs w (by omega) (fun r hr => h ⟨r, hr⟩) ht

theorem digL_len_le {b : Nat} (hb : 2 ≤ b) (hb16 : b ≤ 16) : ∀ (L m : Nat), 1 ≤ L → m < b ^ L → (digL b m).length ≤ L := by
  intro L m
  induction m using Nat.strongRecOn generalizing L with
  | _ m ih =>
    intro hL hm
    by_cases h : m < b
    · rw [digL_small h]; simpa using hL
    · rw [digL_big hb (by omega), List.length_append, List.length_singleton]
      obtain ⟨L, rfl⟩ : ∃ K, L = K + 1 := ⟨L - 1, by omega⟩
      have hL1 : 1 ≤ L := by
        rcases Nat.eq_zero_or_pos L with h0 | h0
        · subst h0; rw [Nat.zero_add, Nat.pow_one] at hm; omega
        · exact h0
      have := ih (m / b) (Nat.div_lt_self (by omega) (by omega)) L hL1 ((Nat.div_lt_iff_lt_mul (by omega)).2 (by rw [Nat.pow_succ] at hm; exact hm))
      omega
theorem digL16_len (a : Nat) (ha : a ≤ 18446744073709551615) : (digL 16 a).length ≤ 16 := digL_len_le (by omega) (by omega) 16 a (by omega) (by simp; omega)
theorem digL10_len (a : Nat) (ha : a ≤ 18446744073709551615) : (digL 10 a).length ≤ 20 := digL_len_le (by omega) (by omega) 20 a (by omega) (by simp; omega)
def mostK (k : Nat) : Nat := 2 ^ k - 1
set_option maxHeartbeats 400000 in
theorem high_any (k : Nat) (hk : k = 32 ∨ k = 64) (w : World) :
    Calls Tryz.prog 112 #[.int .i64 k] w fun e w' => e = .returned (.int .u64 (mostK k : Nat)) ∧ w = w' := by
  rcases hk with rfl | rfl
  all_goals
    go_enter Tryz.func112, Tryz.ntmps112
    go_wp2_with fail
    go_ret
    exact ⟨rfl, rfl⟩

def parseR (ok : Bool) (v M : Nat) : Option Nat := if ok = true ∧ v ≤ M then some v else none
theorem parseR_yes {v M : Nat} (h : v ≤ M) : parseR true v M = some v := if_pos ⟨rfl, h⟩
theorem parseR_no {v M : Nat} (h : ¬ v ≤ M) : parseR true v M = none := if_neg fun h' => h h'.2
theorem parseR_false {v M : Nat} : parseR false v M = none := if_neg (by simp)
theorem parse_law {k : Nat} (hk : k = 32 ∨ k = 64) {bs : List UInt8} (hp : Lib.hasPrefix bs [48, 120] = true) (v : Nat) (ok : Bool) (h1 : ok = true → readNL 16 18446744073709551615 (bs.drop 2) = some v) (h2 : ok = false → readNL 16 18446744073709551615 (bs.drop 2) = none) :
    parseF k bs = parseR ok v (mostK k) := by
  unfold parseR
  have hm : 16 ≤ 2 ^ k - 1 := by rcases hk with rfl | rfl <;> simp
  have hm2 : 2 ^ k - 1 ≤ 18446744073709551615 := by rcases hk with rfl | rfl <;> simp
  unfold parseF mostK
  rw [if_pos hp]
  cases ok with
  | false =>
    rw [if_neg (by simp)]
    have h := h2 rfl
    cases hr : readNL 16 (2 ^ k - 1) (bs.drop 2) with
    | none => rfl
    | some m =>
      obtain ⟨e1, e2⟩ := (readNL_iff (by omega) (by omega) hm _ m).1 hr
      have := (readNL_iff (b := 16) (most := 18446744073709551615) (by omega) (by omega) (by omega) (bs.drop 2) m).2 ⟨e1, by omega⟩
      rw [h] at this
      cases this
  | true =>
    have h := (readNL_iff (b := 16) (most := 18446744073709551615) (by omega) (by omega) (by omega) (bs.drop 2) v).1 (h1 rfl)
    by_cases hv : v ≤ 2 ^ k - 1
    · rw [if_pos ⟨rfl, hv⟩]
      exact (readNL_iff (by omega) (by omega) hm _ v).2 ⟨h.1, hv⟩
    · rw [if_neg (fun h' => hv h'.2)]
      cases hr : readNL 16 (2 ^ k - 1) (bs.drop 2) with
      | none => rfl
      | some m =>
        obtain ⟨e1, e2⟩ := (readNL_iff (by omega) (by omega) hm _ m).1 hr
        have := digL_inj (by omega) (by omega) (h.1.symm.trans e1)
        omega
theorem tensF_le {k : Nat} (hk : k = 32 ∨ k = 64) {bs : List UInt8} {v : Nat} (h : tensF k bs = some v) : v ≤ mostK k := by
  unfold mostK
  have hm : 16 ≤ 2 ^ k - 1 := by rcases hk with rfl | rfl <;> simp
  have hm2 : 16 ≤ 2 ^ (k - 1) := by rcases hk with rfl | rfl <;> simp
  cases bs with
  | nil => simp [tensF] at h
  | cons c r =>
    simp only [tensF] at h
    split at h
    · cases hr : readNL 10 (2 ^ (k - 1)) r with
      | none => rw [hr] at h; simp at h
      | some u =>
        rw [hr] at h
        simp only [Option.bind_some] at h
        split at h
        · injection h with h; omega
        · cases h
    · exact ((readNL_iff (by omega) (by omega) hm _ v).1 h).2
theorem parse_law2 {k : Nat} (hk : k = 32 ∨ k = 64) {bs : List UInt8} (hp : Lib.hasPrefix bs [48, 120] = false) (v : Nat) (ok : Bool) (h1 : ok = true → tensF k bs = some v) (h2 : ok = false → tensF k bs = none) :
    parseF k bs = parseR ok v (mostK k) := by
  unfold parseR
  unfold parseF
  rw [hp, if_neg (by simp)]
  cases ok with
  | false => rw [h2 rfl, if_neg (by simp)]
  | true =>
    have h := h1 rfl
    rw [if_pos ⟨rfl, tensF_le hk h⟩, h]

/-- what Parse answers -/
def ParseP (f : Option Nat) (w : World) (e : Ending) (w' : World) : Prop :=
  e = .returned (.tuple #[.int .u64 (f.getD 0 : Nat), .int .i64 (match f with | some _ => 0 | none => 4)]) ∧ Below w.heap.size w w'

set_option maxHeartbeats 1600000 in
theorem parse_any (k : Nat) (hk : k = 32 ∨ k = 64) (bs : List UInt8) (w : World) (hl : bs.length ≤ 900) (ht : Hid (LaidC w)) :
    Calls Tryz.prog 76 #[.int .i64 k, .string ⟨bs.toArray⟩] w (ParseP (parseF k bs) w) := by
  have H := hide (tens_any k hk bs w hl ht)
  have HC := hide (fun W => Tryz.strings_CutPrefix ⟨bs.toArray⟩ ⟨#[48, 120]⟩ W)
  rw [show (⟨bs.toArray⟩ : ByteArray).data.toList = bs from rfl, show (⟨#[48, 120]⟩ : ByteArray).data.toList = [48, 120] from rfl] at HC
  have HH := hide (fun W => high_any k hk W)
  have HK := hide hk
  have hmk : Hid (mostK k ≤ 18446744073709551615) := by show mostK k ≤ _; unfold mostK; rcases hk with rfl | rfl <;> simp
  obtain ⟨M, hM⟩ : ∃ M, mostK k = M := ⟨_, rfl⟩
  rw [hM] at HH hmk
  have HM := hide hM
  clear hM
  obtain ⟨g, hg⟩ : ∃ g, Lib.hasPrefix bs [48, 120] = g := ⟨_, rfl⟩
  have htr : Lib.trimPrefix bs [48, 120] = if g then bs.drop 2 else bs := by unfold Lib.trimPrefix; rw [hg]; rfl
  rw [hg, htr] at HC
  have HD := hide (fun W h => digits_any (bs.drop 2) W (by simp; omega) h)
  clear htr
  cases g with
  | true =>
    have HLW : Hid (∀ (v : Nat) (ok : Bool), (ok = true → readNL 16 18446744073709551615 (bs.drop 2) = some v) → (ok = false → readNL 16 18446744073709551615 (bs.drop 2) = none) → parseF k bs = parseR ok v M) := fun v ok h1 h2 => by
      rw [← HM.out]; exact parse_law hk hg v ok h1 h2
    clear hg
    rcases hk with rfl | rfl
    all_goals
      go_enter Tryz.func76, Tryz.ntmps76
      go_wp2_with fail
      refine H.out.mono ?_; rintro e w1 ⟨v, ok, rfl, hv, h1, h2, hb⟩
      have HB := hide hb
      have HL := hide (ht.out.below hb)
      clear hv hb h1 h2
      go_wp2_with fail
      refine (HC.out w1).mono ?_; rintro e w' ⟨rfl, rfl⟩
      go_wp2_with fail
      refine (HD.out _ HL).mono ?_; rintro e w2 ⟨v2, ok2, rfl, hv2, h12, h22, hb2⟩
      have hlaw := HLW.out v2 ok2 h12 h22
      have HLAW := hide hlaw
      have HB2 := hide (HB.out.trans (hb2.mono HB.out.size))
      have HMK := hmk.out
      clear hlaw h12 h22 hb2 HLW
      cases ok2 with
      | true =>
        by_cases hle : v2 ≤ M
        · have HLA := hide (HLAW.out.trans (parseR_yes hle))
          clear HLAW
          go_wp2_with fail
          refine (HH.out _).mono ?_; rintro e w' ⟨rfl, rfl⟩
          go_wp2_with fail
          go_ret2
          exact ⟨by rw [HLA.out]; rfl, HB2.out⟩
        · have HLA := hide (HLAW.out.trans (parseR_no hle))
          clear HLAW
          go_wp2_with fail
          refine (HH.out _).mono ?_; rintro e w' ⟨rfl, rfl⟩
          go_wp2_with fail
          go_ret2
          exact ⟨by rw [HLA.out]; rfl, HB2.out⟩
      | false =>
        have HLA := hide (HLAW.out.trans parseR_false)
        clear HLAW
        go_wp2_with fail
        go_ret2
        exact ⟨by rw [HLA.out]; rfl, HB2.out⟩
  | false =>
    have HLW : Hid (∀ (v : Nat) (ok : Bool), (ok = true → tensF k bs = some v) → (ok = false → tensF k bs = none) → parseF k bs = parseR ok v M) := fun v ok h1 h2 => by
      rw [← HM.out]; exact parse_law2 hk hg v ok h1 h2
    clear hg
    rcases hk with rfl | rfl
    all_goals
      go_enter Tryz.func76, Tryz.ntmps76
      go_wp2_with fail
      refine H.out.mono ?_; rintro e w1 ⟨v, ok, rfl, hv, h1, h2, hb⟩
      have HB := hide hb
      have HLAW := hide (HLW.out v ok h1 h2)
      have HMK := hmk.out
      clear hb h1 h2 HLW
      go_wp2_with fail
      refine (HC.out w1).mono ?_; rintro e w' ⟨rfl, rfl⟩
      cases ok with
      | true =>
        by_cases hle : v ≤ M
        · have HLA := hide (HLAW.out.trans (parseR_yes hle))
          clear HLAW
          go_wp2_with fail
          refine (HH.out _).mono ?_; rintro e w' ⟨rfl, rfl⟩
          go_wp2_with fail
          go_ret2
          exact ⟨by rw [HLA.out]; rfl, HB.out⟩
        · have HLA := hide (HLAW.out.trans (parseR_no hle))
          clear HLAW
          go_wp2_with fail
          refine (HH.out _).mono ?_; rintro e w' ⟨rfl, rfl⟩
          go_wp2_with fail
          go_ret2
          exact ⟨by rw [HLA.out]; rfl, HB.out⟩
      | false =>
        have HLA := hide (HLAW.out.trans parseR_false)
        clear HLAW
        go_wp2_with fail
        go_ret2
        exact ⟨by rw [HLA.out]; rfl, HB.out⟩

set_option maxHeartbeats 800000 in
theorem parse_arg (b : Int) (s : ByteArray) (w : World) (h1 : b ≠ 32) (h2 : b ≠ 64) :
    Calls Tryz.prog 76 #[.int .i64 b, .string s] w fun e w' => e = .returned (.tuple #[.int .u64 0, .int .i64 1]) ∧ w = w' := by
  have e1 : (b != 32) = true := by simp; omega
  have e2 : (b != 64) = true := by simp; omega
  clear h1 h2
  go_enter Tryz.func76, Tryz.ntmps76
  go_wp2_with fail
  go_ret2
  exact ⟨rfl, rfl⟩

/-- a word as a number with a sign -/
def signV (b : Int) (a : Nat) : Int := if b = 32 then wrap32 a else wrap64 a
set_option maxHeartbeats 400000 in
theorem sign_any (b : Int) (a : Nat) (w : World) (ha : a ≤ 18446744073709551615) : Calls Tryz.prog 100 #[.int .i64 b, .int .u64 a] w fun e w' => e = .returned (.int .i64 (signV b a)) ∧ w = w' := by
  unfold signV
  by_cases h : b = 32
  · subst h
    rw [if_pos rfl]
    go_enter Tryz.func100, Tryz.ntmps100
    go_wp2_with fail
    go_ret
    exact ⟨ret_int (by unfold wrap64 wrap32; omega), rfl⟩
  · rw [if_neg h]
    have e1 : (b == 32) = false := by simp; omega
    clear h
    go_enter Tryz.func100, Tryz.ntmps100
    go_wp2_with fail
    go_ret
    exact ⟨rfl, rfl⟩
theorem signV_bd (b : Int) (a : Nat) : -9223372036854775808 ≤ signV b a ∧ signV b a ≤ 9223372036854775807 := by
  unfold signV wrap32 wrap64
  split <;> omega
set_option maxHeartbeats 800000 in
theorem convPrint_any (b : Int) (a : Nat) (w : World) (ha : a ≤ 18446744073709551615) (ht : Hid (LaidC w)) :
    Calls Tryz.prog 70 #[.int .i64 b, .int .u64 a] w (SaysP w (Lib.itoa (signV b a))) := by
  have H := hide (fmtI10 (signV b a) w (signV_bd b a).1 (signV_bd b a).2 ht)
  have HS := hide (sign_any b a w ha)
  generalize signV b a = x at H HS ⊢
  go_enter Tryz.func70, Tryz.ntmps70
  go_wp2_with fail
  refine HS.out.mono ?_; rintro e w' ⟨rfl, rfl⟩
  go_wp2_with fail
  refine H.out.mono ?_; rintro e w' ⟨rfl, hb⟩
  have HB := hide hb; clear hb
  go_wp2_with fail
  go_ret
  exact ⟨rfl, HB.out⟩
end Go.Proofs.YtpanlhbdphobdaaGreatDoor

namespace Go.Proofs.YtpanlhbdphobdaaGreatDoor
set_option linter.unusedVariables false

/-- may a text be a rule's name? -/
def namedL (s : List UInt8) : Bool := s.all (fun c => decide (33 ≤ c.toNat) && decide (c.toNat ≤ 126)) && decide (0 < s.length) && decide (s.length ≤ 30)
/-- a rule: its module, its name, its way, its word -/
structure HR where
  m : List UInt8
  n : List UInt8
  way : Int
  word : Nat
def rightH (r : HR) : Bool := namedL r.m && namedL r.n && decide (0 ≤ r.way) && decide (r.way ≤ 4) && (decide (r.way ≠ 0) || decide (r.word = 0))
def wayL (k : Int) : List UInt8 := if k = 0 then [110, 111, 110, 101] else if k = 1 then [99, 111, 110, 115, 116] else if k = 2 then [115, 117, 109] else if k = 3 then [99, 111, 117, 110, 116] else [108, 97, 115, 116]
/-- does a rule fit an import? -/
def fitsH (r : HR) (m n : List UInt8) : Bool := (decide (r.m = [42]) || decide (r.m = m)) && (decide (r.n = [42]) || decide (r.n = n))
/-- the first rule that fits, from place i on -/
def findH : List HR → List UInt8 → List UInt8 → Nat → Option Nat
  | [], _, _, _ => none
  | r :: l, m, n, i => if fitsH r m n then some i else findH l m n (i + 1)
/-- what a rule gives, asked so often, given these -/
def resultH (r : HR) (k : Nat) (given : List Nat) : Nat :=
  if r.way = 2 then given.foldl (fun v g => (v + g) % 18446744073709551616) r.word
  else if r.way = 3 then (r.word + k) % 18446744073709551616
  else if r.way = 4 then given.getLast?.getD r.word
  else r.word
theorem named_space {s : List UInt8} (h : namedL s = true) : (32 : UInt8) ∉ s := by
  intro hm
  unfold namedL at h
  simp only [Bool.and_eq_true, List.all_eq_true, decide_eq_true_eq] at h
  have := (h.1.1 32 hm).1
  simp at this
end Go.Proofs.YtpanlhbdphobdaaGreatDoor

namespace Go.Proofs.YtpanlhbdphobdaaGreatDoor
open Go.RowKit
set_option linter.unusedVariables false

def S (l : List UInt8) : Value := .string ⟨l.toArray⟩
theorem index_at {c : UInt8} {s' rest : List UInt8} : ∀ x : List UInt8, c ∉ x → Lib.index (x ++ ((c :: s') ++ rest)) (c :: s') = (x.length : Int) := by
  intro x
  induction x with
  | nil =>
    intro _
    simp only [List.nil_append, List.cons_append]
    rw [Lib.index, if_pos]
    · rfl
    · exact List.isPrefixOf_iff_prefix.2 ⟨rest, rfl⟩
  | cons b x ih =>
    intro h
    have hb : ¬ c = b := fun e => h (by simp [e])
    have hx := ih (fun e => h (by simp [e]))
    rw [List.cons_append, Lib.index, if_neg, hx, if_neg]
    · simp
    · simp <;> omega
    · simp only [List.isPrefixOf, Bool.and_eq_true, beq_iff_eq, not_and]
      exact fun e => absurd e hb
/-- the words of a text -/
def wordsS (s : List UInt8) : List (List UInt8) := Lib.splitK [32] 0 (s.count 32) s
theorem wordsS_one {x : List UInt8} (h : (32 : UInt8) ∉ x) : wordsS x = [x] := by
  unfold wordsS
  rw [List.count_eq_zero.2 h]
  rfl
theorem wordsS_cons {x : List UInt8} (h : (32 : UInt8) ∉ x) (y : List UInt8) : wordsS (x ++ 32 :: y) = x :: wordsS y := by
  unfold wordsS
  have hi := index_at (c := 32) (s' := []) (rest := y) x h
  rw [show x ++ ([32] ++ y) = x ++ 32 :: y from rfl] at hi
  rw [List.count_append, List.count_eq_zero.2 h, List.count_cons_self, Nat.zero_add, Lib.splitK, hi]
  have e : (((x.length : Int)) == -1) = false := by simp
  rw [e]
  simp
theorem words_back (xs : List ByteArray) : xs.map Value.string = (xs.map (·.data.toList)).map S := by
  rw [List.map_map]
  rfl
theorem wordsS_len (s : List UInt8) : (wordsS s).length = s.count 32 + 1 := by
  have h1 := Lib.splitB_all ⟨#[32]⟩ (by decide) 0 _ ⟨s.toArray⟩ rfl
  have h2 := congrArg List.length (Lib.splitB_data ⟨#[32]⟩ 0 (Lib.countB ⟨s.toArray⟩ ⟨#[32]⟩) ⟨s.toArray⟩)
  rw [List.length_map] at h2
  have e : Lib.countB ⟨s.toArray⟩ ⟨#[32]⟩ = s.count 32 := Lib.count_one _ _
  rw [e] at h1 h2
  exact h2.symm.trans h1
theorem wordsS_all {s : List UInt8} {x : List UInt8} (h : x ∈ wordsS s) : x.length ≤ s.length := by
  have key : ∀ (k : Nat) (t : List UInt8), ∀ y ∈ Lib.splitK [32] 0 k t, y.length ≤ t.length := by
    intro k
    induction k with
    | zero => intro t y hy; simp [Lib.splitK] at hy; subst hy; exact Nat.le_refl _
    | succ k ih =>
      intro t y hy
      rw [Lib.splitK] at hy
      split at hy
      · simp at hy; subst hy; exact Nat.le_refl _
      · simp only [List.mem_cons] at hy
        rcases hy with rfl | hy
        · exact (List.take_sublist _ _).length_le
        · exact Nat.le_trans (ih _ y hy) (List.drop_sublist _ _).length_le
  exact key _ s x h

theorem pre2_iff (bs : List UInt8) : Lib.hasPrefix bs [48, 120] = true ↔ ∃ r, bs = 48 :: 120 :: r := by
  unfold Lib.hasPrefix
  constructor
  · intro h
    obtain ⟨t, ht⟩ := List.isPrefixOf_iff_prefix.1 h
    exact ⟨t, ht.symm⟩
  · rintro ⟨r, rfl⟩
    exact List.isPrefixOf_iff_prefix.2 ⟨r, rfl⟩
theorem parse_digits {k : Nat} (hk : k = 32 ∨ k = 64) (v : Nat) (hv : v ≤ 2 ^ k - 1) : parseF k (digL 10 v) = some v := by
  have hm : 16 ≤ 2 ^ k - 1 := by rcases hk with rfl | rfl <;> simp
  unfold parseF
  rw [if_neg]
  · obtain ⟨c, r, e, hc⟩ := digL_head_any (b := 10) (by omega) (by omega) v
    have hr := (readNL_iff (b := 10) (by omega) (by omega) hm (digL 10 v) v).2 ⟨rfl, hv⟩
    rw [e] at hr ⊢
    simp only [tensF]
    rw [if_neg, hr]
    intro h
    have : c = 45 := UInt8.toNat_inj.1 h
    subst this
    revert hc
    decide
  · intro h
    obtain ⟨r, hr⟩ := (pre2_iff _).1 h
    rcases Nat.eq_zero_or_pos v with h0 | h0
    · subst h0
      rw [digL_small (by omega)] at hr
      injection hr with _ hr
      cases hr
    · obtain ⟨c, r', e, hc⟩ := digL_head (b := 10) (by omega) (by omega) v h0
      rw [e] at hr
      injection hr with hr _
      subst hr
      exact hc rfl
theorem parse_minus {k : Nat} (hk : k = 32 ∨ k = 64) (u : Nat) (h1 : 1 ≤ u) (h2 : u ≤ 2 ^ (k - 1)) : parseF k (45 :: digL 10 u) = some (2 ^ k - u) := by
  have hm : 16 ≤ 2 ^ (k - 1) := by rcases hk with rfl | rfl <;> simp
  unfold parseF
  rw [if_neg]
  · have hr := (readNL_iff (b := 10) (by omega) (by omega) hm (digL 10 u) u).2 ⟨rfl, h2⟩
    simp only [tensF]
    rw [if_pos (show (45 : UInt8).toNat = 45 from rfl), hr]
    simp only [Option.bind_some]
    rw [if_pos h1]
  · intro h
    obtain ⟨r, hr⟩ := (pre2_iff _).1 h
    injection hr with hr _
    revert hr
    decide
theorem itoa_64 (a : Nat) (ha : a ≤ 18446744073709551615) : Lib.itoa (signV 64 a) = if 9223372036854775808 ≤ a then 45 :: digL 10 (18446744073709551616 - a) else digL 10 a := by
  have e : signV 64 a = if 9223372036854775808 ≤ a then -((18446744073709551616 - a : Nat) : Int) else (a : Int) := by
    unfold signV
    rw [if_neg (by omega)]
    unfold wrap64
    split
    · omega
    · omega
  rw [e]
  split
  · rw [Lib.itoa_neg _ (by omega), decDigits_digL]
  · rw [Lib.itoa_nonneg, decDigits_digL]
theorem parse_itoa (a : Nat) (ha : a ≤ 18446744073709551615) : parseF 64 (Lib.itoa (signV 64 a)) = some a := by
  rw [itoa_64 a ha]
  split
  · rw [parse_minus (.inr rfl) _ (by omega) (by simp only [Nat.reducePow, Nat.reduceSub]; omega)]
    exact congrArg some (by simp only [Nat.reducePow]; omega)
  · exact parse_digits (.inr rfl) a (by simp only [Nat.reducePow, Nat.reduceSub]; omega)
theorem digL_no (c : UInt8) (hc : c.toNat < 48 ∨ 57 < c.toNat) : ∀ n : Nat, c ∉ digL 10 n := by
  intro n
  induction n using Nat.strongRecOn with
  | _ n ih =>
    have hd : ∀ d, d < 10 → c ≠ digC d := fun d h e => by
      have := digC_to d (by omega)
      rw [← e, if_pos h] at this
      omega
    by_cases h : n < 10
    · rw [digL_small h]
      simpa using hd n h
    · rw [digL_big (by omega) (by omega)]
      simp only [List.mem_append, List.mem_singleton, not_or]
      exact ⟨ih _ (by omega), hd _ (by omega)⟩
theorem itoa_space (a : Nat) (ha : a ≤ 18446744073709551615) : (32 : UInt8) ∉ Lib.itoa (signV 64 a) := by
  rw [itoa_64 a ha]
  split
  · simp only [List.mem_cons, not_or]
    exact ⟨by decide, digL_no 32 (by decide) _⟩
  · exact digL_no 32 (by decide) _
theorem itoa64_len (a : Nat) (ha : a ≤ 18446744073709551615) : (Lib.itoa (signV 64 a)).length ≤ 21 := by
  rw [itoa_64 a ha]
  split
  · have := digL10_len (18446744073709551616 - a) (by omega)
    simp only [List.length_cons]
    omega
  · have := digL10_len a ha
    omega

/-- a rule's parts -/
def partsH (r : HR) : List (List UInt8) := r.m :: r.n :: wayL r.way :: (if r.way = 0 then [] else [Lib.itoa (signV 64 r.word)])
/-- a rule's text -/
def printH (r : HR) : List UInt8 := if rightH r then Lib.join (partsH r) [32] else []
def namesL : List (List UInt8) := [[110, 111, 110, 101], [99, 111, 110, 115, 116], [115, 117, 109], [99, 111, 117, 110, 116], [108, 97, 115, 116]]
/-- the way of a name -/
def wayOf (x : List UInt8) : Int := max (Lib.idxOfS (namesL.map fun l => (⟨l.toArray⟩ : ByteArray)) ⟨x.toArray⟩) 0
def wordsP (s : List UInt8) : List (List UInt8) := wordsS s ++ [[], [], []]
/-- the rule that a text's words tell -/
def parseH (s : List UInt8) : HR := ⟨(wordsP s).getD 0 [], (wordsP s).getD 1 [], wayOf ((wordsP s).getD 2 []), (parseF 64 ((wordsP s).getD 3 [])).getD 0⟩
theorem wordsP_len (s : List UInt8) : 4 ≤ (wordsP s).length := by
  unfold wordsP
  rw [List.length_append, wordsS_len]
  simp
theorem wordsP_all {s x : List UInt8} (h : x ∈ wordsP s) : x.length ≤ s.length := by
  unfold wordsP at h
  rw [List.mem_append] at h
  rcases h with h | h
  · exact wordsS_all h
  · simp at h
    subst h
    exact Nat.zero_le _
theorem wayL_space (k : Int) : (32 : UInt8) ∉ wayL k := by
  unfold wayL
  repeat (split; decide)
  decide
theorem wayOf_wayL (k : Int) (h0 : 0 ≤ k) (h4 : k ≤ 4) : wayOf (wayL k) = k := by
  have h : k = 0 ∨ k = 1 ∨ k = 2 ∨ k = 3 ∨ k = 4 := by omega
  rcases h with rfl | rfl | rfl | rfl | rfl <;> decide
theorem right_iff {r : HR} (h : rightH r = true) : namedL r.m = true ∧ namedL r.n = true ∧ 0 ≤ r.way ∧ r.way ≤ 4 ∧ (r.way = 0 → r.word = 0) := by
  unfold rightH at h
  simp only [Bool.and_eq_true, Bool.or_eq_true, decide_eq_true_eq] at h
  obtain ⟨⟨⟨⟨h1, h2⟩, h3⟩, h4⟩, h5⟩ := h
  exact ⟨h1, h2, h3, h4, fun h => h5.resolve_left (by simp [h])⟩
theorem join2 (x y : List UInt8) (l : List (List UInt8)) : Lib.join (x :: y :: l) [32] = x ++ 32 :: Lib.join (y :: l) [32] := by
  rw [Lib.join_cons, Lib.join_cons]
  simp [Lib.joinTail]
theorem printH_words {r : HR} (h : rightH r = true) (hw : r.word ≤ 18446744073709551615) : wordsS (printH r) = partsH r := by
  obtain ⟨h1, h2, h3, h4, h5⟩ := right_iff h
  unfold printH partsH
  rw [if_pos h, join2, wordsS_cons (named_space h1), join2, wordsS_cons (named_space h2)]
  split
  · rw [Lib.join_one, wordsS_one (wayL_space _)]
  · rw [join2, wordsS_cons (wayL_space _), Lib.join_one, wordsS_one (itoa_space _ hw)]
theorem parse_print {r : HR} (h : rightH r = true) (hw : r.word ≤ 18446744073709551615) : parseH (printH r) = r := by
  obtain ⟨h1, h2, h3, h4, h5⟩ := right_iff h
  unfold parseH wordsP
  rw [printH_words h hw]
  unfold partsH
  obtain ⟨m, n, way, word⟩ := r
  simp only at *
  by_cases hz : way = 0
  · rw [if_pos hz]
    have : parseF 64 [] = none := by
      unfold parseF
      rw [if_neg]
      · rfl
      · intro h
        obtain ⟨r, hr⟩ := (pre2_iff _).1 h
        cases hr
    simp only [List.cons_append, List.nil_append, List.getD_cons_zero, List.getD_cons_succ]
    rw [this, wayOf_wayL way h3 h4, h5 hz]
    rfl
  · rw [if_neg hz]
    simp only [List.cons_append, List.nil_append, List.getD_cons_zero, List.getD_cons_succ]
    rw [parse_itoa word hw, wayOf_wayL way h3 h4]
    rfl
theorem named_len {s : List UInt8} (h : namedL s = true) : 0 < s.length ∧ s.length ≤ 30 := by
  unfold namedL at h
  simp only [Bool.and_eq_true, decide_eq_true_eq] at h
  exact ⟨h.1.2, h.2⟩
theorem wayL_len (k : Int) : (wayL k).length ≤ 5 := by
  unfold wayL
  repeat (split; decide)
  decide
theorem printH_ne {r : HR} (h : rightH r = true) : printH r ≠ [] := by
  obtain ⟨h1, _⟩ := right_iff h
  have := named_len h1
  unfold printH partsH
  rw [if_pos h, join2]
  intro e
  have := congrArg List.length e
  simp at this
theorem join_len3 (m n y t : List UInt8) (k1 : m.length ≤ 30) (k2 : n.length ≤ 30) (k3 : y.length ≤ 5) (k4 : t.length ≤ 21) (q : Prop) [Decidable q] : (Lib.join (m :: n :: y :: (if q then [] else [t])) [32]).length ≤ 100 := by
  rw [join2, join2]
  split
  · rw [Lib.join_one]
    simp only [List.length_append, List.length_cons]
    omega
  · rw [join2, Lib.join_one]
    simp only [List.length_append, List.length_cons]
    omega
theorem printH_len (r : HR) (hw : r.word ≤ 18446744073709551615) : (printH r).length ≤ 100 := by
  by_cases h : rightH r = true
  · obtain ⟨h1, h2, _⟩ := right_iff h
    unfold printH partsH
    rw [if_pos h]
    exact join_len3 _ _ _ _ (named_len h1).2 (named_len h2).2 (wayL_len r.way) (itoa64_len r.word hw) _
  · unfold printH
    rw [if_neg h]
    simp
/-- is a text a rule's? -/
def okH (s : List UInt8) : Bool := printH (parseH s) == s && decide (s ≠ [])
theorem okH_right {s : List UInt8} (h : okH s = true) : rightH (parseH s) = true ∧ printH (parseH s) = s := by
  unfold okH at h
  simp only [Bool.and_eq_true, beq_iff_eq, decide_eq_true_eq] at h
  refine ⟨?_, h.1⟩
  apply Decidable.byContradiction
  intro hn
  have h1 := h.1
  unfold printH at h1
  rw [if_neg hn] at h1
  exact h.2 h1.symm
theorem okH_print {r : HR} (h : rightH r = true) (hw : r.word ≤ 18446744073709551615) : okH (printH r) = true := by
  unfold okH
  rw [parse_print h hw]
  simp [printH_ne h]
theorem parseF_le {bs : List UInt8} {v : Nat} (h : parseF 64 bs = some v) : v ≤ 18446744073709551615 := by
  unfold parseF at h
  split at h
  · have := (readNL_iff (by omega) (by omega) (by simp) _ _).1 h
    have := this.2
    simp only [Nat.reducePow, Nat.reduceSub] at this
    omega
  · exact tensF_le (.inr rfl) h
theorem parseH_word (s : List UInt8) : (parseH s).word ≤ 18446744073709551615 := by
  show (parseF 64 ((wordsP s).getD 3 [])).getD 0 ≤ _
  cases h : parseF 64 ((wordsP s).getD 3 []) with
  | none => simp
  | some v => exact parseF_le h
end Go.Proofs.YtpanlhbdphobdaaGreatDoor

namespace Go.Proofs.YtpanlhbdphobdaaGreatDoor
open Go.RowKit
set_option linter.unusedVariables false

def bitsV (t : UInt8) : Int := if t.toNat = 127 then 32 else if t.toNat = 126 then 64 else 0
end Go.Proofs.YtpanlhbdphobdaaGreatDoor

namespace Go.Proofs.YtpanlhbdphobdaaGreatDoor
open Go.RowKit
set_option linter.unusedVariables false

def nameL (t : UInt8) : List UInt8 := if t.toNat = 127 then [105, 51, 50] else if t.toNat = 126 then [105, 54, 52] else [63]
def badT (t : UInt8) : Bool := decide (t.toNat ≠ 127) && decide (t.toNat ≠ 126)

set_option maxHeartbeats 400000 in
theorem tname_any (t : UInt8) (w : World) : Calls Tryz.prog 67 #[.int .u8 t.toNat] w fun e w' => e = .returned (.string ⟨(nameL t).toArray⟩) ∧ w = w' := by
  unfold nameL
  have h256 := t.toNat_lt
  generalize t.toNat = n at *
  by_cases h1 : n = 127
  · subst h1
    go_enter Tryz.func67, Tryz.ntmps67
    go_wp2_with fail
    go_ret
    exact ⟨rfl, rfl⟩
  · by_cases h2 : n = 126
    · subst h2
      go_enter Tryz.func67, Tryz.ntmps67
      go_wp2_with fail
      go_ret
      exact ⟨rfl, rfl⟩
    · rw [if_neg h1, if_neg h2]
      have e1 : ((n : Int) == 127) = false := by simp; omega
      have e2 : ((n : Int) == 126) = false := by simp; omega
      clear h1 h2
      go_enter Tryz.func67, Tryz.ntmps67
      go_wp2_with fail
      go_ret
      exact ⟨rfl, rfl⟩
theorem badT_bits (t : UInt8) : (bitsV t == 0) = badT t := by
  unfold bitsV badT
  by_cases h1 : t.toNat = 127
  · simp [h1]
  · by_cases h2 : t.toNat = 126
    · simp [h2]
    · simp [h1, h2]
def fewT (ts : List UInt8) : Bool := decide (ts.length ≤ 20) && !ts.any badT
/-- two rows of types: a signature's value, and what it holds -/
structure SigIs (w : World) (v : Value) (ps rs : List UInt8) : Prop where
  ex : ∃ A1 c1 A2 c2, v = .agg #[.slice A1 ps.length c1, .slice A2 rs.length c2] ∧ Hid (Reads w w.heap.size 1 A1 ps.length (ps.map B)) ∧ Hid (Reads w w.heap.size 1 A2 rs.length (rs.map B))
theorem SigIs.below {w w' : World} {v : Value} {ps rs : List UInt8} (h : SigIs w v ps rs) (hb : Below w.heap.size w w') : SigIs w' v ps rs := by
  obtain ⟨A1, c1, A2, c2, e, h1, h2⟩ := h.ex
  exact ⟨A1, c1, A2, c2, e, (h1.out.below hb).more hb.size, (h2.out.below hb).more hb.size⟩

end Go.Proofs.YtpanlhbdphobdaaGreatDoor
