/-
  conv: a word's texts, and back: contracts.
-/
import Derived.Test.YtpanlhbdphobdaaGreatDoorFaBC
import Derived.Test.YtpanlhbdphobdaaGreatDoorDeAL
import Derived.Test.YtpanlhbdphobdaaGreatDoorFaBE
import Derived.Deep.DeepCutAuto
namespace Go.Proofs.YtpanlhbdphobdaaGreatDoor
open Go.RowKit
set_option linter.unusedVariables false

theorem beq_dec (a b : List UInt8) : (a == b) = decide (a = b) := by
  by_cases h : a = b
  · rw [decide_eq_true h]; exact beq_iff_eq.2 h
  · rw [decide_eq_false h]; exact beq_eq_false_iff_ne.2 h
theorem run_eql_str (a b : List UInt8) (W : World) : (binOp .eql 9 (.string ⟨a.toArray⟩) (.string ⟨b.toArray⟩)).run Tryz.prog W = .ok (.bool (decide (a = b))) W := by
  by_cases h : a = b
  · subst h
    rw [decide_eq_true rfl]
    exact run_eql_same _ W
  · rw [decide_eq_false h]
    go_simp
theorem run_eql_str' {a b : List UInt8} {q : Bool} (h : decide (a = b) = q) (W : World) : (binOp .eql 9 (.string ⟨a.toArray⟩) (.string ⟨b.toArray⟩)).run Tryz.prog W = .ok (.bool q) W := by
  rw [← h]
  exact run_eql_str a b W

/-- the word of a text in tens -/
def tensF (k : Nat) (bs : List UInt8) : Option Nat :=
  match bs with
  | [] => none
  | c :: r => if c.toNat = 45 then (readNL 10 (2 ^ (k - 1)) r).bind (fun u => if 1 ≤ u then some (2 ^ k - u) else none) else readNL 10 (2 ^ k - 1) bs
/-- the word of a text -/
def parseF (k : Nat) (bs : List UInt8) : Option Nat := if Lib.hasPrefix bs [48, 120] then readNL 16 (2 ^ k - 1) (bs.drop 2) else tensF k bs

def Told (f : Option Nat) (w : World) (e : Ending) (w' : World) : Prop :=
  ∃ (v : Nat) (ok : Bool), e = .returned (.tuple #[.int .u64 v, .bool ok]) ∧ v ≤ 18446744073709551615 ∧ (ok = true → f = some v) ∧ (ok = false → f = none) ∧ Below w.heap.size w w'

theorem digits_law {bs : List UInt8} {v : Nat} {q : Bool} (hv : v ≤ 18446744073709551615) (hq : decide (digL 16 v = bs) = q) (hm : ∀ m, m < 2 ^ 64 → bs = digL 16 m → v = m) :
    (q = true → readNL 16 18446744073709551615 bs = some v) ∧ (q = false → readNL 16 18446744073709551615 bs = none) := by
  constructor
  · rintro rfl
    have h := of_decide_eq_true hq
    exact (readNL_iff (by omega) (by omega) (by omega) bs v).2 ⟨h.symm, hv⟩
  · rintro rfl
    have h := of_decide_eq_false hq
    cases hr : readNL 16 18446744073709551615 bs with
    | none => rfl
    | some m =>
      obtain ⟨h1, h2⟩ := (readNL_iff (by omega) (by omega) (by omega) bs m).1 hr
      have := hm m (by simp; omega) h1
      subst this
      exact absurd h1.symm h
theorem digits_none {bs : List UInt8} (hm : ∀ m, m < 2 ^ 64 → bs = digL 16 m → False) : readNL 16 18446744073709551615 bs = none := by
  cases hr : readNL 16 18446744073709551615 bs with
  | none => rfl
  | some m =>
    obtain ⟨h1, h2⟩ := (readNL_iff (by omega) (by omega) (by omega) bs m).1 hr
    exact (hm m (by simp; omega) h1).elim

set_option maxHeartbeats 800000 in
theorem digits_any (bs : List UInt8) (w : World) (hl : bs.length ≤ 1000) (ht : Hid (LaidC w)) :
    Calls Tryz.prog 111 #[.string ⟨bs.toArray⟩] w (Told (readNL 16 18446744073709551615 bs) w) := by
  have H := hide (parseU16 bs w hl ht)
  go_enter Tryz.func111, Tryz.ntmps111
  go_wp2_with fail
  refine H.out.mono ?_; rintro e w1 ⟨v, er, rfl, hv, her, hm, hb⟩
  have HB := hide hb
  have HL := hide (ht.out.below hb)
  have HV := hide hv
  rcases her with rfl | ⟨t, p, rfl⟩
  · have hm' : Hid (∀ m, m < 2 ^ 64 → bs = digL 16 m → v = m) := fun m h1 h2 => (hm m h1 h2).2
    have HF := hide (fmtU16 v w1 (by omega) HL)
    obtain ⟨q, hq⟩ : ∃ q, decide (digL 16 v = bs) = q := ⟨_, rfl⟩
    have hcmp : (_ == bs) = q := (beq_dec _ _).trans hq
    have HQ := hide hq
    clear hb hv hm hq
    go_wp2_with fail
    refine HF.out.mono ?_; rintro e w2 ⟨rfl, hb2⟩
    have HB2 := hide hb2; clear hb2
    go_wp2_with fail
    go_ret2
    obtain ⟨h1, h2⟩ := digits_law HV.out HQ.out hm'.out
    exact ⟨v, q, rfl, HV.out, h1, h2, HB.out.trans (HB2.out.mono HB.out.size)⟩
  · have hm' : Hid (∀ m, m < 2 ^ 64 → bs = digL 16 m → False) := fun m h1 h2 => by have := (hm m h1 h2).1; simp at this
    clear hb hv hm
    go_wp2_with fail
    go_ret2
    exact ⟨v, false, rfl, HV.out, by simp, fun _ => digits_none hm'.out, HB.out⟩

theorem tens_law {k : Nat} (hk : k = 32 ∨ k = 64) {c : UInt8} {r : List UInt8} (hc : c.toNat ≠ 45) {v : Nat} (h : Lib.parseUintB k (c :: r) = .ok v) {q : Bool} (hq : decide (digL 10 v = c :: r) = q) :
    (q = true → tensF k (c :: r) = some v) ∧ (q = false → tensF k (c :: r) = none) := by
  have e : tensF k (c :: r) = readNL 10 (2 ^ k - 1) (c :: r) := by simp only [tensF]; rw [if_neg hc]
  rw [e]
  constructor
  · rintro rfl
    exact (tens_iff hk _ v).1 ⟨h, by rw [decDigits_digL]; exact of_decide_eq_true hq⟩
  · rintro rfl
    have hne := of_decide_eq_false hq
    cases hr : readNL 10 (2 ^ k - 1) (c :: r) with
    | none => rfl
    | some m =>
      obtain ⟨h1, h2⟩ := (tens_iff hk _ m).2 hr
      rw [h] at h1
      injection h1 with h1
      subst h1
      rw [decDigits_digL] at h2
      exact absurd h2 hne
theorem tens_none {k : Nat} (hk : k = 32 ∨ k = 64) {bs : List UInt8} (hc : ∀ r, bs ≠ (45 : UInt8) :: r) (h : ∀ u, Lib.parseUintB k bs ≠ .ok u) : tensF k bs = none := by
  cases bs with
  | nil => rfl
  | cons c r =>
    have hc' : c.toNat ≠ 45 := fun h' => hc r (by rw [show c = 45 from UInt8.toNat_inj.1 h'])
    simp only [tensF]
    rw [if_neg hc']
    cases hr : readNL 10 (2 ^ k - 1) (c :: r) with
    | none => rfl
    | some m => exact absurd ((tens_iff hk _ m).2 hr).1 (h m)
theorem minus_law {k : Nat} (hk : k = 32 ∨ k = 64) {r : List UInt8} {n : Int} (h : Lib.parseIntB k (45 :: r) = .ok n) {q : Bool} (hq : decide (Lib.itoa n = 45 :: r) = q) {x : Nat} (hx : (x : Int) = n % 2 ^ k) :
    (q = true → tensF k (45 :: r) = some x) ∧ (q = false → tensF k (45 :: r) = none) := by
  have e : tensF k (45 :: r) = (readNL 10 (2 ^ (k - 1)) r).bind (fun u => if 1 ≤ u then some (2 ^ k - u) else none) := rfl
  rw [e]
  constructor
  · rintro rfl
    obtain ⟨u, h1, h2, rfl⟩ := (minus_iff hk r n).1 ⟨h, of_decide_eq_true hq⟩
    have hp : 16 ≤ 2 ^ (k - 1) := by rcases hk with rfl | rfl <;> simp
    have hu := ((readNL_iff (by omega) (by omega) hp r u).1 h1).2
    rw [h1]
    simp only [Option.bind_some]
    rw [if_pos h2]
    congr 1
    rcases hk with rfl | rfl <;> simp at hu hx ⊢ <;> omega
  · rintro rfl
    have hne := of_decide_eq_false hq
    cases hr : readNL 10 (2 ^ (k - 1)) r with
    | none => rfl
    | some m =>
      simp only [Option.bind_some]
      by_cases h1 : 1 ≤ m
      · obtain ⟨h2, h3⟩ := (minus_iff hk r (-(m : Int))).2 ⟨m, hr, h1, rfl⟩
        rw [h] at h2
        injection h2 with h2
        rw [h2] at hne
        exact absurd h3 hne
      · rw [if_neg h1]
theorem minus_none {k : Nat} (hk : k = 32 ∨ k = 64) {r : List UInt8} (h : ∀ u, Lib.parseIntB k (45 :: r) ≠ .ok u) : tensF k (45 :: r) = none := by
  have e : tensF k (45 :: r) = (readNL 10 (2 ^ (k - 1)) r).bind (fun u => if 1 ≤ u then some (2 ^ k - u) else none) := rfl
  rw [e]
  cases hr : readNL 10 (2 ^ (k - 1)) r with
  | none => rfl
  | some m =>
    simp only [Option.bind_some]
    by_cases h1 : 1 ≤ m
    · exact absurd ((minus_iff hk r (-(m : Int))).2 ⟨m, hr, h1, rfl⟩).1 (h _)
    · rw [if_neg h1]

theorem hasPre_cons (c : UInt8) (r : List UInt8) : Lib.hasPrefix (c :: r) [45] = decide (c = 45) := by
  unfold Lib.hasPrefix
  by_cases h : c = 45
  · subst h; rfl
  · rw [decide_eq_false h]
    simp only [List.isPrefixOf, Bool.and_true]
    exact beq_eq_false_iff_ne.2 fun h' => h h'.symm

set_option maxHeartbeats 1600000 in
theorem tens_plus (k : Nat) (hk : k = 32 ∨ k = 64) (bs : List UInt8) (w : World) (hl : bs.length ≤ 1000) (hc : ∀ r, bs ≠ (45 : UInt8) :: r) (ht : Hid (LaidC w)) :
    Calls Tryz.prog 109 #[.int .i64 k, .string ⟨bs.toArray⟩] w (Told (tensF k bs) w) := by
  have H : Hid (Calls Tryz.prog 75 #[.string ⟨bs.toArray⟩, .int .i64 10, .int .i64 k] w (PU10 k w bs)) := by
    rcases hk with rfl | rfl
    · exact parseU10_32 bs w hl ht
    · exact parseU10_64 bs w hl ht
  have hpre : Lib.hasPrefix bs [45] = false := by
    cases bs with
    | nil => rfl
    | cons c r => rw [hasPre_cons]; exact decide_eq_false fun h => hc r (by rw [h])
  have HP := hide (fun W => Tryz.strings_HasPrefix ⟨bs.toArray⟩ ⟨#[45]⟩ W)
  rw [show (⟨bs.toArray⟩ : ByteArray).data.toList = bs from rfl, show (⟨#[45]⟩ : ByteArray).data.toList = [45] from rfl, hpre] at HP
  have HK := hide hk
  have HC := hide hc
  clear hk hc hpre
  go_enter Tryz.func109, Tryz.ntmps109
  go_wp2_with fail
  refine (HP.out w).mono ?_; rintro e w' ⟨rfl, rfl⟩
  go_wp2_with fail
  refine H.out.mono ?_; rintro e w1 ⟨v, er, rfl, hv, her, hb⟩
  have HB := hide hb
  have HL := hide (ht.out.below hb)
  have HV := hide hv
  rcases her with ⟨rfl, hok⟩ | ⟨⟨t, p, rfl⟩, hno⟩
  · have HOK := hide hok
    have HF := hide (fmtU10 v w1 (by omega) HL)
    obtain ⟨q, hq⟩ : ∃ q, decide (digL 10 v = bs) = q := ⟨_, rfl⟩
    have hcmp : (_ == bs) = q := (beq_dec _ _).trans hq
    have HQ := hide hq
    clear hb hv hok hq
    go_wp2_with fail
    refine HF.out.mono ?_; rintro e w2 ⟨rfl, hb2⟩
    have HB2 := hide hb2; clear hb2
    go_wp2_with fail
    go_ret2
    have hlaw : (q = true → tensF k bs = some v) ∧ (q = false → tensF k bs = none) := by
      have h0 := HOK.out
      have hc0 := HC.out
      have hq0 := HQ.out
      cases bs with
      | nil => simp [Lib.parseUintB] at h0
      | cons c r => exact tens_law HK.out (fun h' => hc0 r (by rw [show c = 45 from UInt8.toNat_inj.1 h'])) h0 hq0
    exact ⟨v, q, rfl, HV.out, hlaw.1, hlaw.2, HB.out.trans (HB2.out.mono HB.out.size)⟩
  · have HNO := hide hno
    clear hb hv hno
    go_wp2_with fail
    go_ret2
    exact ⟨v, false, rfl, HV.out, by simp, fun _ => tens_none HK.out HC.out HNO.out, HB.out⟩

set_option maxHeartbeats 1600000 in
set_option maxRecDepth 100000 in
theorem tens_minus (k : Nat) (hk : k = 32 ∨ k = 64) (r : List UInt8) (w : World) (hl : r.length ≤ 900) (ht : Hid (LaidC w)) :
    Calls Tryz.prog 109 #[.int .i64 k, .string ⟨(45 :: r).toArray⟩] w (Told (tensF k (45 :: r)) w) := by
  have H : Hid (Calls Tryz.prog 140 #[.string ⟨(45 :: r).toArray⟩, .int .i64 10, .int .i64 k] w (PI10 k w (45 :: r))) := by
    rcases hk with rfl | rfl
    · exact parseI10_32 (45 :: r) w (by simp; omega) ht
    · exact parseI10_64 (45 :: r) w (by simp; omega) ht
  have HP := hide (fun W => Tryz.strings_HasPrefix ⟨(45 :: r).toArray⟩ ⟨#[45]⟩ W)
  rw [show (⟨(45 :: r).toArray⟩ : ByteArray).data.toList = 45 :: r from rfl, show (⟨#[45]⟩ : ByteArray).data.toList = [45] from rfl, hasPre_cons, decide_eq_true rfl] at HP
  have HK := hide hk
  go_enter Tryz.func109, Tryz.ntmps109
  go_wp2_with fail
  refine (HP.out w).mono ?_; rintro e w' ⟨rfl, rfl⟩
  go_wp2_with fail
  refine H.out.mono ?_; rintro e w1 ⟨v, er, rfl, hv1, hv2, her, hb⟩
  have HB := hide hb
  have HL := hide (ht.out.below hb)
  have HVB := hide (And.intro hv1 hv2)
  obtain ⟨x, hx, hx64⟩ : ∃ x : Nat, (if (k : Int) = 32 then IntKind.u64.wrap v % 4294967296 else IntKind.u64.wrap v) = (x : Int) ∧ x ≤ 18446744073709551615 := by
    have h0 := (u64_wrap_bd v).1
    have h1 := (u64_wrap_bd v).2
    split
    · exact ⟨(IntKind.u64.wrap v % 4294967296).toNat, by omega, by omega⟩
    · exact ⟨(IntKind.u64.wrap v).toNat, by omega, by omega⟩
  have hxm : (x : Int) = v % 2 ^ k := by
    rw [← hx, IntKind.wrap_u64]
    rcases hk with rfl | rfl
    · rw [if_pos (by rfl)]; simp
    · rw [if_neg (by omega)]; rfl
  have HX := hide hx
  have HXM := hide hxm
  clear hk hv1 hv2 hb hx hxm
  rcases her with ⟨rfl, hok⟩ | ⟨⟨t, p, rfl⟩, hno⟩
  · have HOK := hide hok
    obtain ⟨q, hq⟩ : ∃ q, decide (Lib.itoa v = 45 :: r) = q := ⟨_, rfl⟩
    have HQ := hide hq
    clear hok hq
    go_wp2_with fail
    --REGIONA
    refine wp_region_factsR grew_ext (factsOf [fun yy _ => yy = .int .i64 k,
      fun yy _ => yy = .int .i64 v,
      fun yy _ => yy = .int .u64 (IntKind.u64.wrap v),
      fun yy _ => yy = .int .u64 x,
      fun yy _ => yy = .nilIface,
      fun yy _ => yy = .bool true,
      fun yy _ => yy = .bool true,
      fun yy _ => yy = .int .i64 v,
      fun yy _ => yy = .string ⟨(Lib.itoa v).toArray⟩,
      fun yy _ => yy = .string ⟨(45 :: r).toArray⟩,
      fun yy _ => yy = .bool q,
      fun yy _ => yy = .bool q,
      fun yy _ => yy = .int .u64 x,
      fun yy _ => yy = .bool q]) (by kernel_rfl) (by kernel_rfl) ?_ ?_
    · refine ⟨?_, ?_, ?_, ?_, ?_, ?_, ?_, ?_, ?_, ?_, ?_, ?_, ?_, ?_, trivial⟩
      · refine ⟨fun ρ W hk => ?_⟩
        have o0 : ρ (.tmp 0) = .int .i64 k := hk.old 0 (by decide)
        exact OpOut.move (.tmp 0) rfl ⟨Below.refl _ _, o0⟩
      · refine ⟨fun ρ W hk => ?_⟩
        have o6 : ρ (.tmp 6) = .int .i64 v := hk.old 6 (by decide)
        exact OpOut.move (.tmp 6) rfl ⟨Below.refl _ _, o6⟩
      · refine ⟨fun ρ W hk => ?_⟩
        have h1 := (hk.fact 1 19 (by decide) rfl).pure
        exact OpOut.conv (x := .tmp 19) rfl (by rw [h1]; exact (by go_simp)) ⟨Below.refl _ _, rfl⟩
      · refine ⟨fun ρ W hk => ?_⟩
        have h0 := (hk.fact 0 18 (by decide) rfl).pure
        have h2 := (hk.fact 2 20 (by decide) rfl).pure
        refine OpOut.fn (args := #[.int .i64 k, .int .u64 (IntKind.u64.wrap v)]) rfl (hk.func _) (by simp [h0, h2]) Tryz.func141 (by kernel_rfl) rfl ?_
        refine (cut_any k _ W (u64_wrap_bd v).1 (u64_wrap_bd v).2).mono ?_; rintro e w5 ⟨rfl, rfl⟩
        refine ⟨_, rfl, Below.refl _ _, ?_⟩
        exact congrArg (Value.int .u64) HX.out
      · refine ⟨fun ρ W hk => ?_⟩
        have o7 : ρ (.tmp 7) = .nilIface := hk.old 7 (by decide)
        exact OpOut.move (.tmp 7) rfl ⟨Below.refl _ _, o7⟩
      · refine ⟨fun ρ W hk => ?_⟩
        have h4 := (hk.fact 4 22 (by decide) rfl).pure
        exact OpOut.bin (x := .tmp 22) (y := .const (.nilIface)) (v := .bool true) rfl (by rw [h4, hk.const]; go_simp) (by rw [h4, hk.const]; go_simp) ⟨Below.refl _ _, rfl⟩
      · refine ⟨fun ρ W hk => ?_⟩
        have h5 := (hk.fact 5 23 (by decide) rfl).pure
        exact OpOut.move (.tmp 23) rfl ⟨Below.refl _ _, h5⟩
      · refine ⟨fun ρ W hk => ?_⟩
        have o6 : ρ (.tmp 6) = .int .i64 v := hk.old 6 (by decide)
        have h6 := (hk.fact 6 24 (by decide) rfl).pure
        refine ⟨24, rfl, .inl ⟨true, h6, fun _ => ?_, fun h => absurd rfl h⟩⟩
        exact OpOut.move (.tmp 6) rfl ⟨Below.refl _ _, o6⟩
      · refine ⟨fun ρ W hk => ?_⟩
        have h7 := (hk.fact 7 25 (by decide) rfl).pure
        have h6 := (hk.fact 6 24 (by decide) rfl).pure
        refine ⟨24, rfl, .inl ⟨true, h6, fun _ => ?_, fun h => absurd rfl h⟩⟩
        refine OpOut.fn (args := #[.int .i64 v, .int .i64 10]) rfl (hk.func _) (by simp [h7, hk.const]) Tryz.func99 (by kernel_rfl) rfl ?_
        refine (fmtI10 v W HVB.out.1 HVB.out.2 (HL.out.below hk.below)).mono ?_; rintro e w5 ⟨rfl, hb5⟩
        exact ⟨_, rfl, hb5, rfl⟩
      · refine ⟨fun ρ W hk => ?_⟩
        have o1 : ρ (.tmp 1) = .string ⟨(45 :: r).toArray⟩ := hk.old 1 (by decide)
        have h6 := (hk.fact 6 24 (by decide) rfl).pure
        refine ⟨24, rfl, .inl ⟨true, h6, fun _ => ?_, fun h => absurd rfl h⟩⟩
        exact OpOut.move (.tmp 1) rfl ⟨Below.refl _ _, o1⟩
      · refine ⟨fun ρ W hk => ?_⟩
        have h8 := (hk.fact 8 26 (by decide) rfl).pure
        have h9 := (hk.fact 9 27 (by decide) rfl).pure
        have h6 := (hk.fact 6 24 (by decide) rfl).pure
        refine ⟨24, rfl, .inl ⟨true, h6, fun _ => ?_, fun h => absurd rfl h⟩⟩
        exact OpOut.bin (x := .tmp 26) (y := .tmp 27) (v := .bool q) rfl (by rw [h8, h9]; go_simp) (by rw [h8, h9]; exact run_eql_str' HQ.out _) ⟨Below.refl _ _, rfl⟩
      · refine ⟨fun ρ W hk => ?_⟩
        have h6 := (hk.fact 6 24 (by decide) rfl).pure
        have h10 := (hk.fact 10 28 (by decide) rfl).pure
        exact OpOut.pick (c := .tmp 24) (b := true) rfl h6 ⟨Below.refl _ _, h10⟩
      · refine ⟨fun ρ W hk => ?_⟩
        have h3 := (hk.fact 3 21 (by decide) rfl).pure
        exact OpOut.assign (.tmp 21) rfl ⟨Below.refl _ _, h3⟩
      · refine ⟨fun ρ W hk => ?_⟩
        have h11 := (hk.fact 11 29 (by decide) rfl).pure
        exact OpOut.assign (.tmp 29) rfl ⟨Below.refl _ _, h11⟩
    · intro vs W hb hf
      have h12 := (hf 12 (by decide)).pure
      have h13 := (hf 13 (by decide)).pure
      clear hf
      simp only [fillL]
      go_frame
      rw [h12]
      rw [h13]
    --ENDA
      have HBW := hide hb; clear hb
      generalize vs 0 = v0, vs 1 = v1, vs 2 = v2, vs 3 = v3, vs 4 = v4, vs 5 = v5, vs 6 = v6, vs 7 = v7, vs 8 = v8, vs 9 = v9, vs 10 = v10, vs 11 = v11
      go_wp2_with fail
      go_ret2
      obtain ⟨h1, h2⟩ := minus_law HK.out HOK.out HQ.out HXM.out
      exact ⟨x, q, rfl, by omega, h1, h2, HB.out.trans (HBW.out.mono HB.out.size)⟩
  · have HNO := hide hno
    clear hno
    go_wp2_with fail
    --REGIONB
    refine wp_region_factsR grew_ext (factsOf [fun yy _ => yy = .int .i64 k,
      fun yy _ => yy = .int .i64 v,
      fun yy _ => yy = .int .u64 (IntKind.u64.wrap v),
      fun yy _ => yy = .int .u64 x,
      fun yy _ => yy = .iface t p,
      fun yy _ => yy = .bool false,
      fun yy _ => yy = .bool false,
      fun yy _ => yy = undef,
      fun yy _ => yy = undef,
      fun yy _ => yy = undef,
      fun yy _ => yy = undef,
      fun yy _ => yy = .bool false,
      fun yy _ => yy = .int .u64 x,
      fun yy _ => yy = .bool false]) (by kernel_rfl) (by kernel_rfl) ?_ ?_
    · refine ⟨?_, ?_, ?_, ?_, ?_, ?_, ?_, ?_, ?_, ?_, ?_, ?_, ?_, ?_, trivial⟩
      · refine ⟨fun ρ W hk => ?_⟩
        have o0 : ρ (.tmp 0) = .int .i64 k := hk.old 0 (by decide)
        exact OpOut.move (.tmp 0) rfl ⟨Below.refl _ _, o0⟩
      · refine ⟨fun ρ W hk => ?_⟩
        have o6 : ρ (.tmp 6) = .int .i64 v := hk.old 6 (by decide)
        exact OpOut.move (.tmp 6) rfl ⟨Below.refl _ _, o6⟩
      · refine ⟨fun ρ W hk => ?_⟩
        have h1 := (hk.fact 1 19 (by decide) rfl).pure
        exact OpOut.conv (x := .tmp 19) rfl (by rw [h1]; exact (by go_simp)) ⟨Below.refl _ _, rfl⟩
      · refine ⟨fun ρ W hk => ?_⟩
        have h0 := (hk.fact 0 18 (by decide) rfl).pure
        have h2 := (hk.fact 2 20 (by decide) rfl).pure
        refine OpOut.fn (args := #[.int .i64 k, .int .u64 (IntKind.u64.wrap v)]) rfl (hk.func _) (by simp [h0, h2]) Tryz.func141 (by kernel_rfl) rfl ?_
        refine (cut_any k _ W (u64_wrap_bd v).1 (u64_wrap_bd v).2).mono ?_; rintro e w5 ⟨rfl, rfl⟩
        refine ⟨_, rfl, Below.refl _ _, ?_⟩
        exact congrArg (Value.int .u64) HX.out
      · refine ⟨fun ρ W hk => ?_⟩
        have o7 : ρ (.tmp 7) = .iface t p := hk.old 7 (by decide)
        exact OpOut.move (.tmp 7) rfl ⟨Below.refl _ _, o7⟩
      · refine ⟨fun ρ W hk => ?_⟩
        have h4 := (hk.fact 4 22 (by decide) rfl).pure
        exact OpOut.bin (x := .tmp 22) (y := .const (.nilIface)) (v := .bool false) rfl (by rw [h4, hk.const]; go_simp) (by rw [h4, hk.const]; go_simp) ⟨Below.refl _ _, rfl⟩
      · refine ⟨fun ρ W hk => ?_⟩
        have h5 := (hk.fact 5 23 (by decide) rfl).pure
        exact OpOut.move (.tmp 23) rfl ⟨Below.refl _ _, h5⟩
      · refine ⟨fun ρ W hk => ?_⟩
        have hg := (hk.fact 6 24 (by decide) rfl).pure
        exact ⟨24, rfl, .inl ⟨false, hg, fun h => absurd h (by decide), fun _ => rfl⟩⟩
      · refine ⟨fun ρ W hk => ?_⟩
        have hg := (hk.fact 6 24 (by decide) rfl).pure
        exact ⟨24, rfl, .inl ⟨false, hg, fun h => absurd h (by decide), fun _ => rfl⟩⟩
      · refine ⟨fun ρ W hk => ?_⟩
        have hg := (hk.fact 6 24 (by decide) rfl).pure
        exact ⟨24, rfl, .inl ⟨false, hg, fun h => absurd h (by decide), fun _ => rfl⟩⟩
      · refine ⟨fun ρ W hk => ?_⟩
        have hg := (hk.fact 6 24 (by decide) rfl).pure
        exact ⟨24, rfl, .inl ⟨false, hg, fun h => absurd h (by decide), fun _ => rfl⟩⟩
      · refine ⟨fun ρ W hk => ?_⟩
        have h6 := (hk.fact 6 24 (by decide) rfl).pure
        exact OpOut.pick (c := .tmp 24) (b := false) rfl h6 ⟨Below.refl _ _, hk.const _⟩
      · refine ⟨fun ρ W hk => ?_⟩
        have h3 := (hk.fact 3 21 (by decide) rfl).pure
        exact OpOut.assign (.tmp 21) rfl ⟨Below.refl _ _, h3⟩
      · refine ⟨fun ρ W hk => ?_⟩
        have h11 := (hk.fact 11 29 (by decide) rfl).pure
        exact OpOut.assign (.tmp 29) rfl ⟨Below.refl _ _, h11⟩
    · intro vs W hb hf
      have h12 := (hf 12 (by decide)).pure
      have h13 := (hf 13 (by decide)).pure
      clear hf
      simp only [fillL]
      go_frame
      rw [h12]
      rw [h13]
    --ENDB
      have HBW := hide hb; clear hb
      generalize vs 0 = v0, vs 1 = v1, vs 2 = v2, vs 3 = v3, vs 4 = v4, vs 5 = v5, vs 6 = v6, vs 7 = v7, vs 8 = v8, vs 9 = v9, vs 10 = v10, vs 11 = v11
      go_wp2_with fail
      go_ret2
      exact ⟨x, false, rfl, by omega, by simp, fun _ => minus_none HK.out HNO.out, HB.out.trans (HBW.out.mono HB.out.size)⟩
end Go.Proofs.YtpanlhbdphobdaaGreatDoor
