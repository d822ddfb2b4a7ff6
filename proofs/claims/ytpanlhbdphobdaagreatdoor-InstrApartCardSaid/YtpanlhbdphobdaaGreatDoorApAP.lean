/-
  flash: reads by a cursor that fail; FailAt, Go, Byte: contracts.
  A number read byte by byte: what the first bytes tell; in plain Lean.
-/
import Derived.Test.YtpanlhbdphobdaaGreatDoorApAO
import Derived.Test.YtpanlhbdphobdaaGreatDoorApAC
namespace Go.Proofs.YtpanlhbdphobdaaGreatDoor
open Go.RowKit
set_option linter.unusedVariables false

/-- what a cursor's read that fails leaves: the flash has been read once more -/
def FailPost (w : World) (g f c : Nat) (A : Option Addr) (bs : List UInt8) (r fl fr tu at_ : Int) (out : Value) (e : Ending) (w' : World) : Prop :=
  e = .returned (.tuple #[out, .int .i64 9]) ∧ Hid (FL w' f A c bs (r + 1) fl) ∧ Hid (CU w' g f fr tu at_) ∧ Hid (Only [f] w w')

set_option maxHeartbeats 800000 in
set_option maxRecDepth 100000 in
theorem take_fault (g f c : Nat) (A : Option Addr) (bs : List UInt8) (r fl fr tu at_ n : Int) (w : World) (hf : Hid (FL w f A c bs r fl)) (hc : Hid (CU w g f fr tu at_)) (hr1 : 0 ≤ r) (hr2 : r ≤ 1000000) (hl : bs.length ≤ 65536)
    (h1 : 0 ≤ at_) (h2 : 0 ≤ n) (h3 : n ≤ tu - at_) (h4 : tu ≤ (bs.length : Int)) (h5 : 0 ≤ fl) (h6 : fl ≤ r) :
    Calls Tryz.prog 145 #[.pointer (some ⟨g, 0, none⟩), .int .i64 n] w (FailPost w g f c A bs r fl fr tu at_ (.slice none 0 0)) := by
  have hw : wrongL n (tu - at_) = 0 := by unfold wrongL; rw [if_neg (by omega), if_neg (by omega)]
  have hwr := wrong_any g f fr tu at_ n w hc h1 (by omega) (by omega)
  rw [hw] at hwr
  have HW := hide hwr; clear hwr hw
  have hne := cu_ne hc.out
  have HNE := hide hne; clear hne
  go_enter Tryz.func145, Tryz.ntmps145
  go_wp2_with fail
  refine HW.out.mono ?_; rintro e w1 ⟨rfl, d, rfl⟩
  obtain ⟨w1, hw1⟩ : ∃ w1, w.drewN d = w1 := ⟨_, rfl⟩
  have hf1 : Hid (FL w1 f A c bs r fl) := by rw [← hw1]; exact ⟨hf.out.blk, hf.out.row.drewN d, hf.out.cap⟩
  have hc1 : Hid (CU w1 g f fr tu at_) := by rw [← hw1]; exact ⟨hc.out.blk, hc.out.lt⟩
  have ho1 : Hid (Only [f] w w1) := by rw [← hw1]; exact ⟨rfl, rfl, rfl, Nat.le_refl _, fun _ _ _ => rfl⟩
  rw [hw1]
  clear hw1
  have c0 := cell_blk hc1.out.blk 0
  have c3 := cell_blk hc1.out.blk 3
  simp at c0 c3
  have hfd : Hid (FL w1.drew f A c bs r fl) := ⟨hf1.out.blk, hf1.out.row.drew, hf1.out.cap⟩
  go_wp2_with fail
  go_region_held3 (fun W => W.cell? ⟨g, 0, none⟩ = some (.pointer (some ⟨f, 0, none⟩)) ∧ W.cell? ⟨g, 3, none⟩ = some (.int .i64 at_))
    (first | exact ⟨c0, c3⟩ | exact ⟨d0, d3⟩)
    ((first | (go_at_call 174; refine (read_fault f c A bs r fl at_ n _ hfd hr1 hr2 hl h1 h2 (by omega) h5 h6).mono ?_; rintro e w2 ⟨rfl, k2, k3⟩; have hc2 := hide (hc1.out.keep ((Only.drew [f] w1).trans k3.out) (by simpa using HNE.out)); have d0 := cell_blk hc2.out.blk 0; have d3 := cell_blk hc2.out.blk 3; simp at d0 d3)))
  go_wp2_with fail
  go_ret2
  exact ⟨rfl, k2, hc2, ho1.out.trans ((Only.drew [f] w1).trans k3.out)⟩

set_option maxHeartbeats 400000 in
theorem byte_fault (g f c : Nat) (A : Option Addr) (bs : List UInt8) (r fl fr tu at_ : Int) (w : World) (hf : Hid (FL w f A c bs r fl)) (hc : Hid (CU w g f fr tu at_)) (hr1 : 0 ≤ r) (hr2 : r ≤ 1000000) (hl : bs.length ≤ 65536)
    (h1 : 0 ≤ at_) (h3 : at_ < tu) (h4 : tu ≤ (bs.length : Int)) (h5 : 0 ≤ fl) (h6 : fl ≤ r) :
    Calls Tryz.prog 114 #[.pointer (some ⟨g, 0, none⟩)] w (FailPost w g f c A bs r fl fr tu at_ (.int .u8 0)) := by
  have ht := take_fault g f c A bs r fl fr tu at_ 1 w hf hc hr1 hr2 hl h1 (by omega) (by omega) h4 h5 h6
  have HT := hide ht; clear ht
  go_enter Tryz.func114, Tryz.ntmps114
  go_wp2_with fail
  refine HT.out.mono ?_; rintro e w1 ⟨rfl, k2, k3, k4⟩
  go_wp2_with fail
  go_ret2
  exact ⟨rfl, k2, k3, k4⟩

set_option maxHeartbeats 400000 in
theorem bytes_range (f c : Nat) (A : Option Addr) (bs : List UInt8) (r fl a n : Int) (w : World) (hf : Hid (FL w f A c bs r fl)) (hl : bs.length ≤ 65536)
    (h1 : 0 ≤ a) (h2 : 0 ≤ n) (h3 : a ≤ bs.length) (h4 : (bs.length : Int) - a < n) :
    Calls Tryz.prog 191 #[.pointer (some ⟨f, 0, none⟩), .int .i64 a, .int .i64 n] w fun e w' => e = .returned (.tuple #[.slice none 0 0, .int .i64 2]) ∧ Hid (Only [f] w w') := by
  have c0 := cell_blk hf.out.blk 0
  simp at c0
  go_enter Tryz.func191, Tryz.ntmps191
  go_wp2_with fail
  go_ret2
  exact ⟨rfl, ⟨rfl, rfl, rfl, Nat.le_refl _, fun _ _ _ => rfl⟩⟩

set_option maxHeartbeats 400000 in
theorem failAt_any (f c : Nat) (A : Option Addr) (bs : List UInt8) (r fl n : Int) (w : World) (hf : Hid (FL w f A c bs r fl)) :
    Calls Tryz.prog 19 #[.pointer (some ⟨f, 0, none⟩), .int .i64 n] w fun e w' => e = .returned (.tuple #[]) ∧ Hid (FL w' f A c bs r n) ∧ Hid (Only [f] w w') := by
  have c2 := cell_blk hf.out.blk 2
  simp at c2
  have z2 := frozen_blk hf.out.blk 2
  go_enter Tryz.func19, Tryz.ntmps19
  go_wp2_with fail
  go_end0
  exact ⟨rfl, hf.out.failAt n, Only.setCell (S := [f]) w (p := ⟨f, 2, none⟩) (by simp) _⟩

def goL (n fr tu : Int) : Bool := decide (fr ≤ n) && decide (n ≤ tu)
set_option maxHeartbeats 400000 in
theorem go_ok (g f : Nat) (fr tu at_ n : Int) (w : World) (hc : Hid (CU w g f fr tu at_)) (h1 : fr ≤ n) (h2 : n ≤ tu) :
    Calls Tryz.prog 27 #[.pointer (some ⟨g, 0, none⟩), .int .i64 n] w fun e w' => e = .returned (.int .i64 0) ∧ Hid (CU w' g f fr tu n) ∧ Hid (Only [g] w w') := by
  have c1 := cell_blk hc.out.blk 1
  have c2 := cell_blk hc.out.blk 2
  have c3 := cell_blk hc.out.blk 3
  simp at c1 c2 c3
  have z3 := frozen_blk hc.out.blk 3
  go_enter Tryz.func27, Tryz.ntmps27
  go_wp2_with fail
  go_ret
  exact ⟨rfl, hc.out.move n, Only.setCell (S := [g]) w (p := ⟨g, 3, none⟩) (by simp) _⟩
set_option maxHeartbeats 400000 in
theorem go_no (g f : Nat) (fr tu at_ n : Int) (w : World) (hc : Hid (CU w g f fr tu at_)) (h1 : n < fr ∨ tu < n) :
    Calls Tryz.prog 27 #[.pointer (some ⟨g, 0, none⟩), .int .i64 n] w fun e w' => e = .returned (.int .i64 2) ∧ w = w' := by
  have c1 := cell_blk hc.out.blk 1
  have c2 := cell_blk hc.out.blk 2
  simp at c1 c2
  by_cases hn : n < fr
  · clear h1
    go_enter Tryz.func27, Tryz.ntmps27
    go_wp2_with fail
    go_ret
    exact ⟨rfl, rfl⟩
  · have h2 : tu < n := by omega
    clear h1
    go_enter Tryz.func27, Tryz.ntmps27
    go_wp2_with fail
    go_ret
    exact ⟨rfl, rfl⟩
set_option maxHeartbeats 400000 in
theorem cursor_no (f c : Nat) (A : Option Addr) (bs : List UInt8) (r fl a b : Int) (w : World) (hf : Hid (FL w f A c bs r fl)) (h1 : a < 0 ∨ b < a ∨ (bs.length : Int) < b) :
    Calls Tryz.prog 20 #[.pointer (some ⟨f, 0, none⟩), .int .i64 a, .int .i64 b] w fun e w' => e = .returned (.tuple #[.pointer none, .int .i64 2]) ∧ w = w' := by
  have c0 := cell_blk hf.out.blk 0
  simp at c0
  by_cases h2 : a < 0
  · clear h1
    go_enter Tryz.func20, Tryz.ntmps20
    go_wp2_with fail
    go_ret2
    exact ⟨rfl, rfl⟩
  · by_cases h3 : b < a
    · clear h1
      go_enter Tryz.func20, Tryz.ntmps20
      go_wp2_with fail
      go_ret2
      exact ⟨rfl, rfl⟩
    · have h4 : (bs.length : Int) < b := by omega
      clear h1
      go_enter Tryz.func20, Tryz.ntmps20
      go_wp2_with fail
      go_ret2
      exact ⟨rfl, rfl⟩
end Go.Proofs.YtpanlhbdphobdaaGreatDoor

namespace Go.Proofs.YtpanlhbdphobdaaGreatDoor

theorem rawGo_prefix (cnt : Nat) : ∀ (l : List UInt8) (k i acc : Nat), (rawGo cnt (l.take k) i acc).2.2.2 ≠ 3 → rawGo cnt l i acc = rawGo cnt (l.take k) i acc := by
  intro l
  induction l with
  | nil => intro k i acc h; simp
  | cons c r ih =>
    intro k i acc h
    cases k with
    | zero => simp [rawGo] at h
    | succ k =>
      rw [List.take_succ_cons] at h ⊢
      unfold rawGo at h ⊢
      split
      · rfl
      · rename_i h1
        rw [if_neg h1] at h
        split
        · rfl
        · rename_i h2
          rw [if_neg h2] at h
          exact ih k _ _ h
/-- where it ends well, the bytes that it has taken end well -/
theorem rawGo_self (cnt : Nat) : ∀ (l : List UInt8) (i acc : Nat), (rawGo cnt l i acc).2.2.2 = 0 → (rawGo cnt l i acc).2.1 - i ≤ l.length ∧ i + 1 ≤ (rawGo cnt l i acc).2.1 ∧ rawGo cnt (l.take ((rawGo cnt l i acc).2.1 - i)) i acc = rawGo cnt l i acc := by
  intro l
  induction l with
  | nil => intro i acc h; simp [rawGo] at h
  | cons c r ih =>
    intro i acc h
    by_cases h1 : i + 1 = cnt ∧ 128 ≤ c.toNat
    · rw [rawGo, if_pos h1] at h; simp at h
    · by_cases h2 : c.toNat < 128
      · have e : rawGo cnt (c :: r) i acc = (acc ||| (c.toNat % 128 * 2 ^ (7 * i) % 2 ^ 64), i + 1, c.toNat, 0) := by rw [rawGo, if_neg h1, if_pos h2]
        rw [e]
        refine ⟨by simp, Nat.le_refl _, ?_⟩
        show rawGo cnt ((c :: r).take (i + 1 - i)) i acc = _
        rw [show i + 1 - i = 0 + 1 from by omega, List.take_succ_cons, rawGo, if_neg h1, if_pos h2]
      · have e : ∀ r', rawGo cnt (c :: r') i acc = rawGo cnt r' (i + 1) (acc ||| (c.toNat % 128 * 2 ^ (7 * i) % 2 ^ 64)) := fun r' => by rw [rawGo, if_neg h1, if_neg h2]
        rw [e] at h ⊢
        obtain ⟨a, b, d⟩ := ih _ _ h
        refine ⟨by rw [List.length_cons]; omega, by omega, ?_⟩
        obtain ⟨m, hm⟩ : ∃ m, (rawGo cnt r (i + 1) (acc ||| (c.toNat % 128 * 2 ^ (7 * i) % 2 ^ 64))).2.1 - i = m + 1 := ⟨(rawGo cnt r (i + 1) (acc ||| (c.toNat % 128 * 2 ^ (7 * i) % 2 ^ 64))).2.1 - i - 1, by omega⟩
        rw [hm, List.take_succ_cons, e]
        rw [show (rawGo cnt r (i + 1) (acc ||| (c.toNat % 128 * 2 ^ (7 * i) % 2 ^ 64))).2.1 - (i + 1) = m from by omega] at d
        exact d
theorem rawGo_ten (cnt : Nat) : ∀ (l : List UInt8) (i acc : Nat), i < cnt → cnt ≤ i + l.length → (rawGo cnt l i acc).2.2.2 ≠ 3 := by
  intro l
  induction l with
  | nil => intro i acc h h2; simp at h2; omega
  | cons c r ih =>
    intro i acc h h2
    unfold rawGo
    split
    · simp
    · split
      · simp
      · rename_i h1 h3
        exact ih _ _ (by have : i + 1 ≠ cnt := fun e => h1 ⟨e, by omega⟩; omega) (by rw [List.length_cons] at h2; omega)

theorem rawL_prefix (l : List UInt8) (k : Nat) (n : Int) (h : (rawL (l.take k) n).2.2.2 ≠ 3) : rawL l n = rawL (l.take k) n := by
  unfold rawL at h ⊢
  split
  · rfl
  · rename_i h1
    rw [if_neg h1] at h
    exact rawGo_prefix _ _ _ _ _ h
theorem rawL_self (l : List UInt8) (n : Int) (h : (rawL l n).2.2.2 = 0) : (rawL l n).2.1 ≤ l.length ∧ 1 ≤ (rawL l n).2.1 ∧ rawL (l.take (rawL l n).2.1) n = rawL l n := by
  unfold rawL at h ⊢
  split
  · rename_i h1; rw [if_pos h1] at h; simp at h
  · rename_i h1
    rw [if_neg h1] at h
    exact rawGo_self _ _ _ _ h
theorem rawL_ten (l : List UInt8) (n : Int) (h : 10 ≤ l.length) : (rawL l n).2.2.2 ≠ 3 := by
  unfold rawL
  split
  · simp
  · exact rawGo_ten _ _ _ _ (by unfold cntN; omega) (by unfold cntN; omega)

/-- how a number is read out of bytes: what it answers (of whatever kind), how many bytes it has, the error -/
structure IsNum {V : Type} (res : List UInt8 → V × Nat × Nat) : Prop where
  pre : ∀ l k, (res (l.take k)).2.2 ≠ 3 → res l = res (l.take k)
  self : ∀ l, (res l).2.2 = 0 → (res l).2.1 ≤ l.length ∧ 1 ≤ (res l).2.1 ∧ res (l.take (res l).2.1) = res l
  ten : ∀ l : List UInt8, 10 ≤ l.length → (res l).2.2 ≠ 3
  none_ : ∀ l, (res l).2.2 ≠ 0 → (res l).2.1 = 0
  le : ∀ l, (res l).2.2 ≤ 4

theorem unsignedL_form (l : List UInt8) (n : Int) : ((rawL l n).2.2.2 ≠ 0 ∧ unsignedL l n = (0, 0, (rawL l n).2.2.2)) ∨ ((rawL l n).2.2.2 = 0 ∧ (unsignedL l n = (0, 0, 4) ∨ ∃ o, unsignedL l n = (o, (rawL l n).2.1, 0))) := by
  unfold unsignedL
  simp only
  split
  · rename_i h; exact .inl ⟨h, rfl⟩
  · rename_i h
    refine .inr ⟨by omega, ?_⟩
    split
    · exact .inl rfl
    · exact .inr ⟨_, rfl⟩
theorem signedL_form (l : List UInt8) (n : Int) : ((rawL l n).2.2.2 ≠ 0 ∧ signedL l n = (0, 0, (rawL l n).2.2.2)) ∨ ((rawL l n).2.2.2 = 0 ∧ (signedL l n = (0, 0, 4) ∨ ∃ o, signedL l n = (o, (rawL l n).2.1, 0))) := by
  unfold signedL
  by_cases h : (rawL l n).2.2.2 = 0
  · refine .inr ⟨h, ?_⟩
    simp only [h, ne_eq, not_true_eq_false, if_false]
    generalize extendL (rawL l n).1 (min (7 * (rawL l n).2.1) n.toNat) = out
    generalize beyondL (rawL l n).2.2.1 (rawL l n).2.1 n.toNat = y
    by_cases hc : 0 < y.2 ∧ ¬ y.1 = (if out < 0 then 2 ^ y.2 - 1 else 0)
    · rw [if_pos hc]; exact .inl rfl
    · rw [if_neg hc]; exact .inr ⟨_, rfl⟩
  · refine .inl ⟨h, ?_⟩
    simp only [ne_eq, h, not_false_eq_true, if_true]
theorem unsignedL_of (l l' : List UInt8) (n : Int) (h : rawL l n = rawL l' n) : unsignedL l n = unsignedL l' n := by unfold unsignedL; rw [h]
theorem signedL_of (l l' : List UInt8) (n : Int) (h : rawL l n = rawL l' n) : signedL l n = signedL l' n := by unfold signedL; rw [h]
theorem rawL_le (l : List UInt8) (n : Int) : (rawL l n).2.2.2 ≤ 4 := by
  rcases rawL_cases l n with ⟨v, s, c, h, _⟩ | ⟨e, h, he⟩
  · rw [h]; show 0 ≤ 4; omega
  · rw [h]; show e ≤ 4; omega
theorem num_of {V : Type} (n : Int) (z : V) (res : List UInt8 → V × Nat × Nat)
    (hf : ∀ l, ((rawL l n).2.2.2 ≠ 0 ∧ res l = (z, 0, (rawL l n).2.2.2)) ∨ ((rawL l n).2.2.2 = 0 ∧ (res l = (z, 0, 4) ∨ ∃ o, res l = (o, (rawL l n).2.1, 0))))
    (ho : ∀ l l', rawL l n = rawL l' n → res l = res l') : IsNum res where
  pre := fun l k h => ho _ _ (rawL_prefix l k n fun hh => h (by
    rcases hf (l.take k) with ⟨a, b⟩ | ⟨a, _⟩
    · rw [b]; exact hh
    · omega))
  self := fun l h => by
    rcases hf l with ⟨a, b⟩ | ⟨a, b | ⟨o, b⟩⟩
    · rw [b] at h; exact absurd h a
    · rw [b] at h; cases h
    · obtain ⟨c, d, e⟩ := rawL_self l n a
      have e' := ho _ _ e
      rw [b] at e' ⊢
      exact ⟨c, d, e'⟩
  ten := fun l h hh => rawL_ten l n h (by
    rcases hf l with ⟨a, b⟩ | ⟨a, b | ⟨o, b⟩⟩
    · rw [b] at hh; exact hh
    · rw [b] at hh; cases hh
    · rw [b] at hh; cases hh)
  none_ := fun l h => by
    rcases hf l with ⟨a, b⟩ | ⟨a, b | ⟨o, b⟩⟩
    · rw [b]
    · rw [b]
    · rw [b] at h; exact absurd rfl h
  le := fun l => by
    rcases hf l with ⟨a, b⟩ | ⟨a, b | ⟨o, b⟩⟩
    · rw [b]; exact rawL_le l n
    · rw [b]; exact Nat.le_refl _
    · rw [b]; exact Nat.zero_le _
theorem unsigned_num (n : Int) : IsNum (fun l => unsignedL l n) := num_of n 0 _ (fun l => unsignedL_form l n) (fun l l' h => unsignedL_of l l' n h)
theorem signed_num (n : Int) : IsNum (fun l => signedL l n) := num_of n 0 _ (fun l => signedL_form l n) (fun l l' h => signedL_of l l' n h)

/-- the read ends at k bytes: what all bytes tell is what these do -/
theorem IsNum.done {V : Type} {res : List UInt8 → V × Nat × Nat} (h : IsNum res) {l : List UInt8} {k : Nat} (hk : k ≤ l.length) (hbef : ∀ j, j < k → (res (l.take j)).2.2 = 3) (he : (res (l.take k)).2.2 ≠ 3) :
    res l = res (l.take k) ∧ ((res l).2.2 = 0 → (res l).2.1 = k) := by
  have e := h.pre l k he
  refine ⟨e, fun h0 => ?_⟩
  obtain ⟨a, b, c⟩ := h.self (l.take k) (by rw [← e]; exact h0)
  rw [List.length_take] at a
  rw [e]
  rw [e] at h0
  apply Decidable.byContradiction
  intro hne
  have := hbef (res (l.take k)).2.1 (by omega)
  rw [List.take_take, Nat.min_eq_left (by omega)] at c
  rw [c, h0] at this
  cases this
end Go.Proofs.YtpanlhbdphobdaaGreatDoor
