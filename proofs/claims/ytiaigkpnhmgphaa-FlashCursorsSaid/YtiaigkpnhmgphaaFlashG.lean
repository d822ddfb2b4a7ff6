/-
  flash: reads by a cursor that fail; FailAt, Go, Byte: contracts.
-/
import Derived.Test.YtiaigkpnhmgphaaFlashF
namespace Go.Proofs.Ytiaigkpnhmgphaa
open Go.RowKit
set_option linter.unusedVariables false

/-- what a cursor's read that fails leaves: the flash has been read once more -/
def FailPost (w : World) (g f c : Nat) (A : Option Addr) (bs : List UInt8) (r fl fr to at_ : Int) (out : Value) (e : Ending) (w' : World) : Prop :=
  e = .returned (.tuple #[out, .int .i64 9]) ∧ Hid (FL w' f A c bs (r + 1) fl) ∧ Hid (CU w' g f fr to at_) ∧ Hid (Only [f] w w')

set_option maxHeartbeats 800000 in
set_option maxRecDepth 100000 in
theorem take_fault (g f c : Nat) (A : Option Addr) (bs : List UInt8) (r fl fr to at_ n : Int) (w : World) (hf : Hid (FL w f A c bs r fl)) (hc : Hid (CU w g f fr to at_)) (hr1 : 0 ≤ r) (hr2 : r ≤ 1000000) (hl : bs.length ≤ 65536)
    (h1 : 0 ≤ at_) (h2 : 0 ≤ n) (h3 : n ≤ to - at_) (h4 : to ≤ (bs.length : Int)) (h5 : 0 ≤ fl) (h6 : fl ≤ r) :
    Calls Try.prog 12 #[.pointer (some ⟨g, 0, none⟩), .int .i64 n] w (FailPost w g f c A bs r fl fr to at_ (.slice none 0 0)) := by
  have hw : wrongL n (to - at_) = 0 := by unfold wrongL; rw [if_neg (by omega), if_neg (by omega)]
  have hwr := wrong_any g f fr to at_ n w hc h1 (by omega) (by omega)
  rw [hw] at hwr
  have HW := hide hwr; clear hwr hw
  have hne := cu_ne hc.out
  have HNE := hide hne; clear hne
  go_enter Try.func12, Try.ntmps12
  go_wp2_with fail
  refine HW.out.mono ?_; rintro e w1 ⟨rfl, d, rfl⟩
  obtain ⟨w1, hw1⟩ : ∃ w1, w.drewN d = w1 := ⟨_, rfl⟩
  have hf1 : Hid (FL w1 f A c bs r fl) := by rw [← hw1]; exact ⟨hf.out.blk, hf.out.row.drewN d, hf.out.cap⟩
  have hc1 : Hid (CU w1 g f fr to at_) := by rw [← hw1]; exact ⟨hc.out.blk, hc.out.lt⟩
  have ho1 : Hid (Only [f] w w1) := by rw [← hw1]; exact ⟨rfl, rfl, rfl, Nat.le_refl _, fun _ _ _ => rfl⟩
  rw [hw1]
  clear hw1
  have c0 := cell_blk hc1.out.blk 0
  have c3 := cell_blk hc1.out.blk 3
  simp at c0 c3
  have hfd : Hid (FL w1.drew f A c bs r fl) := ⟨hf1.out.blk, hf1.out.row.drew, hf1.out.cap⟩
  go_wp2_with fail
  go_region_held3 (fun W => W.cell? ⟨g, 0, none⟩ = some (.pointer (some ⟨f, 0, none⟩)) ∧ W.cell? ⟨g, 3, none⟩ = some (.int .i64 at_))
    (first | exact ⟨c0, c3⟩ | exact ⟨d0, d3⟩)
    ((first | (go_at_call 26; refine (read_fault f c A bs r fl at_ n _ hfd hr1 hr2 hl h1 h2 (by omega) h5 h6).mono ?_; rintro e w2 ⟨rfl, k2, k3⟩; have hc2 := hide (hc1.out.keep ((Only.drew [f] w1).trans k3.out) (by simpa using HNE.out)); have d0 := cell_blk hc2.out.blk 0; have d3 := cell_blk hc2.out.blk 3; simp at d0 d3)))
  go_wp2_with fail
  go_ret2
  exact ⟨rfl, k2, hc2, ho1.out.trans ((Only.drew [f] w1).trans k3.out)⟩

set_option maxHeartbeats 400000 in
theorem byte_fault (g f c : Nat) (A : Option Addr) (bs : List UInt8) (r fl fr to at_ : Int) (w : World) (hf : Hid (FL w f A c bs r fl)) (hc : Hid (CU w g f fr to at_)) (hr1 : 0 ≤ r) (hr2 : r ≤ 1000000) (hl : bs.length ≤ 65536)
    (h1 : 0 ≤ at_) (h3 : at_ < to) (h4 : to ≤ (bs.length : Int)) (h5 : 0 ≤ fl) (h6 : fl ≤ r) :
    Calls Try.prog 13 #[.pointer (some ⟨g, 0, none⟩)] w (FailPost w g f c A bs r fl fr to at_ (.int .u8 0)) := by
  have ht := take_fault g f c A bs r fl fr to at_ 1 w hf hc hr1 hr2 hl h1 (by omega) (by omega) h4 h5 h6
  have HT := hide ht; clear ht
  go_enter Try.func13, Try.ntmps13
  go_wp2_with fail
  refine HT.out.mono ?_; rintro e w1 ⟨rfl, k2, k3, k4⟩
  go_wp2_with fail
  go_ret2
  exact ⟨rfl, k2, k3, k4⟩

set_option maxHeartbeats 400000 in
theorem bytes_range (f c : Nat) (A : Option Addr) (bs : List UInt8) (r fl a n : Int) (w : World) (hf : Hid (FL w f A c bs r fl)) (hl : bs.length ≤ 65536)
    (h1 : 0 ≤ a) (h2 : 0 ≤ n) (h3 : a ≤ bs.length) (h4 : (bs.length : Int) - a < n) :
    Calls Try.prog 30 #[.pointer (some ⟨f, 0, none⟩), .int .i64 a, .int .i64 n] w fun e w' => e = .returned (.tuple #[.slice none 0 0, .int .i64 2]) ∧ Hid (Only [f] w w') := by
  have c0 := cell_blk hf.out.blk 0
  simp at c0
  go_enter Try.func30, Try.ntmps30
  go_wp2_with fail
  go_ret2
  exact ⟨rfl, ⟨rfl, rfl, rfl, Nat.le_refl _, fun _ _ _ => rfl⟩⟩

set_option maxHeartbeats 400000 in
theorem fbyte_none (f c : Nat) (A : Option Addr) (bs : List UInt8) (r fl : Int) (w : World) (hf : Hid (FL w f A c bs r fl)) (hr1 : 0 ≤ r) (hr2 : r ≤ 1000000) (hl : bs.length ≤ 65536) (h5 : 0 ≤ fl) (h6 : fl ≤ r) :
    Calls Try.prog 17 #[.pointer (some ⟨f, 0, none⟩), .int .i64 0] w fun e w' => ∃ x, e = .returned (.tuple #[.int .u8 0, .int .i64 x]) ∧ Hid (Only [f] w w') ∧ (bs.length = 0 ∨ x = 9) := by
  by_cases h0 : bs.length = 0
  · have hb := bytes_range f c A bs r fl 0 1 w hf hl (by omega) (by omega) (by omega) (by omega)
    have HB := hide hb; clear hb
    have H0 := hide h0; clear h0
    go_enter Try.func17, Try.ntmps17
    go_wp2_with fail
    refine HB.out.mono ?_; rintro e w1 ⟨rfl, k4⟩
    go_wp2_with fail
    go_ret2
    exact ⟨2, rfl, k4, .inl H0.out⟩
  · have hb := bytes_fault f c A bs r fl 0 1 w hf hr1 hr2 hl (by omega) (by omega) (by omega) h5 h6
    have HB := hide hb; clear hb h0
    go_enter Try.func17, Try.ntmps17
    go_wp2_with fail
    refine HB.out.mono ?_; rintro e w1 ⟨rfl, k2, k4⟩
    go_wp2_with fail
    go_ret2
    exact ⟨9, rfl, k4, .inr rfl⟩

set_option maxHeartbeats 400000 in
theorem failAt_any (f c : Nat) (A : Option Addr) (bs : List UInt8) (r fl n : Int) (w : World) (hf : Hid (FL w f A c bs r fl)) :
    Calls Try.prog 14 #[.pointer (some ⟨f, 0, none⟩), .int .i64 n] w fun e w' => e = .returned (.tuple #[]) ∧ Hid (FL w' f A c bs r n) ∧ Hid (Only [f] w w') := by
  have c2 := cell_blk hf.out.blk 2
  simp at c2
  have z2 := frozen_blk hf.out.blk 2
  go_enter Try.func14, Try.ntmps14
  go_wp2_with fail
  go_end0
  exact ⟨rfl, hf.out.failAt n, Only.setCell (S := [f]) w (p := ⟨f, 2, none⟩) (by simp) _⟩

def goL (n fr to : Int) : Bool := decide (fr ≤ n) && decide (n ≤ to)
set_option maxHeartbeats 400000 in
theorem go_ok (g f : Nat) (fr to at_ n : Int) (w : World) (hc : Hid (CU w g f fr to at_)) (h1 : fr ≤ n) (h2 : n ≤ to) :
    Calls Try.prog 19 #[.pointer (some ⟨g, 0, none⟩), .int .i64 n] w fun e w' => e = .returned (.int .i64 0) ∧ Hid (CU w' g f fr to n) ∧ Hid (Only [g] w w') := by
  have c1 := cell_blk hc.out.blk 1
  have c2 := cell_blk hc.out.blk 2
  have c3 := cell_blk hc.out.blk 3
  simp at c1 c2 c3
  have z3 := frozen_blk hc.out.blk 3
  go_enter Try.func19, Try.ntmps19
  go_wp2_with fail
  go_ret
  exact ⟨rfl, hc.out.move n, Only.setCell (S := [g]) w (p := ⟨g, 3, none⟩) (by simp) _⟩
set_option maxHeartbeats 400000 in
theorem go_no (g f : Nat) (fr to at_ n : Int) (w : World) (hc : Hid (CU w g f fr to at_)) (h1 : n < fr ∨ to < n) :
    Calls Try.prog 19 #[.pointer (some ⟨g, 0, none⟩), .int .i64 n] w fun e w' => e = .returned (.int .i64 2) ∧ w = w' := by
  have c1 := cell_blk hc.out.blk 1
  have c2 := cell_blk hc.out.blk 2
  simp at c1 c2
  by_cases hn : n < fr
  · clear h1
    go_enter Try.func19, Try.ntmps19
    go_wp2_with fail
    go_ret
    exact ⟨rfl, rfl⟩
  · have h2 : to < n := by omega
    clear h1
    go_enter Try.func19, Try.ntmps19
    go_wp2_with fail
    go_ret
    exact ⟨rfl, rfl⟩
set_option maxHeartbeats 400000 in
theorem cursor_no (f c : Nat) (A : Option Addr) (bs : List UInt8) (r fl a b : Int) (w : World) (hf : Hid (FL w f A c bs r fl)) (h1 : a < 0 ∨ b < a ∨ (bs.length : Int) < b) :
    Calls Try.prog 9 #[.pointer (some ⟨f, 0, none⟩), .int .i64 a, .int .i64 b] w fun e w' => e = .returned (.tuple #[.pointer none, .int .i64 2]) ∧ w = w' := by
  have c0 := cell_blk hf.out.blk 0
  simp at c0
  by_cases h2 : a < 0
  · clear h1
    go_enter Try.func9, Try.ntmps9
    go_wp2_with fail
    go_ret2
    exact ⟨rfl, rfl⟩
  · by_cases h3 : b < a
    · clear h1
      go_enter Try.func9, Try.ntmps9
      go_wp2_with fail
      go_ret2
      exact ⟨rfl, rfl⟩
    · have h4 : (bs.length : Int) < b := by omega
      clear h1
      go_enter Try.func9, Try.ntmps9
      go_wp2_with fail
      go_ret2
      exact ⟨rfl, rfl⟩
end Go.Proofs.Ytiaigkpnhmgphaa
