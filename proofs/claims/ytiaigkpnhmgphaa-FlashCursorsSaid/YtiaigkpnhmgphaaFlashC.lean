/-
  flash: reads that fail; Take: contracts.
-/
import Derived.Test.YtiaigkpnhmgphaaFlashB
import Derived.Deep.RegionHeld3
namespace Go.Proofs.Ytiaigkpnhmgphaa
open Go.RowKit
set_option linter.unusedVariables false

def FaultPost (w : World) (f c : Nat) (A : Option Addr) (bs : List UInt8) (r fl : Int) (e : Ending) (w' : World) : Prop :=
  e = .returned (.tuple #[.slice none 0 0, .int .i64 9]) ∧ Hid (FL w' f A c bs (r + 1) fl) ∧ Hid (Only [f] w w')

set_option maxHeartbeats 800000 in
set_option maxRecDepth 100000 in
theorem bytes_fault (f c : Nat) (A : Option Addr) (bs : List UInt8) (r fl a n : Int) (w : World) (hf : Hid (FL w f A c bs r fl)) (hr1 : 0 ≤ r) (hr2 : r ≤ 1000000) (hl : bs.length ≤ 65536)
    (h1 : 0 ≤ a) (h2 : 0 ≤ n) (h3 : a + n ≤ (bs.length : Int)) (h4 : 0 ≤ fl) (h5 : fl ≤ r) :
    Calls Try.prog 30 #[.pointer (some ⟨f, 0, none⟩), .int .i64 a, .int .i64 n] w (FaultPost w f c A bs r fl) := by
  have c0 := cell_blk hf.out.blk 0
  simp at c0
  have hf1 := hide (hf.out.bump (r + 1))
  have d2 := cell_blk hf1.out.blk 2
  simp at d2
  have hadd := add_any f c A bs r fl w hf hr1 hr2
  have HA := hide hadd; clear hadd
  go_enter Try.func30, Try.ntmps30
  go_wp2_with fail
  refine HA.out.mono ?_; rintro e w1 ⟨rfl, rfl⟩
  go_wp2_with fail
  go_ret2
  exact ⟨rfl, hf1, Only.setCell (S := [f]) w (p := ⟨f, 1, none⟩) (by simp) _⟩

set_option maxHeartbeats 800000 in
set_option maxRecDepth 100000 in
theorem read_of (f c : Nat) (a n : Int) (w : World) (R : Ending → World → Prop)
    (h : Calls Try.prog 30 #[.pointer (some ⟨f, 0, none⟩), .int .i64 a, .int .i64 n] (w.alloc (.cells #[.pointer (some ⟨f, 0, none⟩)] 65)) (fun e w' => ∃ u v, e = .returned (.tuple #[u, v]) ∧ R (.returned (.tuple #[u, v])) w')) :
    Calls Try.prog 26 #[.agg #[.pointer (some ⟨f, 0, none⟩)], .int .i64 a, .int .i64 n] w R := by
  have H := hide h; clear h
  go_enter Try.func26, Try.ntmps26
  go_wp2_with fail
  refine H.out.mono ?_; rintro e w1 ⟨u, v, rfl, hR⟩
  have HR := hide hR; clear hR
  go_wp2_with fail
  exact HR.out

theorem read_ok (f c : Nat) (A : Option Addr) (bs : List UInt8) (r fl a n : Int) (w : World) (hf : Hid (FL w f A c bs r fl)) (hr1 : 0 ≤ r) (hr2 : r ≤ 1000000) (hl : bs.length ≤ 65536)
    (h1 : 0 ≤ a) (h2 : 0 ≤ n) (h3 : a + n ≤ (bs.length : Int)) (h4 : fl < 0 ∨ r < fl) :
    Calls Try.prog 26 #[.agg #[.pointer (some ⟨f, 0, none⟩)], .int .i64 a, .int .i64 n] w (BytesPost w f c A bs r fl (partB bs a n)) := by
  refine read_of f c a n w _ ?_
  have ho := Only.alloc [] w (.cells #[.pointer (some ⟨f, 0, none⟩)] 65)
  refine (bytes_ok f c A bs r fl a n _ (hf.out.keep ho (by simp) (by simp)) hr1 hr2 hl h1 h2 h3 h4).mono ?_
  rintro e w' ⟨A1, c1, rfl, k1, k2, k3⟩
  exact ⟨_, _, rfl, A1, c1, rfl, own_base k1.out (fun g hg => by have := own_ge k1.out g hg; simp at this; omega), k2, (Only.alloc [f] w _).trans k3.out⟩
theorem read_fault (f c : Nat) (A : Option Addr) (bs : List UInt8) (r fl a n : Int) (w : World) (hf : Hid (FL w f A c bs r fl)) (hr1 : 0 ≤ r) (hr2 : r ≤ 1000000) (hl : bs.length ≤ 65536)
    (h1 : 0 ≤ a) (h2 : 0 ≤ n) (h3 : a + n ≤ (bs.length : Int)) (h4 : 0 ≤ fl) (h5 : fl ≤ r) :
    Calls Try.prog 26 #[.agg #[.pointer (some ⟨f, 0, none⟩)], .int .i64 a, .int .i64 n] w (FaultPost w f c A bs r fl) := by
  refine read_of f c a n w _ ?_
  have ho := Only.alloc [] w (.cells #[.pointer (some ⟨f, 0, none⟩)] 65)
  refine (bytes_fault f c A bs r fl a n _ (hf.out.keep ho (by simp) (by simp)) hr1 hr2 hl h1 h2 h3 h4 h5).mono ?_
  rintro e w' ⟨rfl, k2, k3⟩
  exact ⟨_, _, rfl, rfl, k2, (Only.alloc [f] w _).trans k3.out⟩

/-- why so many bytes can't be taken -/
def wrongL (n left : Int) : Int := if n < 0 then 1 else if left < n then 3 else 0

set_option maxHeartbeats 400000 in
theorem wrong_any (g f : Nat) (fr to at_ n : Int) (w : World) (hc : Hid (CU w g f fr to at_)) (h1 : 0 ≤ at_) (h2 : at_ ≤ to) (h3 : to ≤ 1000000) :
    Calls Try.prog 25 #[.pointer (some ⟨g, 0, none⟩), .int .i64 n] w fun e w' => e = .returned (.int .i64 (wrongL n (to - at_))) ∧ ∃ n, w' = w.drewN n := by
  by_cases hn : n < 0
  · have hw : Hid (wrongL n (to - at_) = 1) := by show _ = _; unfold wrongL; rw [if_pos hn]
    go_enter Try.func25, Try.ntmps25
    go_wp2_with fail
    go_ret
    exact ⟨by rw [hw.out]; rfl, 0, rfl⟩
  · by_cases hl : to - at_ < n
    · have hw : Hid (wrongL n (to - at_) = 3) := by show _ = _; unfold wrongL; rw [if_neg hn, if_pos hl]
      go_enter Try.func25, Try.ntmps25
      go_wp2_with fail
      refine (left_any g f fr to at_ w hc h1 h2 h3).mono ?_; rintro e w' ⟨rfl, d, rfl⟩
      go_wp2_with fail
      go_ret
      exact ⟨by rw [hw.out]; rfl, d, rfl⟩
    · have hw : Hid (wrongL n (to - at_) = 0) := by show _ = _; unfold wrongL; rw [if_neg hn, if_neg hl]
      go_enter Try.func25, Try.ntmps25
      go_wp2_with fail
      refine (left_any g f fr to at_ w hc h1 h2 h3).mono ?_; rintro e w' ⟨rfl, d, rfl⟩
      go_wp2_with fail
      go_ret
      exact ⟨by rw [hw.out]; rfl, d, rfl⟩

/-- what a cursor's Take leaves: the bytes; the flash has been read once more; the cursor stands behind them -/
def TakePost (w : World) (g f c : Nat) (A : Option Addr) (bs : List UInt8) (r fl fr to at_ n : Int) (e : Ending) (w' : World) : Prop :=
  ∃ A1 c1, e = .returned (.tuple #[.slice A1 (partB bs at_ n).length c1, .int .i64 0]) ∧ Hid (OwnB w' w.heap.size (.slice A1 (partB bs at_ n).length c1) (partB bs at_ n)) ∧ Hid (FL w' f A c bs (r + 1) fl) ∧ Hid (CU w' g f fr to (at_ + n)) ∧ Hid (Only [f, g] w w')

theorem cu_ne {w : World} {g f : Nat} {a b d : Int} (hc : CU w g f a b d) : g ≠ f := by have := hc.lt; omega

set_option maxHeartbeats 800000 in
set_option maxRecDepth 100000 in
theorem take_ok (g f c : Nat) (A : Option Addr) (bs : List UInt8) (r fl fr to at_ n : Int) (w : World) (hf : Hid (FL w f A c bs r fl)) (hc : Hid (CU w g f fr to at_)) (hr1 : 0 ≤ r) (hr2 : r ≤ 1000000) (hl : bs.length ≤ 65536)
    (h1 : 0 ≤ at_) (h2 : 0 ≤ n) (h3 : n ≤ to - at_) (h4 : to ≤ (bs.length : Int)) (h5 : fl < 0 ∨ r < fl) :
    Calls Try.prog 12 #[.pointer (some ⟨g, 0, none⟩), .int .i64 n] w (TakePost w g f c A bs r fl fr to at_ n) := by
  have hw : wrongL n (to - at_) = 0 := by unfold wrongL; rw [if_neg (by omega), if_neg (by omega)]
  have hwr := wrong_any g f fr to at_ n w hc h1 (by omega) (by omega)
  rw [hw] at hwr
  have HW := hide hwr; clear hwr hw
  have hne := cu_ne hc.out
  have HNE := hide hne; clear hne
  go_enter Try.func12, Try.ntmps12
  go_wp2_with fail
  refine HW.out.mono ?_; rintro e w1 ⟨rfl, d, rfl⟩
  obtain ⟨w1, hw1⟩ : ∃ w1, w.drewN d = w1 := ⟨_, rfl⟩
  have hf1 : Hid (FL w1 f A c bs r fl) := by rw [← hw1]; exact ⟨hf.out.blk, hf.out.row.drewN d, hf.out.cap⟩
  have hc1 : Hid (CU w1 g f fr to at_) := by rw [← hw1]; exact ⟨hc.out.blk, hc.out.lt⟩
  have ho1 : Hid (Only [f, g] w w1) := by rw [← hw1]; exact ⟨rfl, rfl, rfl, Nat.le_refl _, fun _ _ _ => rfl⟩
  rw [hw1]
  clear hw1
  have c0 := cell_blk hc1.out.blk 0
  have c3 := cell_blk hc1.out.blk 3
  simp at c0 c3
  have hfd : Hid (FL w1.drew f A c bs r fl) := ⟨hf1.out.blk, hf1.out.row.drew, hf1.out.cap⟩
  go_wp2_with fail
  go_region_held3 (fun W => W.cell? ⟨g, 0, none⟩ = some (.pointer (some ⟨f, 0, none⟩)) ∧ W.cell? ⟨g, 3, none⟩ = some (.int .i64 at_))
    (first | exact ⟨c0, c3⟩ | exact ⟨d0, d3⟩)
    ((first | (go_at_call 26; refine (read_ok f c A bs r fl at_ n _ hfd hr1 hr2 hl h1 h2 (by omega) h5).mono ?_; rintro e w2 ⟨A1, c1, rfl, k1, k2, k3⟩; have hc2 := hide (hc1.out.keep ((Only.drew [f] w1).trans k3.out) (by simpa using HNE.out)); have d0 := cell_blk hc2.out.blk 0; have d3 := cell_blk hc2.out.blk 3; simp at d0 d3)))
  have z3 := frozen_blk hc2.out.blk 3
  have hb1 : at_ + n ≤ 1000000 := by omega
  go_wp2_with fail
  go_ret2
  have hlt := blk_lt hc1.out.blk
  have hsz := ho1.out.size
  have hs : Only [g] w2 (w2.setCell ⟨g, 3, none⟩ (.int .i64 (at_ + n))) := Only.setCell w2 (p := ⟨g, 3, none⟩) (by simp) _
  have hg := blk_lt hc.out.blk
  have hfg := hc.out.lt
  have o2 := own_only k1.out hs (by simp; omega)
  refine ⟨A1, c1, rfl, own_base o2 (fun x hx => by have := own_ge o2 x hx; simp at this; omega), k2.out.keep hs (by simpa using Ne.symm HNE.out) (by simp; omega), hc2.out.move _, ?_⟩
  exact ho1.out.trans ((Only.drew [f, g] w1).trans ((k3.out.more (by simp)).trans (hs.more (by simp))))
end Go.Proofs.Ytiaigkpnhmgphaa
