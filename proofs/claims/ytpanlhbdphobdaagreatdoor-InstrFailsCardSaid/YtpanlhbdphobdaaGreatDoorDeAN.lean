/-
  flash: reads that fail; Take: contracts.
  flash: what a cursor can't take; a byte; a part: contracts.
  flash: how many reads; the laws' own example.
  flash: FlashParts: the law's walk.
  flash: reads by a cursor that fail; FailAt, Go, Byte: contracts.
-/
import Derived.Test.YtpanlhbdphobdaaGreatDoorDeAM
import Derived.Deep.RegionHeld3
import Derived.Test.YtpanlhbdphobdaaGreatDoorDeAL
import Derived.Test.YtpanlhbdphobdaaGreatDoorDeAE
import Derived.Test.YtpanlhbdphobdaaGreatDoorDeAI
namespace Go.Proofs.YtpanlhbdphobdaaGreatDoor
open Go.RowKit
set_option linter.unusedVariables false

def FaultPost (w : World) (f c : Nat) (A : Option Addr) (bs : List UInt8) (r fl : Int) (e : Ending) (w' : World) : Prop :=
  e = .returned (.tuple #[.slice none 0 0, .int .i64 9]) ∧ Hid (FL w' f A c bs (r + 1) fl) ∧ Hid (Only [f] w w')

set_option maxHeartbeats 800000 in
set_option maxRecDepth 100000 in
theorem bytes_fault (f c : Nat) (A : Option Addr) (bs : List UInt8) (r fl a n : Int) (w : World) (hf : Hid (FL w f A c bs r fl)) (hr1 : 0 ≤ r) (hr2 : r ≤ 1000000) (hl : bs.length ≤ 65536)
    (h1 : 0 ≤ a) (h2 : 0 ≤ n) (h3 : a + n ≤ (bs.length : Int)) (h4 : 0 ≤ fl) (h5 : fl ≤ r) :
    Calls Tryz.prog 191 #[.pointer (some ⟨f, 0, none⟩), .int .i64 a, .int .i64 n] w (FaultPost w f c A bs r fl) := by
  have c0 := cell_blk hf.out.blk 0
  simp at c0
  have hf1 := hide (hf.out.bump (r + 1))
  have d2 := cell_blk hf1.out.blk 2
  simp at d2
  have hadd := add_any f c A bs r fl w hf hr1 hr2
  have HA := hide hadd; clear hadd
  go_enter Tryz.func191, Tryz.ntmps191
  go_wp2_with fail
  refine HA.out.mono ?_; rintro e w1 ⟨rfl, rfl⟩
  go_wp2_with fail
  go_ret2
  exact ⟨rfl, hf1, Only.setCell (S := [f]) w (p := ⟨f, 1, none⟩) (by simp) _⟩

set_option maxHeartbeats 800000 in
set_option maxRecDepth 100000 in
theorem read_of (f c : Nat) (a n : Int) (w : World) (R : Ending → World → Prop)
    (h : Calls Tryz.prog 191 #[.pointer (some ⟨f, 0, none⟩), .int .i64 a, .int .i64 n] (w.alloc (.cells #[.pointer (some ⟨f, 0, none⟩)] 89)) (fun e w' => ∃ u v, e = .returned (.tuple #[u, v]) ∧ R (.returned (.tuple #[u, v])) w')) :
    Calls Tryz.prog 174 #[.agg #[.pointer (some ⟨f, 0, none⟩)], .int .i64 a, .int .i64 n] w R := by
  have H := hide h; clear h
  go_enter Tryz.func174, Tryz.ntmps174
  go_wp2_with fail
  refine H.out.mono ?_; rintro e w1 ⟨u, v, rfl, hR⟩
  have HR := hide hR; clear hR
  go_wp2_with fail
  exact HR.out

theorem read_ok (f c : Nat) (A : Option Addr) (bs : List UInt8) (r fl a n : Int) (w : World) (hf : Hid (FL w f A c bs r fl)) (hr1 : 0 ≤ r) (hr2 : r ≤ 1000000) (hl : bs.length ≤ 65536)
    (h1 : 0 ≤ a) (h2 : 0 ≤ n) (h3 : a + n ≤ (bs.length : Int)) (h4 : fl < 0 ∨ r < fl) :
    Calls Tryz.prog 174 #[.agg #[.pointer (some ⟨f, 0, none⟩)], .int .i64 a, .int .i64 n] w (BytesPost w f c A bs r fl (partB bs a n)) := by
  refine read_of f c a n w _ ?_
  have ho := Only.alloc [] w (.cells #[.pointer (some ⟨f, 0, none⟩)] 89)
  refine (bytes_ok f c A bs r fl a n _ (hf.out.keep ho (by simp) (by simp)) hr1 hr2 hl h1 h2 h3 h4).mono ?_
  rintro e w' ⟨A1, c1, rfl, k1, k2, k3⟩
  exact ⟨_, _, rfl, A1, c1, rfl, own_base k1.out (fun g hg => by have := own_ge k1.out g hg; simp at this; omega), k2, (Only.alloc [f] w _).trans k3.out⟩
theorem read_fault (f c : Nat) (A : Option Addr) (bs : List UInt8) (r fl a n : Int) (w : World) (hf : Hid (FL w f A c bs r fl)) (hr1 : 0 ≤ r) (hr2 : r ≤ 1000000) (hl : bs.length ≤ 65536)
    (h1 : 0 ≤ a) (h2 : 0 ≤ n) (h3 : a + n ≤ (bs.length : Int)) (h4 : 0 ≤ fl) (h5 : fl ≤ r) :
    Calls Tryz.prog 174 #[.agg #[.pointer (some ⟨f, 0, none⟩)], .int .i64 a, .int .i64 n] w (FaultPost w f c A bs r fl) := by
  refine read_of f c a n w _ ?_
  have ho := Only.alloc [] w (.cells #[.pointer (some ⟨f, 0, none⟩)] 89)
  refine (bytes_fault f c A bs r fl a n _ (hf.out.keep ho (by simp) (by simp)) hr1 hr2 hl h1 h2 h3 h4 h5).mono ?_
  rintro e w' ⟨rfl, k2, k3⟩
  exact ⟨_, _, rfl, rfl, k2, (Only.alloc [f] w _).trans k3.out⟩

/-- why so many bytes can't be taken -/
def wrongL (n left : Int) : Int := if n < 0 then 1 else if left < n then 3 else 0

set_option maxHeartbeats 400000 in
theorem wrong_any (g f : Nat) (fr tu at_ n : Int) (w : World) (hc : Hid (CU w g f fr tu at_)) (h1 : 0 ≤ at_) (h2 : at_ ≤ tu) (h3 : tu ≤ 1000000) :
    Calls Tryz.prog 173 #[.pointer (some ⟨g, 0, none⟩), .int .i64 n] w fun e w' => e = .returned (.int .i64 (wrongL n (tu - at_))) ∧ ∃ n, w' = w.drewN n := by
  by_cases hn : n < 0
  · have hw : Hid (wrongL n (tu - at_) = 1) := by show _ = _; unfold wrongL; rw [if_pos hn]
    go_enter Tryz.func173, Tryz.ntmps173
    go_wp2_with fail
    go_ret
    exact ⟨by rw [hw.out]; rfl, 0, rfl⟩
  · by_cases hl : tu - at_ < n
    · have hw : Hid (wrongL n (tu - at_) = 3) := by show _ = _; unfold wrongL; rw [if_neg hn, if_pos hl]
      go_enter Tryz.func173, Tryz.ntmps173
      go_wp2_with fail
      refine (left_any g f fr tu at_ w hc h1 h2 h3).mono ?_; rintro e w' ⟨rfl, d, rfl⟩
      go_wp2_with fail
      go_ret
      exact ⟨by rw [hw.out]; rfl, d, rfl⟩
    · have hw : Hid (wrongL n (tu - at_) = 0) := by show _ = _; unfold wrongL; rw [if_neg hn, if_neg hl]
      go_enter Tryz.func173, Tryz.ntmps173
      go_wp2_with fail
      refine (left_any g f fr tu at_ w hc h1 h2 h3).mono ?_; rintro e w' ⟨rfl, d, rfl⟩
      go_wp2_with fail
      go_ret
      exact ⟨by rw [hw.out]; rfl, d, rfl⟩

/-- what a cursor's Take leaves: the bytes; the flash has been read once more; the cursor stands behind them -/
def TakePost (w : World) (g f c : Nat) (A : Option Addr) (bs : List UInt8) (r fl fr tu at_ n : Int) (e : Ending) (w' : World) : Prop :=
  ∃ A1 c1, e = .returned (.tuple #[.slice A1 (partB bs at_ n).length c1, .int .i64 0]) ∧ Hid (OwnB w' w.heap.size (.slice A1 (partB bs at_ n).length c1) (partB bs at_ n)) ∧ Hid (FL w' f A c bs (r + 1) fl) ∧ Hid (CU w' g f fr tu (at_ + n)) ∧ Hid (Only [f, g] w w')

theorem cu_ne {w : World} {g f : Nat} {a b d : Int} (hc : CU w g f a b d) : g ≠ f := by have := hc.lt; omega

set_option maxHeartbeats 800000 in
set_option maxRecDepth 100000 in
theorem take_ok (g f c : Nat) (A : Option Addr) (bs : List UInt8) (r fl fr tu at_ n : Int) (w : World) (hf : Hid (FL w f A c bs r fl)) (hc : Hid (CU w g f fr tu at_)) (hr1 : 0 ≤ r) (hr2 : r ≤ 1000000) (hl : bs.length ≤ 65536)
    (h1 : 0 ≤ at_) (h2 : 0 ≤ n) (h3 : n ≤ tu - at_) (h4 : tu ≤ (bs.length : Int)) (h5 : fl < 0 ∨ r < fl) :
    Calls Tryz.prog 145 #[.pointer (some ⟨g, 0, none⟩), .int .i64 n] w (TakePost w g f c A bs r fl fr tu at_ n) := by
  have hw : wrongL n (tu - at_) = 0 := by unfold wrongL; rw [if_neg (by omega), if_neg (by omega)]
  have hwr := wrong_any g f fr tu at_ n w hc h1 (by omega) (by omega)
  rw [hw] at hwr
  have HW := hide hwr; clear hwr hw
  have hne := cu_ne hc.out
  have HNE := hide hne; clear hne
  go_enter Tryz.func145, Tryz.ntmps145
  go_wp2_with fail
  refine HW.out.mono ?_; rintro e w1 ⟨rfl, d, rfl⟩
  obtain ⟨w1, hw1⟩ : ∃ w1, w.drewN d = w1 := ⟨_, rfl⟩
  have hf1 : Hid (FL w1 f A c bs r fl) := by rw [← hw1]; exact ⟨hf.out.blk, hf.out.row.drewN d, hf.out.cap⟩
  have hc1 : Hid (CU w1 g f fr tu at_) := by rw [← hw1]; exact ⟨hc.out.blk, hc.out.lt⟩
  have ho1 : Hid (Only [f, g] w w1) := by rw [← hw1]; exact ⟨rfl, rfl, rfl, Nat.le_refl _, fun _ _ _ => rfl⟩
  rw [hw1]
  clear hw1
  have c0 := cell_blk hc1.out.blk 0
  have c3 := cell_blk hc1.out.blk 3
  simp at c0 c3
  have hfd : Hid (FL w1.drew f A c bs r fl) := ⟨hf1.out.blk, hf1.out.row.drew, hf1.out.cap⟩
  go_wp2_with fail
  go_region_held3 (fun W => W.cell? ⟨g, 0, none⟩ = some (.pointer (some ⟨f, 0, none⟩)) ∧ W.cell? ⟨g, 3, none⟩ = some (.int .i64 at_))
    (first | exact ⟨c0, c3⟩ | exact ⟨d0, d3⟩)
    ((first | (go_at_call 174; refine (read_ok f c A bs r fl at_ n _ hfd hr1 hr2 hl h1 h2 (by omega) h5).mono ?_; rintro e w2 ⟨A1, c1, rfl, k1, k2, k3⟩; have hc2 := hide (hc1.out.keep ((Only.drew [f] w1).trans k3.out) (by simpa using HNE.out)); have d0 := cell_blk hc2.out.blk 0; have d3 := cell_blk hc2.out.blk 3; simp at d0 d3)))
  have z3 := frozen_blk hc2.out.blk 3
  have hb1 : at_ + n ≤ 1000000 := by omega
  go_wp2_with fail
  go_ret2
  have hlt := blk_lt hc1.out.blk
  have hsz := ho1.out.size
  have hs : Only [g] w2 (w2.setCell ⟨g, 3, none⟩ (.int .i64 (at_ + n))) := Only.setCell w2 (p := ⟨g, 3, none⟩) (by simp) _
  have hg := blk_lt hc.out.blk
  have hfg := hc.out.lt
  have o2 := own_only k1.out hs (by simp; omega)
  refine ⟨A1, c1, rfl, own_base o2 (fun x hx => by have := own_ge o2 x hx; simp at this; omega), k2.out.keep hs (by simpa using Ne.symm HNE.out) (by simp; omega), hc2.out.move _, ?_⟩
  exact ho1.out.trans ((Only.drew [f, g] w1).trans ((k3.out.more (by simp)).trans (hs.more (by simp))))
end Go.Proofs.YtpanlhbdphobdaaGreatDoor

namespace Go.Proofs.YtpanlhbdphobdaaGreatDoor
open Go.RowKit
set_option linter.unusedVariables false

set_option maxHeartbeats 800000 in
set_option maxRecDepth 100000 in
theorem take_wrong (g f : Nat) (fr tu at_ n : Int) (w : World) (hc : Hid (CU w g f fr tu at_)) (h1 : 0 ≤ at_) (h2 : at_ ≤ tu) (h4 : tu ≤ 1000000) (h3 : n < 0 ∨ tu - at_ < n) :
    Calls Tryz.prog 145 #[.pointer (some ⟨g, 0, none⟩), .int .i64 n] w fun e w' => e = .returned (.tuple #[.slice none 0 0, .int .i64 (wrongL n (tu - at_))]) ∧ ∃ n, w' = w.drewN n := by
  have hwr := wrong_any g f fr tu at_ n w hc h1 h2 h4
  obtain ⟨x, hx⟩ : ∃ x, wrongL n (tu - at_) = x := ⟨_, rfl⟩
  have hx0 : 0 < x := by
    rw [← hx]; unfold wrongL; split
    · omega
    · rw [if_pos (by omega)]; omega
  rw [hx] at hwr ⊢
  have HW := hide hwr; clear hwr hx h3
  go_enter Tryz.func145, Tryz.ntmps145
  go_wp2_with fail
  refine HW.out.mono ?_; rintro e w1 ⟨rfl, d, rfl⟩
  go_wp2_with fail
  go_ret2
  exact ⟨rfl, d, rfl⟩

def BytePost (w : World) (g f c : Nat) (A : Option Addr) (bs : List UInt8) (r fl fr tu at_ : Int) (b : UInt8) (e : Ending) (w' : World) : Prop :=
  e = .returned (.tuple #[.int .u8 b.toNat, .int .i64 0]) ∧ Hid (FL w' f A c bs (r + 1) fl) ∧ Hid (CU w' g f fr tu (at_ + 1)) ∧ Hid (Only [f, g] w w')

theorem partB_one (bs : List UInt8) (a : Int) (b : UInt8) (h0 : 0 ≤ a) (h : bs[a.toNat]? = some b) : partB bs a 1 = [b] := by
  obtain ⟨hk, hv⟩ := List.getElem?_eq_some_iff.1 h
  unfold partB
  rw [List.drop_eq_getElem_cons hk, hv]
  rfl

set_option maxHeartbeats 800000 in
set_option maxRecDepth 100000 in
theorem byte_ok (g f c : Nat) (A : Option Addr) (bs : List UInt8) (r fl fr tu at_ : Int) (b : UInt8) (w : World) (hf : Hid (FL w f A c bs r fl)) (hc : Hid (CU w g f fr tu at_)) (hr1 : 0 ≤ r) (hr2 : r ≤ 1000000) (hl : bs.length ≤ 65536)
    (h1 : 0 ≤ at_) (h3 : at_ < tu) (h4 : tu ≤ (bs.length : Int)) (h5 : fl < 0 ∨ r < fl) (hb : Hid (bs[at_.toNat]? = some b)) :
    Calls Tryz.prog 114 #[.pointer (some ⟨g, 0, none⟩)] w (BytePost w g f c A bs r fl fr tu at_ b) := by
  have ht := take_ok g f c A bs r fl fr tu at_ 1 w hf hc hr1 hr2 hl h1 (by omega) (by omega) h4 h5
  have HT := hide ht; clear ht h5
  go_enter Tryz.func114, Tryz.ntmps114
  go_wp2_with fail
  refine HT.out.mono ?_; rintro e w1 ⟨A1, c1, rfl, k1, k2, k3, k4⟩
  have hp := partB_one bs at_ b h1 hb.out
  rw [hp] at k1 ⊢
  clear hp
  obtain ⟨ad, x, rfl, hx, hcell, _, _⟩ := (Reads.of_own k1.out).byte (k := 0) (by simp)
  have hxb : x = b := by have := hx.out; simp at this; exact this.symm
  subst hxb
  simp only [List.length_cons, List.length_nil, Nat.zero_add]
  rw [show ad.add 0 = ad from by simp [Addr.add]] at hcell
  go_wp2_with fail
  go_ret2
  exact ⟨rfl, k2, k3, k4⟩

set_option maxHeartbeats 800000 in
theorem byte_short (g f : Nat) (fr tu : Int) (w : World) (hc : Hid (CU w g f fr tu tu)) (h1 : 0 ≤ tu) (h4 : tu ≤ 1000000) :
    Calls Tryz.prog 114 #[.pointer (some ⟨g, 0, none⟩)] w fun e w' => e = .returned (.tuple #[.int .u8 0, .int .i64 3]) ∧ ∃ n, w' = w.drewN n := by
  have ht := take_wrong g f fr tu tu 1 w hc h1 (by omega) h4 (.inr (by omega))
  have hw : wrongL 1 (tu - tu) = 3 := by unfold wrongL; rw [if_neg (by omega), if_pos (by omega)]
  rw [hw] at ht
  have HT := hide ht; clear ht hw
  go_enter Tryz.func114, Tryz.ntmps114
  go_wp2_with fail
  refine HT.out.mono ?_; rintro e w1 ⟨rfl, d, rfl⟩
  go_wp2_with fail
  go_ret2
  exact ⟨rfl, d, rfl⟩

def PartPost (w : World) (g f : Nat) (fr tu at_ n : Int) (e : Ending) (w' : World) : Prop :=
  ∃ p, e = .returned (.tuple #[.pointer (some ⟨p, 0, none⟩), .int .i64 0]) ∧ w.heap.size ≤ p ∧ Hid (CU w' p f at_ (at_ + n) at_) ∧ Hid (CU w' g f fr tu (at_ + n)) ∧ Hid (Only [g] w w')

end Go.Proofs.YtpanlhbdphobdaaGreatDoor

namespace Go.Proofs.YtpanlhbdphobdaaGreatDoor
open Go.RowKit
set_option linter.unusedVariables false

set_option maxHeartbeats 400000 in
theorem load_any (f c : Nat) (A : Option Addr) (bs : List UInt8) (r fl : Int) (w : World) (hf : Hid (FL w f A c bs r fl)) :
    Calls Tryz.prog 51 #[.pointer (some ⟨f, 1, none⟩)] w fun e w' => e = .returned (.int .i64 r) ∧ w = w' := by
  have c1 := cell_blk hf.out.blk 1
  simp at c1
  have hload := run_call_load (P := Tryz.prog) Tryz.func88 (by kernel_rfl) (by kernel_rfl) (by kernel_rfl) .i64 (by kernel_rfl) c1
  go_enter Tryz.func51, Tryz.ntmps51
  go_wp2_with fail
  go_ret
  exact ⟨rfl, rfl⟩

set_option maxHeartbeats 400000 in
theorem reads_any (f c : Nat) (A : Option Addr) (bs : List UInt8) (r fl : Int) (w : World) (hf : Hid (FL w f A c bs r fl)) (h1 : 0 ≤ r) (h2 : r ≤ 1000000) :
    Calls Tryz.prog 23 #[.pointer (some ⟨f, 0, none⟩)] w fun e w' => e = .returned (.int .i64 r) ∧ w = w' := by
  go_enter Tryz.func23, Tryz.ntmps23
  go_wp2_with fail
  refine (load_any f c A bs r fl w hf).mono ?_; rintro e w' ⟨rfl, rfl⟩
  go_wp2_with fail
  go_ret
  exact ⟨rfl, rfl⟩

def ex3 : List UInt8 := [1, 2, 3]

end Go.Proofs.YtpanlhbdphobdaaGreatDoor

namespace Go.Proofs.YtpanlhbdphobdaaGreatDoor
open Go.RowKit
set_option linter.unusedVariables false

theorem own_only2 {w w' : World} {base : Nat} {v : Value} {bs : List UInt8} {S : List Nat} (h : OwnB w base v bs) (ho : Only S w w') (hS : ∀ g, v.ownBlock = some g → g ∉ S) : OwnB w' base v bs := by
  refine ⟨h.1, ?_⟩
  rcases h.2 with hn | ⟨g, cap, cur, rfl, hbg, hh, rest⟩
  · exact .inl hn
  · exact .inr ⟨g, cap, cur, rfl, hbg, (ho.block g (Array.getElem?_eq_some_iff.1 hh).1 (hS g rfl)).trans hh, rest⟩
theorem left_o (g f : Nat) (fr tu at_ : Int) (w : World) (hc : Hid (CU w g f fr tu at_)) (h1 : 0 ≤ at_) (h2 : at_ ≤ tu) (h3 : tu ≤ 1000000) :
    Calls Tryz.prog 26 #[.pointer (some ⟨g, 0, none⟩)] w fun e w' => e = .returned (.int .i64 (tu - at_)) ∧ Hid (Only [] w w') := by
  refine (left_any g f fr tu at_ w hc h1 h2 h3).mono ?_
  rintro e w' ⟨rfl, d, rfl⟩
  exact ⟨rfl, Only.drewN _ _ _⟩
theorem byte_short_o (g f : Nat) (fr tu : Int) (w : World) (hc : Hid (CU w g f fr tu tu)) (h1 : 0 ≤ tu) (h4 : tu ≤ 1000000) :
    Calls Tryz.prog 114 #[.pointer (some ⟨g, 0, none⟩)] w fun e w' => e = .returned (.tuple #[.int .u8 0, .int .i64 3]) ∧ Hid (Only [] w w') := by
  refine (byte_short g f fr tu w hc h1 h4).mono ?_
  rintro e w' ⟨rfl, d, rfl⟩
  exact ⟨rfl, Only.drewN _ _ _⟩

/-- a flash and a cursor in it, in a world that has them made since w0 -/
structure FC (w0 w : World) (f g c base : Nat) (A : Option Addr) (bs : List UInt8) (r fl fr tu at_ : Int) : Prop where
  fl_ : FL w f A c bs r fl
  cu : CU w g f fr tu at_
  bel : Below w0.heap.size w0 w
  lo : w0.heap.size ≤ f
  hi : g < base
  sz : base ≤ w.heap.size
theorem FC.only {w0 w w' : World} {f g c base : Nat} {A : Option Addr} {bs : List UInt8} {r fl fr tu at_ r' at' : Int} (h : FC w0 w f g c base A bs r fl fr tu at_) {S : List Nat} (ho : Only S w w') (hf : FL w' f A c bs r' fl) (hc : CU w' g f fr tu at') (hS : ∀ x, x ∈ S → f ≤ x) : FC w0 w' f g c base A bs r' fl fr tu at' :=
  ⟨hf, hc, h.bel.trans (ho.below h.bel.size fun x hx => Nat.le_trans h.lo (hS x hx)), h.lo, h.hi, Nat.le_trans h.sz ho.size⟩
theorem FC.quiet {w0 w w' : World} {f g c base : Nat} {A : Option Addr} {bs : List UInt8} {r fl fr tu at_ : Int} (h : FC w0 w f g c base A bs r fl fr tu at_) (ho : Only [] w w') : FC w0 w' f g c base A bs r fl fr tu at_ :=
  h.only ho (h.fl_.keep ho (by simp) (by simp)) (h.cu.keep ho (by simp)) (by simp)
theorem FC.below {w0 w w' : World} {f g c base : Nat} {A : Option Addr} {bs : List UInt8} {r fl fr tu at_ : Int} (h : FC w0 w f g c base A bs r fl fr tu at_) (ho : Below base w w') : FC w0 w' f g c base A bs r fl fr tu at_ :=
  have h1 := h.cu.lt
  have h2 := h.hi
  have h3 := h.lo
  ⟨h.fl_.below ho (by omega), h.cu.below ho h.hi, h.bel.trans (ho.mono (by omega)), h.lo, h.hi, Nat.le_trans h.sz ho.size⟩

theorem take_part (bs : List UInt8) (a n : Int) (h1 : 0 ≤ a) (h2 : 0 ≤ n) : bs.take a.toNat ++ partB bs a n = bs.take (a + n).toNat := by
  unfold partB
  rw [show (a + n).toNat = a.toNat + n.toNat from by omega, List.take_add]

end Go.Proofs.YtpanlhbdphobdaaGreatDoor

namespace Go.Proofs.YtpanlhbdphobdaaGreatDoor
open Go.RowKit
set_option linter.unusedVariables false

/-- what a cursor's read that fails leaves: the flash has been read once more -/
def FailPost (w : World) (g f c : Nat) (A : Option Addr) (bs : List UInt8) (r fl fr tu at_ : Int) (out : Value) (e : Ending) (w' : World) : Prop :=
  e = .returned (.tuple #[out, .int .i64 9]) ∧ Hid (FL w' f A c bs (r + 1) fl) ∧ Hid (CU w' g f fr tu at_) ∧ Hid (Only [f] w w')

set_option maxHeartbeats 800000 in
set_option maxRecDepth 100000 in
theorem take_fault (g f c : Nat) (A : Option Addr) (bs : List UInt8) (r fl fr tu at_ n : Int) (w : World) (hf : Hid (FL w f A c bs r fl)) (hc : Hid (CU w g f fr tu at_)) (hr1 : 0 ≤ r) (hr2 : r ≤ 1000000) (hl : bs.length ≤ 65536)
    (h1 : 0 ≤ at_) (h2 : 0 ≤ n) (h3 : n ≤ tu - at_) (h4 : tu ≤ (bs.length : Int)) (h5 : 0 ≤ fl) (h6 : fl ≤ r) :
    Calls Tryz.prog 145 #[.pointer (some ⟨g, 0, none⟩), .int .i64 n] w (FailPost w g f c A bs r fl fr tu at_ (.slice none 0 0)) := by
  have hw : wrongL n (tu - at_) = 0 := by unfold wrongL; rw [if_neg (by omega), if_neg (by omega)]
  have hwr := wrong_any g f fr tu at_ n w hc h1 (by omega) (by omega)
  rw [hw] at hwr
  have HW := hide hwr; clear hwr hw
  have hne := cu_ne hc.out
  have HNE := hide hne; clear hne
  go_enter Tryz.func145, Tryz.ntmps145
  go_wp2_with fail
  refine HW.out.mono ?_; rintro e w1 ⟨rfl, d, rfl⟩
  obtain ⟨w1, hw1⟩ : ∃ w1, w.drewN d = w1 := ⟨_, rfl⟩
  have hf1 : Hid (FL w1 f A c bs r fl) := by rw [← hw1]; exact ⟨hf.out.blk, hf.out.row.drewN d, hf.out.cap⟩
  have hc1 : Hid (CU w1 g f fr tu at_) := by rw [← hw1]; exact ⟨hc.out.blk, hc.out.lt⟩
  have ho1 : Hid (Only [f] w w1) := by rw [← hw1]; exact ⟨rfl, rfl, rfl, Nat.le_refl _, fun _ _ _ => rfl⟩
  rw [hw1]
  clear hw1
  have c0 := cell_blk hc1.out.blk 0
  have c3 := cell_blk hc1.out.blk 3
  simp at c0 c3
  have hfd : Hid (FL w1.drew f A c bs r fl) := ⟨hf1.out.blk, hf1.out.row.drew, hf1.out.cap⟩
  go_wp2_with fail
  go_region_held3 (fun W => W.cell? ⟨g, 0, none⟩ = some (.pointer (some ⟨f, 0, none⟩)) ∧ W.cell? ⟨g, 3, none⟩ = some (.int .i64 at_))
    (first | exact ⟨c0, c3⟩ | exact ⟨d0, d3⟩)
    ((first | (go_at_call 174; refine (read_fault f c A bs r fl at_ n _ hfd hr1 hr2 hl h1 h2 (by omega) h5 h6).mono ?_; rintro e w2 ⟨rfl, k2, k3⟩; have hc2 := hide (hc1.out.keep ((Only.drew [f] w1).trans k3.out) (by simpa using HNE.out)); have d0 := cell_blk hc2.out.blk 0; have d3 := cell_blk hc2.out.blk 3; simp at d0 d3)))
  go_wp2_with fail
  go_ret2
  exact ⟨rfl, k2, hc2, ho1.out.trans ((Only.drew [f] w1).trans k3.out)⟩

set_option maxHeartbeats 400000 in
theorem byte_fault (g f c : Nat) (A : Option Addr) (bs : List UInt8) (r fl fr tu at_ : Int) (w : World) (hf : Hid (FL w f A c bs r fl)) (hc : Hid (CU w g f fr tu at_)) (hr1 : 0 ≤ r) (hr2 : r ≤ 1000000) (hl : bs.length ≤ 65536)
    (h1 : 0 ≤ at_) (h3 : at_ < tu) (h4 : tu ≤ (bs.length : Int)) (h5 : 0 ≤ fl) (h6 : fl ≤ r) :
    Calls Tryz.prog 114 #[.pointer (some ⟨g, 0, none⟩)] w (FailPost w g f c A bs r fl fr tu at_ (.int .u8 0)) := by
  have ht := take_fault g f c A bs r fl fr tu at_ 1 w hf hc hr1 hr2 hl h1 (by omega) (by omega) h4 h5 h6
  have HT := hide ht; clear ht
  go_enter Tryz.func114, Tryz.ntmps114
  go_wp2_with fail
  refine HT.out.mono ?_; rintro e w1 ⟨rfl, k2, k3, k4⟩
  go_wp2_with fail
  go_ret2
  exact ⟨rfl, k2, k3, k4⟩

set_option maxHeartbeats 400000 in
theorem bytes_range (f c : Nat) (A : Option Addr) (bs : List UInt8) (r fl a n : Int) (w : World) (hf : Hid (FL w f A c bs r fl)) (hl : bs.length ≤ 65536)
    (h1 : 0 ≤ a) (h2 : 0 ≤ n) (h3 : a ≤ bs.length) (h4 : (bs.length : Int) - a < n) :
    Calls Tryz.prog 191 #[.pointer (some ⟨f, 0, none⟩), .int .i64 a, .int .i64 n] w fun e w' => e = .returned (.tuple #[.slice none 0 0, .int .i64 2]) ∧ Hid (Only [f] w w') := by
  have c0 := cell_blk hf.out.blk 0
  simp at c0
  go_enter Tryz.func191, Tryz.ntmps191
  go_wp2_with fail
  go_ret2
  exact ⟨rfl, ⟨rfl, rfl, rfl, Nat.le_refl _, fun _ _ _ => rfl⟩⟩

set_option maxHeartbeats 400000 in
theorem failAt_any (f c : Nat) (A : Option Addr) (bs : List UInt8) (r fl n : Int) (w : World) (hf : Hid (FL w f A c bs r fl)) :
    Calls Tryz.prog 19 #[.pointer (some ⟨f, 0, none⟩), .int .i64 n] w fun e w' => e = .returned (.tuple #[]) ∧ Hid (FL w' f A c bs r n) ∧ Hid (Only [f] w w') := by
  have c2 := cell_blk hf.out.blk 2
  simp at c2
  have z2 := frozen_blk hf.out.blk 2
  go_enter Tryz.func19, Tryz.ntmps19
  go_wp2_with fail
  go_end0
  exact ⟨rfl, hf.out.failAt n, Only.setCell (S := [f]) w (p := ⟨f, 2, none⟩) (by simp) _⟩

def goL (n fr tu : Int) : Bool := decide (fr ≤ n) && decide (n ≤ tu)
set_option maxHeartbeats 400000 in
theorem go_ok (g f : Nat) (fr tu at_ n : Int) (w : World) (hc : Hid (CU w g f fr tu at_)) (h1 : fr ≤ n) (h2 : n ≤ tu) :
    Calls Tryz.prog 27 #[.pointer (some ⟨g, 0, none⟩), .int .i64 n] w fun e w' => e = .returned (.int .i64 0) ∧ Hid (CU w' g f fr tu n) ∧ Hid (Only [g] w w') := by
  have c1 := cell_blk hc.out.blk 1
  have c2 := cell_blk hc.out.blk 2
  have c3 := cell_blk hc.out.blk 3
  simp at c1 c2 c3
  have z3 := frozen_blk hc.out.blk 3
  go_enter Tryz.func27, Tryz.ntmps27
  go_wp2_with fail
  go_ret
  exact ⟨rfl, hc.out.move n, Only.setCell (S := [g]) w (p := ⟨g, 3, none⟩) (by simp) _⟩
set_option maxHeartbeats 400000 in
theorem go_no (g f : Nat) (fr tu at_ n : Int) (w : World) (hc : Hid (CU w g f fr tu at_)) (h1 : n < fr ∨ tu < n) :
    Calls Tryz.prog 27 #[.pointer (some ⟨g, 0, none⟩), .int .i64 n] w fun e w' => e = .returned (.int .i64 2) ∧ w = w' := by
  have c1 := cell_blk hc.out.blk 1
  have c2 := cell_blk hc.out.blk 2
  simp at c1 c2
  by_cases hn : n < fr
  · clear h1
    go_enter Tryz.func27, Tryz.ntmps27
    go_wp2_with fail
    go_ret
    exact ⟨rfl, rfl⟩
  · have h2 : tu < n := by omega
    clear h1
    go_enter Tryz.func27, Tryz.ntmps27
    go_wp2_with fail
    go_ret
    exact ⟨rfl, rfl⟩
set_option maxHeartbeats 400000 in
theorem cursor_no (f c : Nat) (A : Option Addr) (bs : List UInt8) (r fl a b : Int) (w : World) (hf : Hid (FL w f A c bs r fl)) (h1 : a < 0 ∨ b < a ∨ (bs.length : Int) < b) :
    Calls Tryz.prog 20 #[.pointer (some ⟨f, 0, none⟩), .int .i64 a, .int .i64 b] w fun e w' => e = .returned (.tuple #[.pointer none, .int .i64 2]) ∧ w = w' := by
  have c0 := cell_blk hf.out.blk 0
  simp at c0
  by_cases h2 : a < 0
  · clear h1
    go_enter Tryz.func20, Tryz.ntmps20
    go_wp2_with fail
    go_ret2
    exact ⟨rfl, rfl⟩
  · by_cases h3 : b < a
    · clear h1
      go_enter Tryz.func20, Tryz.ntmps20
      go_wp2_with fail
      go_ret2
      exact ⟨rfl, rfl⟩
    · have h4 : (bs.length : Int) < b := by omega
      clear h1
      go_enter Tryz.func20, Tryz.ntmps20
      go_wp2_with fail
      go_ret2
      exact ⟨rfl, rfl⟩
end Go.Proofs.YtpanlhbdphobdaaGreatDoor
