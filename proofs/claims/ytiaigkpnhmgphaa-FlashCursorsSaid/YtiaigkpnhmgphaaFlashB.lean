/-
  flash: reads, and a cursor that moves: contracts.
-/
import Derived.Test.YtiaigkpnhmgphaaFlash
namespace Go.Proofs.Ytiaigkpnhmgphaa
open Go.RowKit
set_option linter.unusedVariables false

theorem setCell_blk {w : World} {g : Nat} {cs : Array Value} {t : TypeId} (h : w.heap[g]? = some (.cells cs t (0, 0))) (i : Nat) (u : Value) : (w.setCell ⟨g, i, none⟩ u).heap[g]? = some (.cells (cs.setIfInBounds i u) t (0, 0)) := by
  simp [World.setCell, Array.getElem?_modify, h]
theorem FL.bump {w : World} {f c : Nat} {A : Option Addr} {bs : List UInt8} {r fl : Int} (h : FL w f A c bs r fl) (r' : Int) : FL (w.setCell ⟨f, 1, none⟩ (.int .i64 r')) f A c bs r' fl :=
  ⟨by rw [setCell_blk h.blk]; rfl, h.row.setCell (p := ⟨f, 1, none⟩) (Nat.le_refl _) _, h.cap⟩
theorem FL.failAt {w : World} {f c : Nat} {A : Option Addr} {bs : List UInt8} {r fl : Int} (h : FL w f A c bs r fl) (n : Int) : FL (w.setCell ⟨f, 2, none⟩ (.int .i64 n)) f A c bs r n :=
  ⟨by rw [setCell_blk h.blk]; rfl, h.row.setCell (p := ⟨f, 2, none⟩) (Nat.le_refl _) _, h.cap⟩
theorem CU.move {w : World} {g f : Nat} {a b d : Int} (h : CU w g f a b d) (d' : Int) : CU (w.setCell ⟨g, 3, none⟩ (.int .i64 d')) g f a b d' := ⟨by rw [setCell_blk h.blk]; rfl, h.lt⟩

set_option maxHeartbeats 400000 in
theorem add_any (f c : Nat) (A : Option Addr) (bs : List UInt8) (r fl : Int) (w : World) (hf : Hid (FL w f A c bs r fl)) (h1 : 0 ≤ r) (h2 : r ≤ 1000000) :
    Calls Try.prog 37 #[.pointer (some ⟨f, 1, none⟩), .int .i64 1] w fun e w' => e = .returned (.int .i64 (r + 1)) ∧ w' = w.setCell ⟨f, 1, none⟩ (.int .i64 (r + 1)) := by
  have c1 := cell_blk hf.out.blk 1
  simp at c1
  have z1 := frozen_blk hf.out.blk 1
  have hadd := run_call_add (P := Try.prog) Try.func41 (by kernel_rfl) (by kernel_rfl) (by kernel_rfl) .i64 (by kernel_rfl) (y := 1) (s := r + 1) c1 z1 (by
    simp [Op.intArith, IntKind.wrap_i64]
    omega)
  go_enter Try.func37, Try.ntmps37
  go_wp2_with fail
  go_ret
  exact ⟨rfl, rfl⟩

/-- what a part of the bytes is -/
def partB (bs : List UInt8) (a n : Int) : List UInt8 := (bs.drop a.toNat).take n.toNat
theorem part_len (bs : List UInt8) (a n : Int) (h1 : 0 ≤ a) (h2 : 0 ≤ n) (h3 : a + n ≤ (bs.length : Int)) : ((partB bs a n).length : Int) = n := by
  unfold partB; rw [List.length_take, List.length_drop]; omega

theorem FL.part {w : World} {f c : Nat} {A : Option Addr} {bs : List UInt8} {r fl : Int} (h : FL w f A c bs r fl) (a n : Nat) (ha : a < c) (hn : a + n ≤ bs.length) :
    Reads w f 1 (Option.map (fun x => x.add a) A) (partB bs a n).length ((partB bs a n).map B) := by
  have h1 := h.row.cut (k := a) (cap := c) (by omega) h.cap
  rw [if_neg (by omega)] at h1
  have h2 := h1.upto (k := n) (by omega)
  rw [Nat.mul_one, Nat.mul_one] at h2
  have hl : (partB bs a n).length = n := by have := part_len bs a n (by omega) (by omega) (by omega); omega
  rw [hl]
  unfold partB
  rw [List.map_take, List.map_drop]
  exact h2

def BytesPost (w : World) (f c : Nat) (A : Option Addr) (bs : List UInt8) (r fl : Int) (out : List UInt8) (e : Ending) (w' : World) : Prop :=
  ∃ A1 c1, e = .returned (.tuple #[.slice A1 out.length c1, .int .i64 0]) ∧ Hid (OwnB w' w.heap.size (.slice A1 out.length c1) out) ∧ Hid (FL w' f A c bs (r + 1) fl) ∧ Hid (Only [f] w w')

set_option maxHeartbeats 800000 in
set_option maxRecDepth 100000 in
theorem bytes_ok (f c : Nat) (A : Option Addr) (bs : List UInt8) (r fl a n : Int) (w : World) (hf : Hid (FL w f A c bs r fl)) (hr1 : 0 ≤ r) (hr2 : r ≤ 1000000) (hl : bs.length ≤ 65536)
    (h1 : 0 ≤ a) (h2 : 0 ≤ n) (h3 : a + n ≤ (bs.length : Int)) (h4 : fl < 0 ∨ r < fl) :
    Calls Try.prog 30 #[.pointer (some ⟨f, 0, none⟩), .int .i64 a, .int .i64 n] w (BytesPost w f c A bs r fl (partB bs a n)) := by
  have c0 := cell_blk hf.out.blk 0
  simp at c0
  have hf1 := hide (hf.out.bump (r + 1))
  have d0 := cell_blk hf1.out.blk 0
  have d2 := cell_blk hf1.out.blk 2
  simp at d0 d2
  have hcap := hf.out.cap
  have e1 : (bs.length : Int) ≤ (c : Int) := by omega
  have hadd := add_any f c A bs r fl w hf hr1 hr2
  have HA := hide hadd; clear hadd
  obtain ⟨an, rfl⟩ : ∃ x : Nat, a = x := ⟨a.toNat, by omega⟩
  obtain ⟨nn, rfl⟩ : ∃ x : Nat, n = x := ⟨n.toNat, by omega⟩
  have hlen : Hid ((partB bs an nn).length = nn) := by show _ = _; have := part_len bs an nn h1 h2 h3; omega
  by_cases han : an < c
  · have hrd := hide (hf1.out.part an nn han (by omega))
    rcases h4 with h4 | h4
    all_goals
      go_enter Try.func30, Try.ntmps30
      go_wp2_with fail
      refine HA.out.mono ?_; rintro e w1 ⟨rfl, rfl⟩
      go_wp2_with fail
      have hcl := clone_any (Option.map (fun x => x.add an) A) (c - an) f (partB bs an nn) _ hrd (by have := hlen.out; omega)
      rw [hlen.out] at hcl
      refine hcl.mono ?_; rintro e w1 ⟨A1, c1, rfl, r1, b1, k1⟩
      clear hcl
      go_wp2_with fail
      go_ret2
      exact ⟨A1, c1, rfl, own_base r1.out (fun g hg => by have := own_ge r1.out g hg; simpa using this), hf1.out.below b1.out (by have := blk_lt hf1.out.blk; simpa using this), (Only.setCell (S := [f]) w (p := ⟨f, 1, none⟩) (by simp) _).trans (Only.of_below b1.out)⟩
  · have hn0 : nn = 0 := by omega
    subst hn0
    have hac : an = c := by omega
    subst hac
    have hnil : Hid (partB bs an 0 = []) := by show _ = _; unfold partB; simp
    rcases h4 with h4 | h4
    all_goals
      go_enter Try.func30, Try.ntmps30
      go_wp2_with fail
      refine HA.out.mono ?_; rintro e w1 ⟨rfl, rfl⟩
      go_wp2_with fail
      refine (clone_any A _ f [] _ Reads.none_ (by simp)).mono ?_; rintro e w1 ⟨A1, c1, rfl, r1, b1, k1⟩
      go_wp2_with fail
      go_ret2
      rw [show (((0 : Nat) : Int)) = 0 from rfl, hnil.out]
      exact ⟨A1, c1, rfl, own_base r1.out (fun g hg => by have := own_ge r1.out g hg; simpa using this), hf1.out.below b1.out (by have := blk_lt hf1.out.blk; simpa using this), (Only.setCell (S := [f]) w (p := ⟨f, 1, none⟩) (by simp) _).trans (Only.of_below b1.out)⟩
end Go.Proofs.Ytiaigkpnhmgphaa
