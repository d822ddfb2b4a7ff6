/-
  code: a body's reader: at, fail, number, typed: contracts.
-/
import Derived.Test.YtdhmkapknaphpaaReadPureB
import Derived.Test.YtdhmkapknaphpaaTBits
namespace Go.Proofs.Ytdhmkapknaphpaa
open Go.RowKit
set_option linter.unusedVariables false

/-- a body's reader: its cursor, the locals, the instructions, where it can't be read, the error -/
structure CR (w : World) (rb g f c : Nat) (A : Option Addr) (bs : List UInt8) (r : Int) (at_ : Nat) (lv iv : Value) (bad e : Int) : Prop where
  blk : w.heap[rb]? = some (.cells #[.pointer (some ⟨g, 0, none⟩), lv, iv, .int .i64 bad, .int .i64 e] 66 (0, 0))
  fl_ : FL w f A c bs r (-1)
  cu : CU w g f 0 (bs.length : Int) (at_ : Int)
  lt : g < rb
theorem CR.keep {w w' : World} {rb g f c : Nat} {A : Option Addr} {bs : List UInt8} {r : Int} {at_ : Nat} {lv iv : Value} {bad e : Int} {S : List Nat} (h : CR w rb g f c A bs r at_ lv iv bad e) (ho : Only S w w') (h1 : rb ∉ S) (h2 : g ∉ S) (h3 : f ∉ S) (hS : ∀ x, x ∈ S → f ≤ x) : CR w' rb g f c A bs r at_ lv iv bad e :=
  ⟨(ho.block rb (blk_lt h.blk) h1).trans h.blk, h.fl_.keep ho h3 hS, h.cu.keep ho h2, h.lt⟩
theorem CR.below {w w' : World} {rb g f c : Nat} {A : Option Addr} {bs : List UInt8} {r : Int} {at_ : Nat} {lv iv : Value} {bad e : Int} {Bk : Nat} (h : CR w rb g f c A bs r at_ lv iv bad e) (hb : Below Bk w w') (h1 : rb < Bk) : CR w' rb g f c A bs r at_ lv iv bad e :=
  ⟨(hb.block rb h1).trans h.blk, h.fl_.below hb (by have := h.lt; have := h.cu.lt; omega), h.cu.below hb (by have := h.lt; omega), h.lt⟩
/-- the cursor has moved -/
theorem CR.moved {w w' : World} {rb g f c : Nat} {A : Option Addr} {bs : List UInt8} {r r' : Int} {at_ at' : Nat} {lv iv : Value} {bad e : Int} (h : CR w rb g f c A bs r at_ lv iv bad e) (ho : Only [f, g] w w') (hf : FL w' f A c bs r' (-1)) (hc : CU w' g f 0 (bs.length : Int) (at' : Int)) : CR w' rb g f c A bs r' at' lv iv bad e :=
  ⟨(ho.block rb (blk_lt h.blk) (by have := h.lt; have := h.cu.lt; simp; omega)).trans h.blk, hf, hc, h.lt⟩
/-- another value of a field of the reader's -/
theorem CR.set {w : World} {rb g f c : Nat} {A : Option Addr} {bs : List UInt8} {r : Int} {at_ : Nat} {lv iv : Value} {bad e : Int} (h : CR w rb g f c A bs r at_ lv iv bad e) :
    (∀ x : Value, CR (w.setCell ⟨rb, 1, none⟩ x) rb g f c A bs r at_ x iv bad e) ∧ (∀ x : Value, CR (w.setCell ⟨rb, 2, none⟩ x) rb g f c A bs r at_ lv x bad e) ∧ (∀ x : Int, CR (w.setCell ⟨rb, 3, none⟩ (.int .i64 x)) rb g f c A bs r at_ lv iv x e) ∧ (∀ x : Int, CR (w.setCell ⟨rb, 4, none⟩ (.int .i64 x)) rb g f c A bs r at_ lv iv bad x) := by
  have hs : ∀ (i : Nat) (u : Value), Only [rb] w (w.setCell ⟨rb, i, none⟩ u) := fun i u => Only.setCell w (p := ⟨rb, i, none⟩) (by simp) u
  have k1 := h.lt
  have k2 := h.cu.lt
  have hf : ∀ (i : Nat) (u : Value), FL (w.setCell ⟨rb, i, none⟩ u) f A c bs r (-1) := fun i u => h.fl_.keep (hs i u) (by simp; omega) (by simp; omega)
  have hc : ∀ (i : Nat) (u : Value), CU (w.setCell ⟨rb, i, none⟩ u) g f 0 (bs.length : Int) (at_ : Int) := fun i u => h.cu.keep (hs i u) (by simp; omega)
  refine ⟨fun x => ⟨?_, hf _ _, hc _ _, k1⟩, fun x => ⟨?_, hf _ _, hc _ _, k1⟩, fun x => ⟨?_, hf _ _, hc _ _, k1⟩, fun x => ⟨?_, hf _ _, hc _ _, k1⟩⟩ <;> (rw [setCell_blk h.blk]; rfl)

set_option maxHeartbeats 400000 in
theorem place_at (g f : Nat) (fr tu at_ : Int) (w : World) (hc : Hid (CU w g f fr tu at_)) :
    Calls Try.prog 28 #[.agg #[.pointer (some ⟨g, 0, none⟩)]] w fun e w' => e = .returned (.int .i64 at_) ∧ Hid (Below w.heap.size w w') := by
  have hb : Below w.heap.size w (w.alloc (.cells #[.pointer (some ⟨g, 0, none⟩)] 64)) := (Below.refl _ _).alloc (Nat.le_refl _) _
  have HA := hide (at_any g f fr tu at_ _ (hide (hc.out.below hb (blk_lt hc.out.blk))))
  have HB := hide hb
  clear hb
  go_enter Try.func28, Try.ntmps28
  go_wp2_with fail
  refine HA.out.mono ?_; rintro e w' ⟨rfl, rfl⟩
  go_wp2_with fail
  go_ret
  exact ⟨rfl, HB.out⟩

/-- an error is told just once -/
def badR (bad e at_ k : Int) : Int := if e = 0 ∧ k ≠ 0 then at_ else bad
def errR (e k : Int) : Int := if e = 0 then k else e
theorem errR_zero (k : Int) : errR 0 k = k := rfl
theorem badR_zero {bad at_ k : Int} (h : k ≠ 0) : badR bad 0 at_ k = at_ := by unfold badR; rw [if_pos ⟨rfl, h⟩]
theorem badR_none {bad at_ : Int} {e : Int} : badR bad e at_ 0 = bad := by unfold badR; rw [if_neg (fun x => x.2 rfl)]
theorem errR_held {e k : Int} (h : e ≠ 0) : errR e k = e := by unfold errR; rw [if_neg h]
theorem badR_held {bad e at_ k : Int} (h : e ≠ 0) : badR bad e at_ k = bad := by unfold badR; rw [if_neg (fun x => h x.1)]

set_option maxHeartbeats 800000 in
theorem rfail_any (rb g f c : Nat) (A : Option Addr) (bs : List UInt8) (r : Int) (at_ : Nat) (lv iv : Value) (bad e p k : Int) (w : World) (h : Hid (CR w rb g f c A bs r at_ lv iv bad e)) :
    Calls Try.prog 30 #[.pointer (some ⟨rb, 0, none⟩), .int .i64 p, .int .i64 k] w fun en w' => en = .returned (.tuple #[]) ∧ Hid (CR w' rb g f c A bs r at_ lv iv (badR bad e p k) (errR e k)) ∧ Hid (Only [rb] w w') := by
  have c3 := cell_blk h.out.blk 3
  have c4 := cell_blk h.out.blk 4
  simp at c3 c4
  have z3 := frozen_blk h.out.blk 3
  have z4 := frozen_blk h.out.blk 4
  by_cases he : e = 0
  · subst he
    by_cases hk : k = 0
    · subst hk
      rw [badR_none, errR_zero]
      go_enter Try.func30, Try.ntmps30
      go_wp2_with fail
      go_end0
      exact ⟨rfl, h, Only.refl _ _⟩
    · rw [badR_zero hk, errR_zero]
      have f0 : (k != 0) = true := by simpa using hk
      have hW : Only [rb] w ((w.setCell ⟨rb, 3, none⟩ (.int .i64 p)).setCell ⟨rb, 4, none⟩ (.int .i64 k)) := (Only.setCell w (p := ⟨rb, 3, none⟩) (by simp) _).trans (Only.setCell _ (p := ⟨rb, 4, none⟩) (by simp) _)
      have hC := (h.out.set.2.2.1 p).set.2.2.2 k
      have HW := hide hW; have HC := hide hC
      clear hk hW hC
      go_enter Try.func30, Try.ntmps30
      go_wp2_with fail
      go_end0
      exact ⟨rfl, HC, HW⟩
  · rw [badR_held he, errR_held he]
    have f1 : (e == 0) = false := by simpa using he
    clear he
    go_enter Try.func30, Try.ntmps30
    go_wp2_with fail
    go_end0
    exact ⟨rfl, h, Only.refl _ _⟩

theorem partB_rest (bs : List UInt8) (at_ : Nat) : partB bs (at_ : Int) ((bs.length : Int) - (at_ : Int)) = bs.drop at_ := by
  unfold partB
  rw [Int.toNat_natCast, List.take_of_length_le]
  rw [List.length_drop]
  omega

/-- what number leaves: the number and the place behind it; or the error, told at its place -/
structure NumC (w : World) (rb g f c : Nat) (A : Option Addr) (bs : List UInt8) (r : Int) (at_ : Nat) (lv iv : Value) (bad : Int) (q : Nat × Nat × Nat) (en : Ending) (w' : World) : Prop where
  out : ∃ (r' : Int) (at' : Nat) (v : Nat) (bad' : Int), en = .returned (.int .i64 (v : Int)) ∧ Hid (CR w' rb g f c A bs r' at' lv iv bad' (q.2.2 : Int)) ∧ Hid (Only [f, g, rb] w w') ∧ r ≤ r' ∧ r' ≤ r + 11 ∧ at_ ≤ at' ∧ at' ≤ bs.length ∧ v ≤ 4294967295 ∧
    Hid ((q.2.2 = 0 ∧ v = q.1 ∧ at' = at_ + q.2.1 ∧ bad' = bad) ∨ (q.2.2 ≠ 0 ∧ bad' = (at_ : Int)))

set_option maxHeartbeats 1600000 in
theorem rnumber_any (rb g f c : Nat) (A : Option Addr) (bs : List UInt8) (r : Int) (at_ : Nat) (lv iv : Value) (bad : Int) (w : World) (h : Hid (CR w rb g f c A bs r at_ lv iv bad 0))
    (hr1 : 0 ≤ r) (hr2 : r ≤ 890000) (hl : bs.length ≤ 1000) (h2 : at_ ≤ bs.length) :
    Calls Try.prog 15 #[.pointer (some ⟨rb, 0, none⟩)] w (NumC w rb g f c A bs r at_ lv iv bad (unsignedL (bs.drop at_) 32)) := by
  have c0 := cell_blk h.out.blk 0
  simp at c0
  have hrb := blk_lt h.out.blk
  have hgl := h.out.lt
  have hfl := h.out.cu.lt
  have HP := hide (place_at g f 0 (bs.length : Int) (at_ : Int) w (hide h.out.cu))
  have hul := unsignedL_lt32 (bs.drop at_)
  have hcs := unsigned_cases (bs.drop at_) 32
  rw [List.length_drop] at hcs
  obtain ⟨q, hq⟩ : ∃ q, unsignedL (bs.drop at_) 32 = q := ⟨_, rfl⟩
  rw [hq] at hul hcs ⊢
  have HQ := hide hq; have HCS := hide hcs
  clear hq hcs
  go_enter Try.func15, Try.ntmps15
  go_wp2_with fail
  refine HP.out.mono ?_; rintro e w1 ⟨rfl, hb1⟩
  have h1 := hide (h.out.below hb1.out hrb)
  have d0 := cell_blk h1.out.blk 0
  simp at d0
  have HU := hide (cur_unsigned g f c A bs r (-1) 0 (bs.length : Int) (at_ : Int) 32 w1 (hide h1.out.fl_) (hide h1.out.cu) hr1 (by omega) hl (by omega) (by omega) (by omega))
  rw [partB_rest, HQ.out] at HU
  go_wp2_with fail
  refine HU.out.mono ?_; rintro en w2 ⟨e', r', d, v', rfl, k1, k2, k3, k4, k5, k6⟩
  obtain ⟨j1, j2, j3⟩ : e' = (q.2.2 : Int) ∧ d = (q.2.1 : Int) ∧ v' = q.1 := by
    rcases k6.out with ⟨a, b, d'⟩ | ⟨_, _, _, d1, _⟩
    · exact ⟨a, b, d'⟩
    · omega
  subst j1
  subst j2
  subst j3
  have hm := hide (h1.out.moved (at' := at_ + q.2.1) k3.out k1.out (by have := k2.out; simpa using this))
  have HF := hide (rfail_any rb g f c A bs r' (at_ + q.2.1) lv iv bad 0 (at_ : Int) (q.2.2 : Int) w2 hm)
  go_wp2_with fail
  refine HF.out.mono ?_; rintro en w3 ⟨rfl, m1, m2⟩
  rw [errR_zero] at m1
  go_wp2_with fail
  go_ret
  have ho : Hid (Only [f, g, rb] w w3) := ((Only.of_below hb1.out).trans (k3.out.more (by simp))).trans (m2.out.more (by simp))
  refine ⟨r', at_ + q.2.1, q.1, _, rfl, m1, ho, k4, k5, by omega, by have := HCS.out; omega, hul, ?_⟩
  by_cases hz : q.2.2 = 0
  · exact .inl ⟨hz, rfl, rfl, by rw [hz]; exact badR_none⟩
  · exact .inr ⟨hz, badR_zero (by omega)⟩
end Go.Proofs.Ytdhmkapknaphpaa
