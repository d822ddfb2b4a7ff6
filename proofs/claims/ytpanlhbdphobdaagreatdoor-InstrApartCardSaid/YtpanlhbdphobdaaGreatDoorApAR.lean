/-
  word.Cut, conv.Wrap: contracts.
  instr: a reader of numbers: number, signed, byte, fail: contracts.
  instr: code: contract.
-/
import Derived.Test.YtpanlhbdphobdaaGreatDoorRows
import Derived.Test.YtpanlhbdphobdaaGreatDoorApAC
import Derived.IntWalk
import Derived.Outline
import Derived.Test.YtpanlhbdphobdaaGreatDoorApAQ
import Derived.Test.YtpanlhbdphobdaaGreatDoorApAM
import Derived.Deep.DeepCutAuto
namespace Go.Proofs.YtpanlhbdphobdaaGreatDoor
open Go.RowKit
set_option linter.unusedVariables false

set_option maxHeartbeats 400000 in
theorem cut_any (n x : Int) (w : World) (h0 : 0 ≤ x) (h1 : x ≤ 18446744073709551615) :
    Calls Tryz.prog 141 #[.int .i64 n, .int .u64 x] w fun e w' => e = .returned (.int .u64 (if n = 32 then x % 4294967296 else x)) ∧ w = w' := by
  by_cases h : n = 32
  · subst h
    go_enter Tryz.func141, Tryz.ntmps141
    go_wp2_with fail
    go_ret
    exact ⟨rfl, rfl⟩
  · have h' : (n == 32) = false := by simpa using h
    rw [if_neg h]
    clear h
    go_enter Tryz.func141, Tryz.ntmps141
    go_wp2_with fail
    go_ret
    exact ⟨rfl, rfl⟩

theorem u64_wrap_bd (x : Int) : 0 ≤ IntKind.u64.wrap x ∧ IntKind.u64.wrap x ≤ 18446744073709551615 := by
  rw [IntKind.wrap_u64]; omega
set_option maxHeartbeats 400000 in
theorem wrap_any (a : Nat) (w : World) (ha : a ≤ 18446744073709551615) :
    Calls Tryz.prog 118 #[.int .u64 a] w fun e w' => e = .returned (.int .u64 ((a : Int) % 4294967296)) ∧ w = w' := by
  have H := hide (cut_any 32 a w (by omega) (by omega))
  rw [if_pos rfl] at H
  go_enter Tryz.func118, Tryz.ntmps118
  go_wp2_with fail
  refine H.out.mono ?_; rintro e w' ⟨rfl, rfl⟩
  go_wp2_with fail
  go_ret
  exact ⟨rfl, rfl⟩

end Go.Proofs.YtpanlhbdphobdaaGreatDoor

namespace Go.Proofs.YtpanlhbdphobdaaGreatDoor
open Go.RowKit
set_option linter.unusedVariables false

/-- a reader of numbers: its cursor, the error so far -/
structure RS (w : World) (rb g f c : Nat) (A : Option Addr) (bs : List UInt8) (r fl fr tu at_ e : Int) : Prop where
  blk : w.heap[rb]? = some (.cells #[.pointer (some ⟨g, 0, none⟩), .int .i64 e] 94 (0, 0))
  fl_ : FL w f A c bs r fl
  cu : CU w g f fr tu at_
  lt : g < rb
theorem RS.keep {w w' : World} {rb g f c : Nat} {A : Option Addr} {bs : List UInt8} {r fl fr tu at_ e : Int} {S : List Nat} (h : RS w rb g f c A bs r fl fr tu at_ e) (ho : Only S w w') (h1 : rb ∉ S) (h2 : g ∉ S) (h3 : f ∉ S) (hS : ∀ x, x ∈ S → f ≤ x) : RS w' rb g f c A bs r fl fr tu at_ e :=
  ⟨(ho.block rb (blk_lt h.blk) h1).trans h.blk, h.fl_.keep ho h3 hS, h.cu.keep ho h2, h.lt⟩
theorem RS.below {w w' : World} {rb g f c : Nat} {A : Option Addr} {bs : List UInt8} {r fl fr tu at_ e : Int} {Bk : Nat} (h : RS w rb g f c A bs r fl fr tu at_ e) (hb : Below Bk w w') (h1 : rb < Bk) : RS w' rb g f c A bs r fl fr tu at_ e :=
  ⟨(hb.block rb h1).trans h.blk, h.fl_.below hb (by have := h.lt; have := h.cu.lt; omega), h.cu.below hb (by have := h.lt; omega), h.lt⟩
/-- the cursor has moved, and the reader knows the error -/
theorem RS.set {w w' : World} {rb g f c : Nat} {A : Option Addr} {bs : List UInt8} {r fl fr tu at_ e r' at' : Int} (h : RS w rb g f c A bs r fl fr tu at_ e) (ho : Only [f, g] w w') (hf : FL w' f A c bs r' fl) (hc : CU w' g f fr tu at') (e' : Int) :
    RS (w'.setCell ⟨rb, 1, none⟩ (.int .i64 e')) rb g f c A bs r' fl fr tu at' e' ∧ Only [f, g, rb] w (w'.setCell ⟨rb, 1, none⟩ (.int .i64 e')) := by
  have hl := h.lt
  have hl2 := h.cu.lt
  have hs : Only [rb] w' (w'.setCell ⟨rb, 1, none⟩ (.int .i64 e')) := Only.setCell w' (p := ⟨rb, 1, none⟩) (by simp) _
  refine ⟨⟨?_, hf.keep hs (by simp; omega) (by simp; omega), hc.keep hs (by simp; omega), hl⟩, (ho.more (by simp)).trans (hs.more (by simp))⟩
  rw [setCell_blk ((ho.block rb (blk_lt h.blk) (by simp; omega)).trans h.blk)]
  rfl

/-- how a step ends: well, as the bytes tell; or with an error: that of before, the bytes', or the flash has failed -/
def Out (fl e : Int) (E : Nat) (r' e' : Int) (P : Prop) : Prop :=
  (e = 0 ∧ e' = 0 ∧ E = 0 ∧ P) ∨ (e' ≠ 0 ∧ ((e ≠ 0 ∧ e' = e) ∨ (e = 0 ∧ E ≠ 0 ∧ e' = E) ∨ (e = 0 ∧ e' = 9 ∧ 0 ≤ fl ∧ fl < r')))

structure NumStep (w : World) (rb g f c : Nat) (A : Option Addr) (bs : List UInt8) (r fl fr tu at_ e : Int) {V : Type} (val : V → Value) (z : V) (res : V × Nat × Nat) (en : Ending) (w' : World) : Prop where
  out : ∃ (v : V) (r' at' e' : Int), en = .returned (val v) ∧ Hid (RS w' rb g f c A bs r' fl fr tu at' e') ∧ Hid (Only [f, g, rb] w w') ∧ r ≤ r' ∧ r' ≤ r + 11 ∧ at_ ≤ at' ∧ at' ≤ tu ∧ Hid (e' ≠ 0 → v = z) ∧ Hid (e ≠ 0 → at' = at_) ∧
    Hid (Out fl e res.2.2 r' e' (v = res.1 ∧ at' = at_ + res.2.1))

set_option maxHeartbeats 800000 in
theorem number_step (rb g f c : Nat) (A : Option Addr) (bs : List UInt8) (r fl fr tu at_ e n : Int) (w : World) (h : Hid (RS w rb g f c A bs r fl fr tu at_ e))
    (hr1 : 0 ≤ r) (hr2 : r ≤ 900000) (hl : bs.length ≤ 1000) (h1 : 0 ≤ at_) (h2 : at_ ≤ tu) (h4 : tu ≤ (bs.length : Int)) :
    Calls Tryz.prog 82 #[.pointer (some ⟨rb, 0, none⟩), .int .i64 n] w
      (NumStep w rb g f c A bs r fl fr tu at_ e (fun v : Nat => .int .u64 v) 0 (unsignedL (partB bs at_ (tu - at_)) n)) := by
  have c0 := cell_blk h.out.blk 0
  have c1 := cell_blk h.out.blk 1
  simp at c0 c1
  by_cases he : e = 0
  · subst he
    have z1 := frozen_blk h.out.blk 1
    have hcu := hide (cur_unsigned g f c A bs r fl fr tu at_ n w (hide h.out.fl_) (hide h.out.cu) hr1 hr2 hl h1 h2 h4)
    go_enter Tryz.func82, Tryz.ntmps82
    go_wp2_with fail
    refine hcu.out.mono ?_; rintro en w1 ⟨e', r', d, v', rfl, k1, k2, k3, k4, k5, k6⟩
    have hb1 := hide ((k3.out.block rb (blk_lt h.out.blk) (by have := h.out.lt; have := h.out.cu.lt; simp; omega)).trans h.out.blk)
    have d1 := cell_blk hb1.out 1
    simp at d1
    have z1' := frozen_blk hb1.out 1
    go_wp2_with fail
    go_ret
    obtain ⟨q1, q2⟩ := h.out.set k3.out k1.out k2.out e'
    have hcs := unsigned_cases (partB bs at_ (tu - at_)) n
    have hpl := part_len bs at_ (tu - at_) h1 (by omega) (by omega)
    have hfm := unsignedL_form (partB bs at_ (tu - at_)) n
    have hk6 := k6.out
    refine ⟨v', r', at_ + d, e', rfl, q1, q2, k4, k5, ?_, ?_, ?_, fun h0 => absurd rfl h0, ?_⟩
    · omega
    · omega
    · show _ → _
      intro h0
      rcases hk6 with ⟨a, _, b⟩ | ⟨_, _, b, _⟩
      · rcases hfm with ⟨_, x⟩ | ⟨_, x | ⟨o, x⟩⟩
        · rw [b, x]
        · rw [b, x]
        · rw [x] at a; exact absurd a h0
      · exact b
    · show Out _ _ _ _ _ _
      rcases hk6 with ⟨a, b, d'⟩ | ⟨a, b, _, d1, d2⟩
      · by_cases h0 : e' = 0
        · exact .inl ⟨rfl, h0, by omega, d', by omega⟩
        · exact .inr ⟨h0, .inr (.inl ⟨rfl, by omega, a⟩)⟩
      · exact .inr ⟨by omega, .inr (.inr ⟨rfl, a, d1, d2⟩)⟩
  · have f1 : (e == 0) = false := by simpa using he
    have f2 : (e != 0) = true := by simpa using he
    have HE := hide he; clear he
    go_enter Tryz.func82, Tryz.ntmps82
    go_wp2_with fail
    go_ret
    exact ⟨0, r, at_, e, rfl, h, Only.refl _ _, by omega, by omega, by omega, h2, fun _ => rfl, fun _ => rfl, .inr ⟨HE.out, .inl ⟨HE.out, rfl⟩⟩⟩
set_option maxHeartbeats 800000 in
theorem signed_step (rb g f c : Nat) (A : Option Addr) (bs : List UInt8) (r fl fr tu at_ e n : Int) (w : World) (h : Hid (RS w rb g f c A bs r fl fr tu at_ e))
    (hr1 : 0 ≤ r) (hr2 : r ≤ 900000) (hl : bs.length ≤ 1000) (h1 : 0 ≤ at_) (h2 : at_ ≤ tu) (h4 : tu ≤ (bs.length : Int)) :
    Calls Tryz.prog 117 #[.pointer (some ⟨rb, 0, none⟩), .int .i64 n] w
      (NumStep w rb g f c A bs r fl fr tu at_ e (fun v : Int => .int .i64 v) 0 (signedL (partB bs at_ (tu - at_)) n)) := by
  have c0 := cell_blk h.out.blk 0
  have c1 := cell_blk h.out.blk 1
  simp at c0 c1
  by_cases he : e = 0
  · subst he
    have z1 := frozen_blk h.out.blk 1
    have hcu := hide (cur_signed g f c A bs r fl fr tu at_ n w (hide h.out.fl_) (hide h.out.cu) hr1 hr2 hl h1 h2 h4)
    go_enter Tryz.func117, Tryz.ntmps117
    go_wp2_with fail
    refine hcu.out.mono ?_; rintro en w1 ⟨e', r', d, v', rfl, k1, k2, k3, k4, k5, k6⟩
    have hb1 := hide ((k3.out.block rb (blk_lt h.out.blk) (by have := h.out.lt; have := h.out.cu.lt; simp; omega)).trans h.out.blk)
    have d1 := cell_blk hb1.out 1
    simp at d1
    have z1' := frozen_blk hb1.out 1
    go_wp2_with fail
    go_ret
    obtain ⟨q1, q2⟩ := h.out.set k3.out k1.out k2.out e'
    have hcs := signed_cases (partB bs at_ (tu - at_)) n
    have hpl := part_len bs at_ (tu - at_) h1 (by omega) (by omega)
    have hfm := signedL_form (partB bs at_ (tu - at_)) n
    have hk6 := k6.out
    refine ⟨v', r', at_ + d, e', rfl, q1, q2, k4, k5, ?_, ?_, ?_, fun h0 => absurd rfl h0, ?_⟩
    · omega
    · omega
    · show _ → _
      intro h0
      rcases hk6 with ⟨a, _, b⟩ | ⟨_, _, b, _⟩
      · rcases hfm with ⟨_, x⟩ | ⟨_, x | ⟨o, x⟩⟩
        · rw [b, x]
        · rw [b, x]
        · rw [x] at a; exact absurd a h0
      · exact b
    · show Out _ _ _ _ _ _
      rcases hk6 with ⟨a, b, d'⟩ | ⟨a, b, _, d1, d2⟩
      · by_cases h0 : e' = 0
        · exact .inl ⟨rfl, h0, by omega, d', by omega⟩
        · exact .inr ⟨h0, .inr (.inl ⟨rfl, by omega, a⟩)⟩
      · exact .inr ⟨by omega, .inr (.inr ⟨rfl, a, d1, d2⟩)⟩
  · have f1 : (e == 0) = false := by simpa using he
    have f2 : (e != 0) = true := by simpa using he
    have HE := hide he; clear he
    go_enter Tryz.func117, Tryz.ntmps117
    go_wp2_with fail
    go_ret
    exact ⟨0, r, at_, e, rfl, h, Only.refl _ _, by omega, by omega, by omega, h2, fun _ => rfl, fun _ => rfl, .inr ⟨HE.out, .inl ⟨HE.out, rfl⟩⟩⟩
theorem partB_cons (bs : List UInt8) (at_ tu : Int) (b : UInt8) (h1 : 0 ≤ at_) (h3 : at_ < tu) (hb : bs[at_.toNat]? = some b) : ∃ r, partB bs at_ (tu - at_) = b :: r := by
  obtain ⟨hk, hv⟩ := List.getElem?_eq_some_iff.1 hb
  unfold partB
  rw [List.drop_eq_getElem_cons hk, hv]
  obtain ⟨m, hm⟩ : ∃ m, (tu - at_).toNat = m + 1 := ⟨(tu - at_).toNat - 1, by omega⟩
  rw [hm]
  exact ⟨_, rfl⟩

set_option maxHeartbeats 1600000 in
theorem byte_step (rb g f c : Nat) (A : Option Addr) (bs : List UInt8) (r fl fr tu at_ e : Int) (w : World) (h : Hid (RS w rb g f c A bs r fl fr tu at_ e))
    (hr1 : 0 ≤ r) (hr2 : r ≤ 900000) (hl : bs.length ≤ 1000) (h1 : 0 ≤ at_) (h2 : at_ ≤ tu) (h4 : tu ≤ (bs.length : Int)) :
    Calls Tryz.prog 81 #[.pointer (some ⟨rb, 0, none⟩)] w
      (NumStep w rb g f c A bs r fl fr tu at_ e (fun v : Nat => .int .u8 v) 0 (byteL (partB bs at_ (tu - at_)))) := by
  have c0 := cell_blk h.out.blk 0
  have c1 := cell_blk h.out.blk 1
  simp at c0 c1
  by_cases he : e = 0
  · subst he
    have z1 := frozen_blk h.out.blk 1
    by_cases hat : at_ < tu
    · obtain ⟨b, hb⟩ : ∃ b, bs[at_.toNat]? = some b := ⟨_, List.getElem?_eq_getElem (by omega)⟩
      obtain ⟨rest, hp⟩ := partB_cons bs at_ tu b h1 hat hb
      rw [hp]
      clear hp
      by_cases hf : fl < 0 ∨ r < fl
      · have hcu := hide (byte_ok g f c A bs r fl fr tu at_ b w (hide h.out.fl_) (hide h.out.cu) hr1 (by omega) (by omega) h1 hat h4 hf (hide hb))
        clear hf hb
        go_enter Tryz.func81, Tryz.ntmps81
        go_wp2_with fail
        refine hcu.out.mono ?_; rintro en w1 ⟨rfl, k1, k2, k3⟩
        have hb1 := hide ((k3.out.block rb (blk_lt h.out.blk) (by have := h.out.lt; have := h.out.cu.lt; simp; omega)).trans h.out.blk)
        have d1 := cell_blk hb1.out 1
        simp at d1
        have z1' := frozen_blk hb1.out 1
        go_wp2_with fail
        go_ret
        obtain ⟨q1, q2⟩ := h.out.set k3.out k1.out k2.out 0
        exact ⟨b.toNat, r + 1, at_ + 1, 0, rfl, q1, q2, by omega, by omega, by omega, by omega, fun h0 => absurd rfl h0, fun h0 => absurd rfl h0, .inl ⟨rfl, rfl, rfl, rfl, by simp [byteL]⟩⟩
      · have hcu := hide (byte_fault g f c A bs r fl fr tu at_ w (hide h.out.fl_) (hide h.out.cu) hr1 (by omega) (by omega) h1 hat h4 (by omega) (by omega))
        have hf1 : 0 ≤ fl := by omega
        have hf2 : fl ≤ r := by omega
        clear hf hb
        go_enter Tryz.func81, Tryz.ntmps81
        go_wp2_with fail
        refine hcu.out.mono ?_; rintro en w1 ⟨rfl, k1, k2, k3⟩
        have hb1 := hide ((k3.out.block rb (blk_lt h.out.blk) (by have := h.out.lt; have := h.out.cu.lt; simp; omega)).trans h.out.blk)
        have d1 := cell_blk hb1.out 1
        simp at d1
        have z1' := frozen_blk hb1.out 1
        go_wp2_with fail
        go_ret
        obtain ⟨q1, q2⟩ := h.out.set (k3.out.more (by simp)) k1.out k2.out 9
        exact ⟨0, r + 1, at_, 9, rfl, q1, q2, by omega, by omega, by omega, by omega, fun _ => rfl, fun h0 => absurd rfl h0, .inr ⟨by omega, .inr (.inr ⟨rfl, rfl, hf1, by omega⟩)⟩⟩
    · have hat' : at_ = tu := by omega
      subst hat'
      clear hat
      have hp : partB bs at_ (at_ - at_) = [] := by unfold partB; simp
      rw [hp]
      clear hp
      have hcu := hide (byte_short g f fr at_ w (hide h.out.cu) h1 (by omega))
      go_enter Tryz.func81, Tryz.ntmps81
      go_wp2_with fail
      refine hcu.out.mono ?_; rintro en w1 ⟨rfl, dd, rfl⟩
      have ho := Only.drewN [f, g] w dd
      go_wp2_with fail
      go_ret
      obtain ⟨q1, q2⟩ := h.out.set ho (h.out.fl_.keep (Only.drewN [] w dd) (by simp) (by simp)) (h.out.cu.keep (Only.drewN [] w dd) (by simp)) 3
      exact ⟨0, r, at_, 3, rfl, q1, q2, by omega, by omega, by omega, by omega, fun _ => rfl, fun h0 => absurd rfl h0, .inr ⟨by omega, .inr (.inl ⟨rfl, by simp [byteL], by simp [byteL]⟩)⟩⟩
  · have f1 : (e == 0) = false := by simpa using he
    have f2 : (e != 0) = true := by simpa using he
    have HE := hide he; clear he
    go_enter Tryz.func81, Tryz.ntmps81
    go_wp2_with fail
    go_ret
    exact ⟨0, r, at_, e, rfl, h, Only.refl _ _, by omega, by omega, by omega, h2, fun _ => rfl, fun _ => rfl, .inr ⟨HE.out, .inl ⟨HE.out, rfl⟩⟩⟩

/-- a failure, if something is so -/
def failE (e : Int) (is : Bool) (k : Int) : Int := if e = 0 ∧ is = true then k else e
set_option maxHeartbeats 800000 in
theorem fail_step (rb g f c : Nat) (A : Option Addr) (bs : List UInt8) (r fl fr tu at_ e k : Int) (is : Bool) (w : World) (h : Hid (RS w rb g f c A bs r fl fr tu at_ e)) :
    Calls Tryz.prog 83 #[.pointer (some ⟨rb, 0, none⟩), .bool is, .int .i64 k] w fun en w' => en = .returned (.tuple #[]) ∧ Hid (RS w' rb g f c A bs r fl fr tu at_ (failE e is k)) ∧ Hid (Only [rb] w w') := by
  have c0 := cell_blk h.out.blk 0
  have c1 := cell_blk h.out.blk 1
  simp at c0 c1
  have z1 := frozen_blk h.out.blk 1
  by_cases he : e = 0
  · subst he
    cases is with
    | false =>
      have hv : failE 0 false k = 0 := rfl
      rw [hv]
      clear hv
      go_enter Tryz.func83, Tryz.ntmps83
      go_wp2_with fail
      go_end0
      exact ⟨rfl, h, Only.refl _ _⟩
    | true =>
      have hv : failE 0 true k = k := rfl
      rw [hv]
      clear hv
      go_enter Tryz.func83, Tryz.ntmps83
      go_wp2_with fail
      go_end0
      have hs : Only [rb] w (w.setCell ⟨rb, 1, none⟩ (.int .i64 k)) := Only.setCell w (p := ⟨rb, 1, none⟩) (by simp) _
      have hlt := h.out.lt
      have hlt2 := h.out.cu.lt
      exact ⟨rfl, ⟨by rw [setCell_blk h.out.blk]; rfl, h.out.fl_.keep hs (by simp <;> omega) (by simp <;> omega), h.out.cu.keep hs (by simp <;> omega), hlt⟩, hs⟩
  · have hv : failE e is k = e := by unfold failE; rw [if_neg (fun x => he x.1)]
    rw [hv]
    have f1 : (e == 0) = false := by simpa using he
    clear hv he
    go_enter Tryz.func83, Tryz.ntmps83
    go_wp2_with fail
    go_end0
    exact ⟨rfl, h, Only.refl _ _⟩
end Go.Proofs.YtpanlhbdphobdaaGreatDoor

namespace Go.Proofs.YtpanlhbdphobdaaGreatDoor
open Go.RowKit
set_option linter.unusedVariables false

theorem unsignedL_lt (l : List UInt8) (n : Int) : (unsignedL l n).1 ≤ 18446744073709551615 := by
  unfold unsignedL
  rcases rawL_cases l n with ⟨v, size, c, hv, _, _, _, _, _, _, h⟩ | ⟨e, he, h⟩
  · rw [hv]
    simp only [ne_eq, not_true, if_false]
    split
    · simp
    · show v ≤ _; omega
  · rw [he]
    simp only
    rw [if_pos (by omega)]
    simp
theorem partB_drop (bs : List UInt8) (a tu : Int) (k : Nat) (h1 : 0 ≤ a) (h2 : a + k ≤ tu) : partB bs (a + k) (tu - (a + k)) = (partB bs a (tu - a)).drop k := by
  unfold partB
  rw [List.drop_take, List.drop_drop, show (a + k).toNat = k + a.toNat from by omega, Nat.add_comm k, show (tu - (a + k)).toNat = (tu - a).toNat - k from by omega]
theorem step_bd {fl e r' e' : Int} {v V E m : Nat} {Q : Prop} (h : Out fl e E r' e' (v = V ∧ Q)) (hz : e' ≠ 0 → v = 0) (hV : V ≤ m) : v ≤ m := by
  rcases h with ⟨_, _, _, h, _⟩ | ⟨h, _⟩
  · omega
  · rw [hz h]; omega
theorem Only.then_new {S : List Nat} {a b d : World} (h : Only S a b) (k : Below b.heap.size b d) : Only S a d :=
  h.trans (Only.of_below k)

/-- what code leaves -/
structure CodeStep (w : World) (rb g f c : Nat) (A : Option Addr) (bs : List UInt8) (r fl fr tu at_ : Int) (res : Nat × Nat × Nat) (en : Ending) (w' : World) : Prop where
  out : ∃ (v : Nat) (r' at' e' : Int), en = .returned (.int .i64 v) ∧ Hid (RS w' rb g f c A bs r' fl fr tu at' e') ∧ Hid (Only [f, g, rb] w w') ∧ r ≤ r' ∧ r' ≤ r + 22 ∧ at_ ≤ at' ∧ at' ≤ tu ∧ v ≤ 200000 ∧
    Hid (Out fl 0 (codeE res.1 res.2.2) r' e' (v = res.1 ∧ at' = at_ + res.2.1))

/-- the error that is told of a code -/
theorem code_fails (c : Nat) (e : Int) : failE (failE e (foreignL c) 6) (!(opRow (c : Int)).isSome) 4 = if e = 0 then (codeE c 0 : Int) else e := by
  unfold failE codeE
  rw [foreign_eq]
  by_cases h : e = 0
  · subst h
    cases hf : refForeign (c : Int) <;> cases hr : opRow (c : Int) <;> simp
  · simp [h]

/-- what stands behind the code's bytes: the code, how far, how it ended -/
structure Code0 (w : World) (rb g f c : Nat) (A : Option Addr) (bs : List UInt8) (r fl fr tu at_ : Int) (res : Nat × Nat × Nat) (v : Nat) (r' at' e' : Int) (w' : World) : Prop where
  rs : RS w' rb g f c A bs r' fl fr tu at' e'
  only : Only [f, g, rb] w w'
  r1 : r ≤ r'
  r2 : r' ≤ r + 22
  a1 : at_ ≤ at'
  a2 : at' ≤ tu
  vb : v ≤ 200000
  out : Out fl 0 res.2.2 r' e' (v = res.1 ∧ at' = at_ + res.2.1)

theorem byteL_lt (l : List UInt8) : (byteL l).1 ≤ 255 := by
  cases l with
  | nil => simp [byteL]
  | cons b r => have := b.toNat_lt; simp [byteL]; omega

set_option maxHeartbeats 3200000 in
theorem code_step (rb g f c : Nat) (A : Option Addr) (bs : List UInt8) (r fl fr tu at_ : Int) (w : World) (h : Hid (RS w rb g f c A bs r fl fr tu at_ 0))
    (hr1 : 0 ≤ r) (hr2 : r ≤ 890000) (hl : bs.length ≤ 1000) (h1 : 0 ≤ at_) (h2 : at_ ≤ tu) (h4 : tu ≤ (bs.length : Int)) :
    Calls Tryz.prog 49 #[.pointer (some ⟨rb, 0, none⟩)] w (CodeStep w rb g f c A bs r fl fr tu at_ (codeL0 (partB bs at_ (tu - at_)))) := by
  have HB := hide (byte_step rb g f c A bs r fl fr tu at_ 0 w h hr1 (by omega) hl h1 h2 h4)
  have hbl := byteL_lt (partB bs at_ (tu - at_))
  obtain ⟨l, hll⟩ : ∃ l, partB bs at_ (tu - at_) = l := ⟨_, rfl⟩
  rw [hll] at HB hbl ⊢
  have HL := hide hll; clear hll
  obtain ⟨res, hres⟩ : ∃ res, codeL0 l = res := ⟨_, rfl⟩
  rw [hres]
  have HR := hide hres; clear hres
  go_enter Tryz.func49, Tryz.ntmps49
  go_wp2_with fail
  refine HB.out.mono ?_; rintro en w1 ⟨v, r1, at1, e1, rfl, k1, k2, k3, k4, k5, k6, k7, k8, k9⟩
  have hv := step_bd k9.out k7.out hbl
  go_upto_if 10 with fail
  go_cut [3] (fun x wx => ∃ (v : Nat) (r' at' e' : Int), x = .int .i64 v ∧ Hid (Code0 w rb g f c A bs r fl fr tu at_ res v r' at' e' wx))
  case first =>
    by_cases h252 : v = 252
    · subst h252
      have he1 : e1 = 0 := by
        apply Decidable.byContradiction
        intro hn
        have := k7.out hn
        omega
      subst he1
      have HN := hide (number_step rb g f c A bs r1 fl fr tu at1 0 32 w1 k1 (by omega) (by omega) hl (by omega) k6 h4)
      have hul := unsignedL_lt (partB bs at1 (tu - at1)) 32
      have hpart : Hid (∃ b rest, l = b :: rest ∧ b.toNat = 252 ∧ at1 = at_ + 1 ∧ partB bs at1 (tu - at1) = rest) := by
        rcases k9.out with ⟨_, _, he, hv', ha⟩ | ⟨hne, _⟩
        · cases hL : l with
          | nil => rw [hL] at he; simp [byteL] at he
          | cons b rest =>
            rw [hL] at hv' ha
            simp only [byteL] at hv' ha
            have hk := partB_drop bs at_ tu 1 h1 (by omega)
            rw [HL.out, hL] at hk
            exact ⟨b, rest, rfl, hv'.symm, by omega, by rw [show at1 = at_ + ((1 : Nat) : Int) from by omega]; exact hk⟩
        · exact absurd rfl hne
      go_wp2_with fail
      refine HN.out.mono ?_; rintro en w2 ⟨v2, r2, at2, e2, rfl, j1, j2, j3, j4, j5, j6, j7, j8, j9⟩
      have hv2 := step_bd j9.out j7.out hul
      have hfin : ∀ x : Nat, x = 64512 + min v2 65535 → Code0 w rb g f c A bs r fl fr tu at_ res x r2 at2 e2 w2 := fun x hx => by
        obtain ⟨b, rest, hL, hb, ha1, hp⟩ := hpart.out
        have hR : res = (64512 + min (unsignedL rest 32).1 65535, 1 + (unsignedL rest 32).2.1, (unsignedL rest 32).2.2) := by
          rw [← HR.out, hL]; unfold codeL0; simp only; rw [if_pos hb]
        rw [hp] at j9
        refine ⟨j1.out, k2.out.trans j2.out, by omega, by omega, by omega, j6, by omega, ?_⟩
        rw [hR]
        rcases j9.out with ⟨_, q2, q3, q4, q5⟩ | ⟨q1, q2⟩
        · exact .inl ⟨rfl, q2, q3, by rw [hx, q4], by simp only; omega⟩
        · refine .inr ⟨q1, ?_⟩
          rcases q2 with ⟨q2, _⟩ | ⟨_, q2, q3⟩ | ⟨_, q2, q3, q4⟩
          · exact absurd rfl q2
          · exact .inr (.inl ⟨rfl, q2, q3⟩)
          · exact .inr (.inr ⟨rfl, q2, q3, q4⟩)
      have HF := hide hfin; clear hfin
      by_cases hm : v2 ≤ 65535
      · go_wp2_with fail
        go_meet
        exact ⟨64512 + v2, r2, at2, e2, by go_num, HF.out _ (by omega)⟩
      · have hm' : 65535 < v2 := by omega
        clear hm
        go_wp2_with fail
        go_meet
        exact ⟨130047, r2, at2, e2, by go_num, HF.out _ (by omega)⟩
    · have f252 : ((v : Int) == 252) = false := by simp; omega
      go_wp2_with fail
      go_meet
      refine ⟨v, r1, at1, e1, rfl, k1.out, k2.out, k3, by omega, k5, k6, by omega, ?_⟩
      rcases k9.out with ⟨_, q2, q3, q4, q5⟩ | ⟨q1, q2⟩
      · cases hL : l with
        | nil => rw [hL] at q3; simp [byteL] at q3
        | cons b rest =>
          rw [hL] at q4 q5
          simp only [byteL] at q4 q5
          have hR : res = (b.toNat, 1, 0) := by
            rw [← HR.out, hL]; unfold codeL0; simp only; rw [if_neg (by omega)]
          rw [hR]
          exact .inl ⟨rfl, q2, rfl, q4, q5⟩
      · refine .inr ⟨q1, ?_⟩
        rcases q2 with ⟨q2, _⟩ | ⟨_, q2, q3⟩ | ⟨_, q2, q3, q4⟩
        · exact absurd rfl q2
        · cases hL : l with
          | nil =>
            rw [hL] at q3
            have hR : res = (0, 0, 3) := by rw [← HR.out, hL]; rfl
            rw [hR]
            exact .inr (.inl ⟨rfl, by simp, q3⟩)
          | cons b rest => rw [hL] at q2; simp [byteL] at q2
        · exact .inr (.inr ⟨rfl, q2, q3, q4⟩)
  case rest =>
    clear k1 k2 k3 k4 k5 k6 k7 k8 k9 hv
    obtain ⟨v, r', at', e', rfl, k⟩ := hcut
    have hvb := k.out.vb
    obtain ⟨q, hq⟩ : ∃ q, (opRow (v : Int)).isSome = q := ⟨_, rfl⟩
    have HF : Hid (∀ W, Calls Tryz.prog 31 #[.int .i64 (v : Int)] W fun e W' => ∃ u0 u1 u2 A3 n3 c3 A4 n4 c4, e = .returned (.tuple #[.agg #[.int .i64 u0, .string u1, .int .i64 u2, .slice A3 n3 c3, .slice A4 n4 c4], .bool q]) ∧ Hid (Below W.heap.size W W')) := by
      show ∀ W, _
      intro W
      cases ho : opRow (v : Int) with
      | none =>
        rw [ho] at hq
        subst hq
        exact (find_none (v : Int) W (by omega) (by omega) ho).mono fun e W' ⟨he, hb⟩ => ⟨_, _, _, _, _, _, _, _, _, he, hb⟩
      | some row =>
        rw [ho] at hq
        subst hq
        exact (find_some (v : Int) row W (by omega) (by omega) ho).mono fun e W' ⟨A1, c1, A2, c2, he, _, _, hb⟩ => ⟨_, _, _, _, _, _, _, _, _, he, hb⟩
    have HFO := hide (fun W => foreign_any (v : Int) W (by omega) (by omega))
    have HQ := hide hq; clear hq
    have hrbw := blk_lt k.out.rs.blk
    go_wp2_with fail
    refine (HF.out _).mono ?_; rintro e w2 ⟨u0, u1, u2, A3, n3, c3, A4, n4, c4, rfl, hb2⟩
    obtain ⟨W2, hW2⟩ : ∃ W2, w2.alloc (.cells #[.int .i64 u0, .string u1, .int .i64 u2, .slice A3 n3 c3, .slice A4 n4 c4] 63) = W2 := ⟨_, rfl⟩
    have hB2 : Hid (Below wc.heap.size wc W2) := by rw [← hW2]; exact hb2.out.alloc hb2.out.size _
    have HW2 := hide hW2; clear hW2 hb2
    go_wp2_with fail
    rw [HW2.out]
    refine (HFO.out _).mono ?_; rintro e w3 ⟨rfl, hb3⟩
    have hB3 : Hid (Below wc.heap.size wc w3) := hB2.out.trans (hb3.out.mono hB2.out.size)
    have hRS3 := hide (k.out.rs.below hB3.out hrbw)
    have HF1 := hide (fail_step rb g f c A bs r' fl fr tu at' e' 6 (foreignL (v : Int)) w3 hRS3)
    go_wp2_with fail
    refine HF1.out.mono ?_; rintro e w4 ⟨rfl, m1, m2⟩
    have HF2 := hide (fail_step rb g f c A bs r' fl fr tu at' (failE e' (foreignL (v : Int)) 6) 4 (!q) w4 m1)
    go_wp2_with fail
    refine HF2.out.mono ?_; rintro e w5 ⟨rfl, m3, m4⟩
    go_wp2_with fail
    go_ret
    have hfe := code_fails v e'
    rw [HQ.out] at hfe
    rw [hfe] at m3
    have ho : Only [f, g, rb] w w5 := ((k.out.only.then_new hB3.out).trans (m2.out.more (by simp))).trans (m4.out.more (by simp))
    refine ⟨v, r', at', _, rfl, m3, ho, k.out.r1, k.out.r2, k.out.a1, k.out.a2, k.out.vb, ?_⟩
    show Out _ _ _ _ _ _
    rcases k.out.out with ⟨_, q2, q3, q4, q5⟩ | ⟨q1, q2⟩
    · rw [if_pos q2, q3, ← q4]
      by_cases hz : codeE v 0 = 0
      · exact .inl ⟨rfl, by omega, hz, rfl, q5⟩
      · exact .inr ⟨by omega, .inr (.inl ⟨rfl, hz, rfl⟩)⟩
    · rw [if_neg q1]
      refine .inr ⟨q1, ?_⟩
      rcases q2 with ⟨q2, _⟩ | ⟨_, q2, q3⟩ | ⟨_, q2, q3, q4⟩
      · exact absurd rfl q2
      · have : codeE res.1 res.2.2 = res.2.2 := by unfold codeE; rw [if_pos q2]
        exact .inr (.inl ⟨rfl, by omega, by omega⟩)
      · exact .inr (.inr ⟨rfl, q2, q3, q4⟩)
end Go.Proofs.YtpanlhbdphobdaaGreatDoor
