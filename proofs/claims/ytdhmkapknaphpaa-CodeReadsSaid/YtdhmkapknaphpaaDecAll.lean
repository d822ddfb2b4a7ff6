/-
  word.Cut, conv.Wrap: contracts.
  instr: a reader of numbers: number, signed, byte, fail: contracts.
  instr: code: contract.
  instr: labels: contract.
  instr: mem, word: contracts.
  instr: form, blocked, word: contracts.
  instr: numbers: contract.
  instr: Decode: contract.
-/
import Derived.Test.YtdhmkapknaphpaaRows
import Derived.Test.YtdhmkapknaphpaaMem
import Derived.IntWalk
import Derived.Outline
import Derived.Test.YtdhmkapknaphpaaFlashAll
import Derived.Test.YtdhmkapknaphpaaDecPure
import Derived.Deep.DeepCutAuto
import Derived.Test.YtdhmkapknaphpaaLebAll
import Derived.Laws.BitsAllLaws
namespace Go.Proofs.Ytdhmkapknaphpaa
open Go.RowKit
set_option linter.unusedVariables false

set_option maxHeartbeats 400000 in
theorem cut_any (n x : Int) (w : World) (h0 : 0 ≤ x) (h1 : x ≤ 18446744073709551615) :
    Calls Try.prog 89 #[.int .i64 n, .int .u64 x] w fun e w' => e = .returned (.int .u64 (if n = 32 then x % 4294967296 else x)) ∧ w = w' := by
  by_cases h : n = 32
  · subst h
    go_enter Try.func89, Try.ntmps89
    go_wp2_with fail
    go_ret
    exact ⟨rfl, rfl⟩
  · have h' : (n == 32) = false := by simpa using h
    rw [if_neg h]
    clear h
    go_enter Try.func89, Try.ntmps89
    go_wp2_with fail
    go_ret
    exact ⟨rfl, rfl⟩

theorem u64_wrap_bd (x : Int) : 0 ≤ IntKind.u64.wrap x ∧ IntKind.u64.wrap x ≤ 18446744073709551615 := by
  rw [IntKind.wrap_u64]; omega
set_option maxHeartbeats 400000 in
theorem wrap_any (a : Nat) (w : World) (ha : a ≤ 18446744073709551615) :
    Calls Try.prog 82 #[.int .u64 a] w fun e w' => e = .returned (.int .u64 ((a : Int) % 4294967296)) ∧ w = w' := by
  have H := hide (cut_any 32 a w (by omega) (by omega))
  rw [if_pos rfl] at H
  go_enter Try.func82, Try.ntmps82
  go_wp2_with fail
  refine H.out.mono ?_; rintro e w' ⟨rfl, rfl⟩
  go_wp2_with fail
  go_ret
  exact ⟨rfl, rfl⟩

end Go.Proofs.Ytdhmkapknaphpaa

namespace Go.Proofs.Ytdhmkapknaphpaa
open Go.RowKit
set_option linter.unusedVariables false

/-- a reader of numbers: its cursor, the error so far -/
structure RS (w : World) (rb g f c : Nat) (A : Option Addr) (bs : List UInt8) (r fl fr tu at_ e : Int) : Prop where
  blk : w.heap[rb]? = some (.cells #[.pointer (some ⟨g, 0, none⟩), .int .i64 e] 132 (0, 0))
  fl_ : FL w f A c bs r fl
  cu : CU w g f fr tu at_
  lt : g < rb
theorem RS.keep {w w' : World} {rb g f c : Nat} {A : Option Addr} {bs : List UInt8} {r fl fr tu at_ e : Int} {S : List Nat} (h : RS w rb g f c A bs r fl fr tu at_ e) (ho : Only S w w') (h1 : rb ∉ S) (h2 : g ∉ S) (h3 : f ∉ S) (hS : ∀ x, x ∈ S → f ≤ x) : RS w' rb g f c A bs r fl fr tu at_ e :=
  ⟨(ho.block rb (blk_lt h.blk) h1).trans h.blk, h.fl_.keep ho h3 hS, h.cu.keep ho h2, h.lt⟩
theorem RS.below {w w' : World} {rb g f c : Nat} {A : Option Addr} {bs : List UInt8} {r fl fr tu at_ e : Int} {Bk : Nat} (h : RS w rb g f c A bs r fl fr tu at_ e) (hb : Below Bk w w') (h1 : rb < Bk) : RS w' rb g f c A bs r fl fr tu at_ e :=
  ⟨(hb.block rb h1).trans h.blk, h.fl_.below hb (by have := h.lt; have := h.cu.lt; omega), h.cu.below hb (by have := h.lt; omega), h.lt⟩
/-- the cursor has moved, and the reader knows the error -/
theorem RS.set {w w' : World} {rb g f c : Nat} {A : Option Addr} {bs : List UInt8} {r fl fr tu at_ e r' at' : Int} (h : RS w rb g f c A bs r fl fr tu at_ e) (ho : Only [f, g] w w') (hf : FL w' f A c bs r' fl) (hc : CU w' g f fr tu at') (e' : Int) :
    RS (w'.setCell ⟨rb, 1, none⟩ (.int .i64 e')) rb g f c A bs r' fl fr tu at' e' ∧ Only [f, g, rb] w (w'.setCell ⟨rb, 1, none⟩ (.int .i64 e')) := by
  have hl := h.lt
  have hl2 := h.cu.lt
  have hs : Only [rb] w' (w'.setCell ⟨rb, 1, none⟩ (.int .i64 e')) := Only.setCell w' (p := ⟨rb, 1, none⟩) (by simp) _
  refine ⟨⟨?_, hf.keep hs (by simp; omega) (by simp; omega), hc.keep hs (by simp; omega), hl⟩, (ho.more (by simp)).trans (hs.more (by simp))⟩
  rw [setCell_blk ((ho.block rb (blk_lt h.blk) (by simp; omega)).trans h.blk)]
  rfl

/-- how a step ends: well, as the bytes tell; or with an error: that of before, the bytes', or the flash has failed -/
def Out (fl e : Int) (E : Nat) (r' e' : Int) (P : Prop) : Prop :=
  (e = 0 ∧ e' = 0 ∧ E = 0 ∧ P) ∨ (e' ≠ 0 ∧ ((e ≠ 0 ∧ e' = e) ∨ (e = 0 ∧ E ≠ 0 ∧ e' = E) ∨ (e = 0 ∧ e' = 9 ∧ 0 ≤ fl ∧ fl < r')))

structure NumStep (w : World) (rb g f c : Nat) (A : Option Addr) (bs : List UInt8) (r fl fr tu at_ e : Int) {V : Type} (val : V → Value) (z : V) (res : V × Nat × Nat) (en : Ending) (w' : World) : Prop where
  out : ∃ (v : V) (r' at' e' : Int), en = .returned (val v) ∧ Hid (RS w' rb g f c A bs r' fl fr tu at' e') ∧ Hid (Only [f, g, rb] w w') ∧ r ≤ r' ∧ r' ≤ r + 11 ∧ at_ ≤ at' ∧ at' ≤ tu ∧ Hid (e' ≠ 0 → v = z) ∧ Hid (e ≠ 0 → at' = at_) ∧
    Hid (Out fl e res.2.2 r' e' (v = res.1 ∧ at' = at_ + res.2.1))

set_option maxHeartbeats 800000 in
theorem number_step (rb g f c : Nat) (A : Option Addr) (bs : List UInt8) (r fl fr tu at_ e n : Int) (w : World) (h : Hid (RS w rb g f c A bs r fl fr tu at_ e))
    (hr1 : 0 ≤ r) (hr2 : r ≤ 900000) (hl : bs.length ≤ 1000) (h1 : 0 ≤ at_) (h2 : at_ ≤ tu) (h4 : tu ≤ (bs.length : Int)) :
    Calls Try.prog 66 #[.pointer (some ⟨rb, 0, none⟩), .int .i64 n] w
      (NumStep w rb g f c A bs r fl fr tu at_ e (fun v : Nat => .int .u64 v) 0 (unsignedL (partB bs at_ (tu - at_)) n)) := by
  have c0 := cell_blk h.out.blk 0
  have c1 := cell_blk h.out.blk 1
  simp at c0 c1
  by_cases he : e = 0
  · subst he
    have z1 := frozen_blk h.out.blk 1
    have hcu := hide (cur_unsigned g f c A bs r fl fr tu at_ n w (hide h.out.fl_) (hide h.out.cu) hr1 hr2 hl h1 h2 h4)
    go_enter Try.func66, Try.ntmps66
    go_wp2_with fail
    refine hcu.out.mono ?_; rintro en w1 ⟨e', r', d, v', rfl, k1, k2, k3, k4, k5, k6⟩
    have hb1 := hide ((k3.out.block rb (blk_lt h.out.blk) (by have := h.out.lt; have := h.out.cu.lt; simp; omega)).trans h.out.blk)
    have d1 := cell_blk hb1.out 1
    simp at d1
    have z1' := frozen_blk hb1.out 1
    go_wp2_with fail
    go_ret
    obtain ⟨q1, q2⟩ := h.out.set k3.out k1.out k2.out e'
    have hcs := unsigned_cases (partB bs at_ (tu - at_)) n
    have hpl := part_len bs at_ (tu - at_) h1 (by omega) (by omega)
    have hfm := unsignedL_form (partB bs at_ (tu - at_)) n
    have hk6 := k6.out
    refine ⟨v', r', at_ + d, e', rfl, q1, q2, k4, k5, ?_, ?_, ?_, fun h0 => absurd rfl h0, ?_⟩
    · omega
    · omega
    · show _ → _
      intro h0
      rcases hk6 with ⟨a, _, b⟩ | ⟨_, _, b, _⟩
      · rcases hfm with ⟨_, x⟩ | ⟨_, x | ⟨o, x⟩⟩
        · rw [b, x]
        · rw [b, x]
        · rw [x] at a; exact absurd a h0
      · exact b
    · show Out _ _ _ _ _ _
      rcases hk6 with ⟨a, b, d'⟩ | ⟨a, b, _, d1, d2⟩
      · by_cases h0 : e' = 0
        · exact .inl ⟨rfl, h0, by omega, d', by omega⟩
        · exact .inr ⟨h0, .inr (.inl ⟨rfl, by omega, a⟩)⟩
      · exact .inr ⟨by omega, .inr (.inr ⟨rfl, a, d1, d2⟩)⟩
  · have f1 : (e == 0) = false := by simpa using he
    have f2 : (e != 0) = true := by simpa using he
    have HE := hide he; clear he
    go_enter Try.func66, Try.ntmps66
    go_wp2_with fail
    go_ret
    exact ⟨0, r, at_, e, rfl, h, Only.refl _ _, by omega, by omega, by omega, h2, fun _ => rfl, fun _ => rfl, .inr ⟨HE.out, .inl ⟨HE.out, rfl⟩⟩⟩
set_option maxHeartbeats 800000 in
theorem signed_step (rb g f c : Nat) (A : Option Addr) (bs : List UInt8) (r fl fr tu at_ e n : Int) (w : World) (h : Hid (RS w rb g f c A bs r fl fr tu at_ e))
    (hr1 : 0 ≤ r) (hr2 : r ≤ 900000) (hl : bs.length ≤ 1000) (h1 : 0 ≤ at_) (h2 : at_ ≤ tu) (h4 : tu ≤ (bs.length : Int)) :
    Calls Try.prog 81 #[.pointer (some ⟨rb, 0, none⟩), .int .i64 n] w
      (NumStep w rb g f c A bs r fl fr tu at_ e (fun v : Int => .int .i64 v) 0 (signedL (partB bs at_ (tu - at_)) n)) := by
  have c0 := cell_blk h.out.blk 0
  have c1 := cell_blk h.out.blk 1
  simp at c0 c1
  by_cases he : e = 0
  · subst he
    have z1 := frozen_blk h.out.blk 1
    have hcu := hide (cur_signed g f c A bs r fl fr tu at_ n w (hide h.out.fl_) (hide h.out.cu) hr1 hr2 hl h1 h2 h4)
    go_enter Try.func81, Try.ntmps81
    go_wp2_with fail
    refine hcu.out.mono ?_; rintro en w1 ⟨e', r', d, v', rfl, k1, k2, k3, k4, k5, k6⟩
    have hb1 := hide ((k3.out.block rb (blk_lt h.out.blk) (by have := h.out.lt; have := h.out.cu.lt; simp; omega)).trans h.out.blk)
    have d1 := cell_blk hb1.out 1
    simp at d1
    have z1' := frozen_blk hb1.out 1
    go_wp2_with fail
    go_ret
    obtain ⟨q1, q2⟩ := h.out.set k3.out k1.out k2.out e'
    have hcs := signed_cases (partB bs at_ (tu - at_)) n
    have hpl := part_len bs at_ (tu - at_) h1 (by omega) (by omega)
    have hfm := signedL_form (partB bs at_ (tu - at_)) n
    have hk6 := k6.out
    refine ⟨v', r', at_ + d, e', rfl, q1, q2, k4, k5, ?_, ?_, ?_, fun h0 => absurd rfl h0, ?_⟩
    · omega
    · omega
    · show _ → _
      intro h0
      rcases hk6 with ⟨a, _, b⟩ | ⟨_, _, b, _⟩
      · rcases hfm with ⟨_, x⟩ | ⟨_, x | ⟨o, x⟩⟩
        · rw [b, x]
        · rw [b, x]
        · rw [x] at a; exact absurd a h0
      · exact b
    · show Out _ _ _ _ _ _
      rcases hk6 with ⟨a, b, d'⟩ | ⟨a, b, _, d1, d2⟩
      · by_cases h0 : e' = 0
        · exact .inl ⟨rfl, h0, by omega, d', by omega⟩
        · exact .inr ⟨h0, .inr (.inl ⟨rfl, by omega, a⟩)⟩
      · exact .inr ⟨by omega, .inr (.inr ⟨rfl, a, d1, d2⟩)⟩
  · have f1 : (e == 0) = false := by simpa using he
    have f2 : (e != 0) = true := by simpa using he
    have HE := hide he; clear he
    go_enter Try.func81, Try.ntmps81
    go_wp2_with fail
    go_ret
    exact ⟨0, r, at_, e, rfl, h, Only.refl _ _, by omega, by omega, by omega, h2, fun _ => rfl, fun _ => rfl, .inr ⟨HE.out, .inl ⟨HE.out, rfl⟩⟩⟩
theorem partB_cons (bs : List UInt8) (at_ tu : Int) (b : UInt8) (h1 : 0 ≤ at_) (h3 : at_ < tu) (hb : bs[at_.toNat]? = some b) : ∃ r, partB bs at_ (tu - at_) = b :: r := by
  obtain ⟨hk, hv⟩ := List.getElem?_eq_some_iff.1 hb
  unfold partB
  rw [List.drop_eq_getElem_cons hk, hv]
  obtain ⟨m, hm⟩ : ∃ m, (tu - at_).toNat = m + 1 := ⟨(tu - at_).toNat - 1, by omega⟩
  rw [hm]
  exact ⟨_, rfl⟩

set_option maxHeartbeats 1600000 in
theorem byte_step (rb g f c : Nat) (A : Option Addr) (bs : List UInt8) (r fl fr tu at_ e : Int) (w : World) (h : Hid (RS w rb g f c A bs r fl fr tu at_ e))
    (hr1 : 0 ≤ r) (hr2 : r ≤ 900000) (hl : bs.length ≤ 1000) (h1 : 0 ≤ at_) (h2 : at_ ≤ tu) (h4 : tu ≤ (bs.length : Int)) :
    Calls Try.prog 65 #[.pointer (some ⟨rb, 0, none⟩)] w
      (NumStep w rb g f c A bs r fl fr tu at_ e (fun v : Nat => .int .u8 v) 0 (byteL (partB bs at_ (tu - at_)))) := by
  have c0 := cell_blk h.out.blk 0
  have c1 := cell_blk h.out.blk 1
  simp at c0 c1
  by_cases he : e = 0
  · subst he
    have z1 := frozen_blk h.out.blk 1
    by_cases hat : at_ < tu
    · obtain ⟨b, hb⟩ : ∃ b, bs[at_.toNat]? = some b := ⟨_, List.getElem?_eq_getElem (by omega)⟩
      obtain ⟨rest, hp⟩ := partB_cons bs at_ tu b h1 hat hb
      rw [hp]
      clear hp
      by_cases hf : fl < 0 ∨ r < fl
      · have hcu := hide (byte_ok g f c A bs r fl fr tu at_ b w (hide h.out.fl_) (hide h.out.cu) hr1 (by omega) (by omega) h1 hat h4 hf (hide hb))
        clear hf hb
        go_enter Try.func65, Try.ntmps65
        go_wp2_with fail
        refine hcu.out.mono ?_; rintro en w1 ⟨rfl, k1, k2, k3⟩
        have hb1 := hide ((k3.out.block rb (blk_lt h.out.blk) (by have := h.out.lt; have := h.out.cu.lt; simp; omega)).trans h.out.blk)
        have d1 := cell_blk hb1.out 1
        simp at d1
        have z1' := frozen_blk hb1.out 1
        go_wp2_with fail
        go_ret
        obtain ⟨q1, q2⟩ := h.out.set k3.out k1.out k2.out 0
        exact ⟨b.toNat, r + 1, at_ + 1, 0, rfl, q1, q2, by omega, by omega, by omega, by omega, fun h0 => absurd rfl h0, fun h0 => absurd rfl h0, .inl ⟨rfl, rfl, rfl, rfl, by simp [byteL]⟩⟩
      · have hcu := hide (byte_fault g f c A bs r fl fr tu at_ w (hide h.out.fl_) (hide h.out.cu) hr1 (by omega) (by omega) h1 hat h4 (by omega) (by omega))
        have hf1 : 0 ≤ fl := by omega
        have hf2 : fl ≤ r := by omega
        clear hf hb
        go_enter Try.func65, Try.ntmps65
        go_wp2_with fail
        refine hcu.out.mono ?_; rintro en w1 ⟨rfl, k1, k2, k3⟩
        have hb1 := hide ((k3.out.block rb (blk_lt h.out.blk) (by have := h.out.lt; have := h.out.cu.lt; simp; omega)).trans h.out.blk)
        have d1 := cell_blk hb1.out 1
        simp at d1
        have z1' := frozen_blk hb1.out 1
        go_wp2_with fail
        go_ret
        obtain ⟨q1, q2⟩ := h.out.set (k3.out.more (by simp)) k1.out k2.out 9
        exact ⟨0, r + 1, at_, 9, rfl, q1, q2, by omega, by omega, by omega, by omega, fun _ => rfl, fun h0 => absurd rfl h0, .inr ⟨by omega, .inr (.inr ⟨rfl, rfl, hf1, by omega⟩)⟩⟩
    · have hat' : at_ = tu := by omega
      subst hat'
      clear hat
      have hp : partB bs at_ (at_ - at_) = [] := by unfold partB; simp
      rw [hp]
      clear hp
      have hcu := hide (byte_short g f fr at_ w (hide h.out.cu) h1 (by omega))
      go_enter Try.func65, Try.ntmps65
      go_wp2_with fail
      refine hcu.out.mono ?_; rintro en w1 ⟨rfl, dd, rfl⟩
      have ho := Only.drewN [f, g] w dd
      go_wp2_with fail
      go_ret
      obtain ⟨q1, q2⟩ := h.out.set ho (h.out.fl_.keep (Only.drewN [] w dd) (by simp) (by simp)) (h.out.cu.keep (Only.drewN [] w dd) (by simp)) 3
      exact ⟨0, r, at_, 3, rfl, q1, q2, by omega, by omega, by omega, by omega, fun _ => rfl, fun h0 => absurd rfl h0, .inr ⟨by omega, .inr (.inl ⟨rfl, by simp [byteL], by simp [byteL]⟩)⟩⟩
  · have f1 : (e == 0) = false := by simpa using he
    have f2 : (e != 0) = true := by simpa using he
    have HE := hide he; clear he
    go_enter Try.func65, Try.ntmps65
    go_wp2_with fail
    go_ret
    exact ⟨0, r, at_, e, rfl, h, Only.refl _ _, by omega, by omega, by omega, h2, fun _ => rfl, fun _ => rfl, .inr ⟨HE.out, .inl ⟨HE.out, rfl⟩⟩⟩

/-- a failure, if something is so -/
def failE (e : Int) (is : Bool) (k : Int) : Int := if e = 0 ∧ is = true then k else e
set_option maxHeartbeats 800000 in
theorem fail_step (rb g f c : Nat) (A : Option Addr) (bs : List UInt8) (r fl fr tu at_ e k : Int) (is : Bool) (w : World) (h : Hid (RS w rb g f c A bs r fl fr tu at_ e)) :
    Calls Try.prog 68 #[.pointer (some ⟨rb, 0, none⟩), .bool is, .int .i64 k] w fun en w' => en = .returned (.tuple #[]) ∧ Hid (RS w' rb g f c A bs r fl fr tu at_ (failE e is k)) ∧ Hid (Only [rb] w w') := by
  have c0 := cell_blk h.out.blk 0
  have c1 := cell_blk h.out.blk 1
  simp at c0 c1
  have z1 := frozen_blk h.out.blk 1
  by_cases he : e = 0
  · subst he
    cases is with
    | false =>
      have hv : failE 0 false k = 0 := rfl
      rw [hv]
      clear hv
      go_enter Try.func68, Try.ntmps68
      go_wp2_with fail
      go_end0
      exact ⟨rfl, h, Only.refl _ _⟩
    | true =>
      have hv : failE 0 true k = k := rfl
      rw [hv]
      clear hv
      go_enter Try.func68, Try.ntmps68
      go_wp2_with fail
      go_end0
      have hs : Only [rb] w (w.setCell ⟨rb, 1, none⟩ (.int .i64 k)) := Only.setCell w (p := ⟨rb, 1, none⟩) (by simp) _
      have hlt := h.out.lt
      have hlt2 := h.out.cu.lt
      exact ⟨rfl, ⟨by rw [setCell_blk h.out.blk]; rfl, h.out.fl_.keep hs (by simp <;> omega) (by simp <;> omega), h.out.cu.keep hs (by simp <;> omega), hlt⟩, hs⟩
  · have hv : failE e is k = e := by unfold failE; rw [if_neg (fun x => he x.1)]
    rw [hv]
    have f1 : (e == 0) = false := by simpa using he
    clear hv he
    go_enter Try.func68, Try.ntmps68
    go_wp2_with fail
    go_end0
    exact ⟨rfl, h, Only.refl _ _⟩
end Go.Proofs.Ytdhmkapknaphpaa

namespace Go.Proofs.Ytdhmkapknaphpaa
open Go.RowKit
set_option linter.unusedVariables false

theorem unsignedL_lt (l : List UInt8) (n : Int) : (unsignedL l n).1 ≤ 18446744073709551615 := by
  unfold unsignedL
  rcases rawL_cases l n with ⟨v, size, c, hv, _, _, _, _, _, _, h⟩ | ⟨e, he, h⟩
  · rw [hv]
    simp only [ne_eq, not_true, if_false]
    split
    · simp
    · show v ≤ _; omega
  · rw [he]
    simp only
    rw [if_pos (by omega)]
    simp
theorem partB_drop (bs : List UInt8) (a tu : Int) (k : Nat) (h1 : 0 ≤ a) (h2 : a + k ≤ tu) : partB bs (a + k) (tu - (a + k)) = (partB bs a (tu - a)).drop k := by
  unfold partB
  rw [List.drop_take, List.drop_drop, show (a + k).toNat = k + a.toNat from by omega, Nat.add_comm k, show (tu - (a + k)).toNat = (tu - a).toNat - k from by omega]
theorem step_bd {fl e r' e' : Int} {v V E m : Nat} {Q : Prop} (h : Out fl e E r' e' (v = V ∧ Q)) (hz : e' ≠ 0 → v = 0) (hV : V ≤ m) : v ≤ m := by
  rcases h with ⟨_, _, _, h, _⟩ | ⟨h, _⟩
  · omega
  · rw [hz h]; omega
theorem Only.then_new {S : List Nat} {a b d : World} (h : Only S a b) (k : Below b.heap.size b d) : Only S a d :=
  h.trans (Only.of_below k)

/-- what code leaves -/
structure CodeStep (w : World) (rb g f c : Nat) (A : Option Addr) (bs : List UInt8) (r fl fr tu at_ : Int) (res : Nat × Nat × Nat) (en : Ending) (w' : World) : Prop where
  out : ∃ (v : Nat) (r' at' e' : Int), en = .returned (.int .i64 v) ∧ Hid (RS w' rb g f c A bs r' fl fr tu at' e') ∧ Hid (Only [f, g, rb] w w') ∧ r ≤ r' ∧ r' ≤ r + 22 ∧ at_ ≤ at' ∧ at' ≤ tu ∧ v ≤ 200000 ∧
    Hid (Out fl 0 (codeE res.1 res.2.2) r' e' (v = res.1 ∧ at' = at_ + res.2.1))

/-- the error that is told of a code -/
theorem code_fails (c : Nat) (e : Int) : failE (failE e (foreignL c) 6) (!(opRow (c : Int)).isSome) 4 = if e = 0 then (codeE c 0 : Int) else e := by
  unfold failE codeE
  rw [foreign_eq]
  by_cases h : e = 0
  · subst h
    cases hf : refForeign (c : Int) <;> cases hr : opRow (c : Int) <;> simp
  · simp [h]

/-- what stands behind the code's bytes: the code, how far, how it ended -/
structure Code0 (w : World) (rb g f c : Nat) (A : Option Addr) (bs : List UInt8) (r fl fr tu at_ : Int) (res : Nat × Nat × Nat) (v : Nat) (r' at' e' : Int) (w' : World) : Prop where
  rs : RS w' rb g f c A bs r' fl fr tu at' e'
  only : Only [f, g, rb] w w'
  r1 : r ≤ r'
  r2 : r' ≤ r + 22
  a1 : at_ ≤ at'
  a2 : at' ≤ tu
  vb : v ≤ 200000
  out : Out fl 0 res.2.2 r' e' (v = res.1 ∧ at' = at_ + res.2.1)

theorem byteL_lt (l : List UInt8) : (byteL l).1 ≤ 255 := by
  cases l with
  | nil => simp [byteL]
  | cons b r => have := b.toNat_lt; simp [byteL]; omega

set_option maxHeartbeats 3200000 in
theorem code_step (rb g f c : Nat) (A : Option Addr) (bs : List UInt8) (r fl fr tu at_ : Int) (w : World) (h : Hid (RS w rb g f c A bs r fl fr tu at_ 0))
    (hr1 : 0 ≤ r) (hr2 : r ≤ 890000) (hl : bs.length ≤ 1000) (h1 : 0 ≤ at_) (h2 : at_ ≤ tu) (h4 : tu ≤ (bs.length : Int)) :
    Calls Try.prog 55 #[.pointer (some ⟨rb, 0, none⟩)] w (CodeStep w rb g f c A bs r fl fr tu at_ (codeL0 (partB bs at_ (tu - at_)))) := by
  have HB := hide (byte_step rb g f c A bs r fl fr tu at_ 0 w h hr1 (by omega) hl h1 h2 h4)
  have hbl := byteL_lt (partB bs at_ (tu - at_))
  obtain ⟨l, hll⟩ : ∃ l, partB bs at_ (tu - at_) = l := ⟨_, rfl⟩
  rw [hll] at HB hbl ⊢
  have HL := hide hll; clear hll
  obtain ⟨res, hres⟩ : ∃ res, codeL0 l = res := ⟨_, rfl⟩
  rw [hres]
  have HR := hide hres; clear hres
  go_enter Try.func55, Try.ntmps55
  go_wp2_with fail
  refine HB.out.mono ?_; rintro en w1 ⟨v, r1, at1, e1, rfl, k1, k2, k3, k4, k5, k6, k7, k8, k9⟩
  have hv := step_bd k9.out k7.out hbl
  go_upto_if 10 with fail
  go_cut [3] (fun x wx => ∃ (v : Nat) (r' at' e' : Int), x = .int .i64 v ∧ Hid (Code0 w rb g f c A bs r fl fr tu at_ res v r' at' e' wx))
  case first =>
    by_cases h252 : v = 252
    · subst h252
      have he1 : e1 = 0 := by
        apply Decidable.byContradiction
        intro hn
        have := k7.out hn
        omega
      subst he1
      have HN := hide (number_step rb g f c A bs r1 fl fr tu at1 0 32 w1 k1 (by omega) (by omega) hl (by omega) k6 h4)
      have hul := unsignedL_lt (partB bs at1 (tu - at1)) 32
      have hpart : Hid (∃ b rest, l = b :: rest ∧ b.toNat = 252 ∧ at1 = at_ + 1 ∧ partB bs at1 (tu - at1) = rest) := by
        rcases k9.out with ⟨_, _, he, hv', ha⟩ | ⟨hne, _⟩
        · cases hL : l with
          | nil => rw [hL] at he; simp [byteL] at he
          | cons b rest =>
            rw [hL] at hv' ha
            simp only [byteL] at hv' ha
            have hk := partB_drop bs at_ tu 1 h1 (by omega)
            rw [HL.out, hL] at hk
            exact ⟨b, rest, rfl, hv'.symm, by omega, by rw [show at1 = at_ + ((1 : Nat) : Int) from by omega]; exact hk⟩
        · exact absurd rfl hne
      go_wp2_with fail
      refine HN.out.mono ?_; rintro en w2 ⟨v2, r2, at2, e2, rfl, j1, j2, j3, j4, j5, j6, j7, j8, j9⟩
      have hv2 := step_bd j9.out j7.out hul
      have hfin : ∀ x : Nat, x = 64512 + min v2 65535 → Code0 w rb g f c A bs r fl fr tu at_ res x r2 at2 e2 w2 := fun x hx => by
        obtain ⟨b, rest, hL, hb, ha1, hp⟩ := hpart.out
        have hR : res = (64512 + min (unsignedL rest 32).1 65535, 1 + (unsignedL rest 32).2.1, (unsignedL rest 32).2.2) := by
          rw [← HR.out, hL]; unfold codeL0; simp only; rw [if_pos hb]
        rw [hp] at j9
        refine ⟨j1.out, k2.out.trans j2.out, by omega, by omega, by omega, j6, by omega, ?_⟩
        rw [hR]
        rcases j9.out with ⟨_, q2, q3, q4, q5⟩ | ⟨q1, q2⟩
        · exact .inl ⟨rfl, q2, q3, by rw [hx, q4], by simp only; omega⟩
        · refine .inr ⟨q1, ?_⟩
          rcases q2 with ⟨q2, _⟩ | ⟨_, q2, q3⟩ | ⟨_, q2, q3, q4⟩
          · exact absurd rfl q2
          · exact .inr (.inl ⟨rfl, q2, q3⟩)
          · exact .inr (.inr ⟨rfl, q2, q3, q4⟩)
      have HF := hide hfin; clear hfin
      by_cases hm : v2 ≤ 65535
      · go_wp2_with fail
        go_meet
        exact ⟨64512 + v2, r2, at2, e2, by go_num, HF.out _ (by omega)⟩
      · have hm' : 65535 < v2 := by omega
        clear hm
        go_wp2_with fail
        go_meet
        exact ⟨130047, r2, at2, e2, by go_num, HF.out _ (by omega)⟩
    · have f252 : ((v : Int) == 252) = false := by simp; omega
      go_wp2_with fail
      go_meet
      refine ⟨v, r1, at1, e1, rfl, k1.out, k2.out, k3, by omega, k5, k6, by omega, ?_⟩
      rcases k9.out with ⟨_, q2, q3, q4, q5⟩ | ⟨q1, q2⟩
      · cases hL : l with
        | nil => rw [hL] at q3; simp [byteL] at q3
        | cons b rest =>
          rw [hL] at q4 q5
          simp only [byteL] at q4 q5
          have hR : res = (b.toNat, 1, 0) := by
            rw [← HR.out, hL]; unfold codeL0; simp only; rw [if_neg (by omega)]
          rw [hR]
          exact .inl ⟨rfl, q2, rfl, q4, q5⟩
      · refine .inr ⟨q1, ?_⟩
        rcases q2 with ⟨q2, _⟩ | ⟨_, q2, q3⟩ | ⟨_, q2, q3, q4⟩
        · exact absurd rfl q2
        · cases hL : l with
          | nil =>
            rw [hL] at q3
            have hR : res = (0, 0, 3) := by rw [← HR.out, hL]; rfl
            rw [hR]
            exact .inr (.inl ⟨rfl, by simp, q3⟩)
          | cons b rest => rw [hL] at q2; simp [byteL] at q2
        · exact .inr (.inr ⟨rfl, q2, q3, q4⟩)
  case rest =>
    clear k1 k2 k3 k4 k5 k6 k7 k8 k9 hv
    obtain ⟨v, r', at', e', rfl, k⟩ := hcut
    have hvb := k.out.vb
    obtain ⟨q, hq⟩ : ∃ q, (opRow (v : Int)).isSome = q := ⟨_, rfl⟩
    have HF : Hid (∀ W, Calls Try.prog 67 #[.int .i64 (v : Int)] W fun e W' => ∃ u0 u1 u2 A3 n3 c3 A4 n4 c4, e = .returned (.tuple #[.agg #[.int .i64 u0, .string u1, .int .i64 u2, .slice A3 n3 c3, .slice A4 n4 c4], .bool q]) ∧ Hid (Below W.heap.size W W')) := by
      show ∀ W, _
      intro W
      cases ho : opRow (v : Int) with
      | none =>
        rw [ho] at hq
        subst hq
        exact (find_none (v : Int) W (by omega) (by omega) ho).mono fun e W' ⟨he, hb⟩ => ⟨_, _, _, _, _, _, _, _, _, he, hb⟩
      | some row =>
        rw [ho] at hq
        subst hq
        exact (find_some (v : Int) row W (by omega) (by omega) ho).mono fun e W' ⟨A1, c1, A2, c2, he, _, _, hb⟩ => ⟨_, _, _, _, _, _, _, _, _, he, hb⟩
    have HFO := hide (fun W => foreign_any (v : Int) W (by omega) (by omega))
    have HQ := hide hq; clear hq
    have hrbw := blk_lt k.out.rs.blk
    go_wp2_with fail
    refine (HF.out _).mono ?_; rintro e w2 ⟨u0, u1, u2, A3, n3, c3, A4, n4, c4, rfl, hb2⟩
    obtain ⟨W2, hW2⟩ : ∃ W2, w2.alloc (.cells #[.int .i64 u0, .string u1, .int .i64 u2, .slice A3 n3 c3, .slice A4 n4 c4] 155) = W2 := ⟨_, rfl⟩
    have hB2 : Hid (Below wc.heap.size wc W2) := by rw [← hW2]; exact hb2.out.alloc hb2.out.size _
    have HW2 := hide hW2; clear hW2 hb2
    go_wp2_with fail
    rw [HW2.out]
    refine (HFO.out _).mono ?_; rintro e w3 ⟨rfl, hb3⟩
    have hB3 : Hid (Below wc.heap.size wc w3) := hB2.out.trans (hb3.out.mono hB2.out.size)
    have hRS3 := hide (k.out.rs.below hB3.out hrbw)
    have HF1 := hide (fail_step rb g f c A bs r' fl fr tu at' e' 6 (foreignL (v : Int)) w3 hRS3)
    go_wp2_with fail
    refine HF1.out.mono ?_; rintro e w4 ⟨rfl, m1, m2⟩
    have HF2 := hide (fail_step rb g f c A bs r' fl fr tu at' (failE e' (foreignL (v : Int)) 6) 4 (!q) w4 m1)
    go_wp2_with fail
    refine HF2.out.mono ?_; rintro e w5 ⟨rfl, m3, m4⟩
    go_wp2_with fail
    go_ret
    have hfe := code_fails v e'
    rw [HQ.out] at hfe
    rw [hfe] at m3
    have ho : Only [f, g, rb] w w5 := ((k.out.only.then_new hB3.out).trans (m2.out.more (by simp))).trans (m4.out.more (by simp))
    refine ⟨v, r', at', _, rfl, m3, ho, k.out.r1, k.out.r2, k.out.a1, k.out.a2, k.out.vb, ?_⟩
    show Out _ _ _ _ _ _
    rcases k.out.out with ⟨_, q2, q3, q4, q5⟩ | ⟨q1, q2⟩
    · rw [if_pos q2, q3, ← q4]
      by_cases hz : codeE v 0 = 0
      · exact .inl ⟨rfl, by omega, hz, rfl, q5⟩
      · exact .inr ⟨by omega, .inr (.inl ⟨rfl, hz, rfl⟩)⟩
    · rw [if_neg q1]
      refine .inr ⟨q1, ?_⟩
      rcases q2 with ⟨q2, _⟩ | ⟨_, q2, q3⟩ | ⟨_, q2, q3, q4⟩
      · exact absurd rfl q2
      · have : codeE res.1 res.2.2 = res.2.2 := by unfold codeE; rw [if_pos q2]
        exact .inr (.inl ⟨rfl, by omega, by omega⟩)
      · exact .inr (.inr ⟨rfl, q2, q3, q4⟩)
end Go.Proofs.Ytdhmkapknaphpaa

namespace Go.Proofs.Ytdhmkapknaphpaa
open Go.RowKit
set_option linter.unusedVariables false

theorem nat_elem : IsElem Try.prog 25 24 1 8 := IsElem.mk' Try.underlying25 (z := .int .u64 0) (by kernel_rfl) rfl (by omega)
def U (n : Nat) : Value := .int .u64 (n : Int)

/-- the labels, as they are read: the error, how many bytes, they -/
def labsR (l : List UInt8) : Nat × Nat × List Nat :=
  if (unsignedL l 32).2.2 ≠ 0 then ((unsignedL l 32).2.2, 0, []) else if 100 < (unsignedL l 32).1 then (15, 0, []) else
  if (labelsL (unsignedL l 32).1 (l.drop (unsignedL l 32).2.1)).1 ≠ 0 then ((labelsL (unsignedL l 32).1 (l.drop (unsignedL l 32).2.1)).1, 0, [])
  else (0, (unsignedL l 32).2.1 + (labelsL (unsignedL l 32).1 (l.drop (unsignedL l 32).2.1)).2.1, (labelsL (unsignedL l 32).1 (l.drop (unsignedL l 32).2.1)).2.2)

/-- labels ahead of others -/
def appL (xs : List Nat) (K : Nat) (p : Nat × Nat × List Nat) : Nat × Nat × List Nat := if p.1 ≠ 0 then (p.1, 0, []) else (0, K + p.2.1, xs ++ p.2.2)
theorem appL_step {n : Nat} {l : List UInt8} {xs : List Nat} {K : Nat} (h : (unsignedL l 32).2.2 = 0) : appL xs K (labelsL (n + 1) l) = appL (xs ++ [(unsignedL l 32).1]) (K + (unsignedL l 32).2.1) (labelsL n (l.drop (unsignedL l 32).2.1)) := by
  have e : labelsL (n + 1) l = if (labelsL n (l.drop (unsignedL l 32).2.1)).1 ≠ 0 then ((labelsL n (l.drop (unsignedL l 32).2.1)).1, 0, [])
    else (0, (unsignedL l 32).2.1 + (labelsL n (l.drop (unsignedL l 32).2.1)).2.1, (unsignedL l 32).1 :: (labelsL n (l.drop (unsignedL l 32).2.1)).2.2) := by
    rw [labelsL]; rw [if_neg (fun x => x h)]
  rw [e]
  unfold appL
  by_cases h2 : (labelsL n (l.drop (unsignedL l 32).2.1)).1 = 0
  · simp [h2, Nat.add_assoc]
  · simp [h2]
theorem appL_bad {n : Nat} {l : List UInt8} {xs : List Nat} {K : Nat} (h : (unsignedL l 32).2.2 ≠ 0) : (appL xs K (labelsL (n + 1) l)).1 = (unsignedL l 32).2.2 := by
  have e : labelsL (n + 1) l = ((unsignedL l 32).2.2, 0, []) := by rw [labelsL]; rw [if_pos h]
  rw [e]
  unfold appL
  simp [h]
theorem appL_zero (xs : List Nat) (K : Nat) (l : List UInt8) : appL xs K (labelsL 0 l) = (0, K, xs) := by simp [appL, labelsL]
theorem labsR_start {l : List UInt8} (h : (unsignedL l 32).2.2 = 0) (h2 : (unsignedL l 32).1 ≤ 100) : labsR l = appL [] (unsignedL l 32).2.1 (labelsL (unsignedL l 32).1 (l.drop (unsignedL l 32).2.1)) := by
  unfold labsR appL
  rw [if_neg (fun x => x h), if_neg (by omega)]
  simp

/-- how far the labels have been read: k of v -/
structure LabSt (w : World) (rb g f c base : Nat) (A : Option Addr) (bs : List UInt8) (r fl fr tu at_ : Int) (l : List UInt8) (v : Nat) (val : Value) (k : Nat) (w' : World) : Prop where
  out : ∃ (xs : List Nat) (K : Nat) (r' at' e' : Int), Hid (RS w' rb g f c A bs r' fl fr tu at' e') ∧ Hid (Only [f, g, rb] w w') ∧ base ≤ w'.heap.size ∧ r ≤ r' ∧ r' ≤ r + 11 + 11 * (k : Int) ∧ at_ ≤ at' ∧ at' ≤ tu ∧
    Hid (w'.ownsRow base 24 1 val xs.length (xs.map U)) ∧ xs.length = k ∧ (100 < v → e' ≠ 0 ∧ k = 0) ∧
    Hid ((e' = 0 ∧ at' = at_ + K ∧ K ≤ l.length ∧ labsR l = appL xs K (labelsL (v - k) (l.drop K))) ∨ (e' ≠ 0 ∧ ((labsR l).1 ≠ 0 ∧ e' = (labsR l).1 ∨ e' = 9 ∧ 0 ≤ fl ∧ fl < r')))

/-- what labels leaves -/
structure LabStep (w : World) (rb g f c : Nat) (A : Option Addr) (bs : List UInt8) (r fl fr tu at_ : Int) (res : Nat × Nat × List Nat) (en : Ending) (w' : World) : Prop where
  out : ∃ (Al : Option Addr) (cl : Nat) (xs : List Nat) (r' at' e' : Int), en = .returned (.slice Al xs.length cl) ∧ Hid (w'.ownsRow w.heap.size 24 1 (.slice Al xs.length cl) xs.length (xs.map U)) ∧ Hid (RS w' rb g f c A bs r' fl fr tu at' e') ∧ Hid (Only [f, g, rb] w w') ∧ r ≤ r' ∧ r' ≤ r + 1200 ∧ at_ ≤ at' ∧ at' ≤ tu ∧
    xs.length ≤ 100 ∧ Hid (Out fl 0 res.1 r' e' (at' = at_ + res.2.1 ∧ xs = res.2.2))

set_option maxHeartbeats 3200000 in
theorem labels_step (rb g f c : Nat) (A : Option Addr) (bs : List UInt8) (r fl fr tu at_ : Int) (w : World) (h : Hid (RS w rb g f c A bs r fl fr tu at_ 0))
    (hr1 : 0 ≤ r) (hr2 : r ≤ 890000) (hl : bs.length ≤ 1000) (h1 : 0 ≤ at_) (h2 : at_ ≤ tu) (h4 : tu ≤ (bs.length : Int)) :
    Calls Try.prog 72 #[.pointer (some ⟨rb, 0, none⟩)] w (LabStep w rb g f c A bs r fl fr tu at_ (labsR (partB bs at_ (tu - at_)))) := by
  have HN := hide (number_step rb g f c A bs r fl fr tu at_ 0 32 w h hr1 (by omega) hl h1 h2 h4)
  have hul := unsignedL_lt (partB bs at_ (tu - at_)) 32
  have hpl := part_len bs at_ (tu - at_) h1 (by omega) (by omega)
  have hcs := unsigned_cases (partB bs at_ (tu - at_)) 32
  obtain ⟨l, hll⟩ : ∃ l, partB bs at_ (tu - at_) = l := ⟨_, rfl⟩
  rw [hll] at HN hul hpl hcs ⊢
  have HL := hide hll; clear hll
  obtain ⟨base, hbase⟩ : ∃ b, w.heap.size = b := ⟨_, rfl⟩
  have HB := hide hbase; clear hbase
  go_enter Try.func72, Try.ntmps72
  go_wp2_with fail
  refine HN.out.mono ?_; rintro en w1 ⟨v, r1, at1, e1, rfl, k1, k2, k3, k4, k5, k6, k7, k8, k9⟩
  have hv := step_bd k9.out k7.out hul
  obtain ⟨big, hbig⟩ : ∃ b, decide (100 < v) = b := ⟨_, rfl⟩
  have hbig' : decide ((100 : Int) < (v : Int)) = big := by rw [← hbig]; simp <;> omega
  have HF := hide (fail_step rb g f c A bs r1 fl fr tu at1 e1 15 big w1 k1)
  have hsz1 := k2.out.size
  rw [HB.out] at hsz1
  have hst0 : ∀ w2, RS w2 rb g f c A bs r1 fl fr tu at1 (failE e1 big 15) → Only [rb] w1 w2 → LabSt w rb g f c base A bs r fl fr tu at_ l v (.slice none 0 0) 0 w2 := fun w2 m1 m2 => by
    have hs2 := m2.size
    have hko := k2.out.trans (m2.more (by simp))
    have hk9 := k9.out
    by_cases he : e1 = 0
    · subst he
      have hpure : (unsignedL l 32).2.2 = 0 ∧ v = (unsignedL l 32).1 ∧ at1 = at_ + (unsignedL l 32).2.1 := by
        rcases hk9 with ⟨_, _, a, b, d⟩ | ⟨a, _⟩
        · exact ⟨a, b, d⟩
        · exact absurd rfl a
      obtain ⟨p1, p2, p3⟩ := hpure
      by_cases h100 : 100 < v
      · have hb : big = true := by rw [← hbig]; simpa using h100
        subst hb
        have hf15 : failE 0 true 15 = 15 := rfl
        rw [hf15] at m1
        have hE : (labsR l).1 = 15 := by unfold labsR; rw [if_neg (fun x => x p1), if_pos (by omega)]
        exact ⟨[], 0, r1, at1, 15, m1, hko, by omega, by omega, by omega, k5, k6, own_nil _ _ _ _, rfl, fun _ => ⟨by omega, rfl⟩, .inr ⟨by omega, .inl ⟨by omega, by omega⟩⟩⟩
      · have hb : big = false := by rw [← hbig]; simpa using h100
        subst hb
        have hf0 : failE 0 false 15 = 0 := rfl
        rw [hf0] at m1
        refine ⟨[], (unsignedL l 32).2.1, r1, at1, 0, m1, hko, by omega, by omega, by omega, k5, k6, own_nil _ _ _ _, rfl, fun h => absurd h h100, .inl ⟨rfl, p3, by omega, ?_⟩⟩
        rw [labsR_start p1 (by omega), ← p2]
        rfl
    · have hv0 := k7.out he
      subst hv0
      have hf : failE e1 big 15 = e1 := by unfold failE; rw [if_neg (fun x => he x.1)]
      rw [hf] at m1
      refine ⟨[], 0, r1, at1, e1, m1, hko, by omega, by omega, by omega, k5, k6, own_nil _ _ _ _, rfl, fun h => by omega, .inr ⟨he, ?_⟩⟩
      rcases hk9 with ⟨_, a, _⟩ | ⟨_, ⟨a, _⟩ | ⟨_, a, b⟩ | ⟨_, a, b, d⟩⟩
      · exact absurd a he
      · exact absurd rfl a
      · have hE : (labsR l).1 = (unsignedL l 32).2.2 := by unfold labsR; rw [if_pos a]
        exact .inl ⟨by omega, by omega⟩
      · exact .inr ⟨a, b, d⟩
  have HST := hide hst0; clear hst0
  have HBIG := hide hbig; clear hbig hcs
  go_wp2_with fail
  refine HF.out.mono ?_; rintro en w2 ⟨rfl, m1, m2⟩
  have HS0 := hide (HST.out w2 m1.out m2.out)
  clear hbig'
  go_wp2_with fail
  go_loopw [4, 12] (fun val i w3 => ∃ k : Nat, i = .int .u64 k ∧ k ≤ v ∧ Hid (LabSt w rb g f c base A bs r fl fr tu at_ l v val k w3)) (fun _ i _ => v - (intOf i).toNat)
  case atStart => exact ⟨0, rfl, by omega, HS0⟩
  case round =>
    clear HS0
    obtain ⟨k, rfl, hk, hs⟩ := hrel
    obtain ⟨xs, K, r', at', e', s1, s2, s3, s4, s5, s6, s7, s8, rfl, s10, s11⟩ := hs.out
    have d1 := cell_blk s1.out.blk 1
    simp at d1
    obtain ⟨Al, cl, hval, hcl1, hcl2⟩ := own_form s8.out
    subst hval
    have hr' : r' ≤ r + 1200 := by
      by_cases h100 : 100 < v
      · have := (s10 h100).2; omega
      · omega
    have hx100 : xs.length ≤ 100 := by
      by_cases h100 : 100 < v
      · have := (s10 h100).2; omega
      · omega
    have hown : Hid (wr.ownsRow w.heap.size 24 1 (.slice Al xs.length cl) xs.length (xs.map U)) := by rw [HB.out]; exact s8.out
    by_cases hlt : xs.length < v
    · by_cases he : e' = 0
      · subst he
        have hv100 : v ≤ 100 := by
          apply Decidable.byContradiction
          intro hn
          exact (s10 (by omega)).1 rfl
        obtain ⟨t1, t2, t3⟩ : at' = at_ + K ∧ K ≤ l.length ∧ labsR l = appL xs K (labelsL (v - xs.length) (l.drop K)) := by
          rcases s11.out with ⟨_, a, b, d⟩ | ⟨a, _⟩
          · exact ⟨a, b, d⟩
          · exact absurd rfl a
        have hp : partB bs at' (tu - at') = l.drop K := by
          rw [t1, partB_drop bs at_ tu K h1 (by omega), HL.out]
        have HN2 := hide (number_step rb g f c A bs r' fl fr tu at' 0 32 wr s1 (by omega) (by omega) hl (by omega) s7 h4)
        rw [hp] at HN2
        have hcs2 := unsigned_cases (l.drop K) 32
        have T3 := hide t3
        have hroom : Room xs.length 1 8 := room_of (by omega) (by omega)
        have hsub : v - xs.length = (v - (xs.length + 1)) + 1 := by omega
        have HSUB := hide hsub
        have HP := hide hp
        have T1 := hide t1
        have HCS2 := hide hcs2
        clear t1 t3 hp s11 s10 hsub hcs2
        go_wp2_with fail
        refine HN2.out.mono ?_; rintro en w3 ⟨v3, r3, at3, e3, rfl, n1, n2, n3, n4, n5, n6, n7, n8, n9⟩
        have hown3 := hide (own_only3 s8.out n2.out (fun q hq => by have := own_ge s8.out q hq; have := blk_lt h.out.blk; have := h.out.lt; have := h.out.cu.lt; rw [HB.out] at *; simp; omega))
        have hsz3 : base ≤ w3.heap.size := Nat.le_trans s3 n2.out.size
        go_wp2_with (at_builtin; refine wpList_push rfl _ _ rfl base nat_elem _ xs.length (xs.map U) rfl w3 (.int .u64 (v3 : Int)) 24 rfl hown3.out rfl rfl hroom hsz3 ?_; intro v' w4 ho4 hg4)
        have hb4 := hg4.below hsz3 (own_ge hown3.out)
        have hown4 : Hid (w4.ownsRow base 24 1 v' (xs ++ [v3]).length ((xs ++ [v3]).map U)) := own_cast ho4 (by simp) (by simp [U])
        have hlt3 : rb < base := by have := blk_lt h.out.blk; rw [HB.out] at this; exact this
        have hRS4 := hide (n1.out.below hb4 hlt3)
        have honly4 : Hid (Only [f, g, rb] w w4) := by
          have o3 := s2.out.trans n2.out
          exact ⟨hb4.os.trans o3.os, hb4.tape.trans o3.tape, hb4.output.trans o3.output, Nat.le_trans o3.size hb4.size, fun i hi hn => (hb4.block i (by rw [HB.out] at hi; exact hi)).trans (o3.block i hi hn)⟩
        have hnext : Hid ((e3 = 0 ∧ at3 = at_ + ((K + (unsignedL (l.drop K) 32).2.1 : Nat) : Int) ∧ K + (unsignedL (l.drop K) 32).2.1 ≤ l.length ∧ labsR l = appL (xs ++ [v3]) (K + (unsignedL (l.drop K) 32).2.1) (labelsL (v - (xs.length + 1)) (l.drop (K + (unsignedL (l.drop K) 32).2.1)))) ∨ (e3 ≠ 0 ∧ ((labsR l).1 ≠ 0 ∧ e3 = (labsR l).1 ∨ e3 = 9 ∧ 0 ≤ fl ∧ fl < r3))) := by
          show _ ∨ _
          rcases n9.out with ⟨_, a, b, d, d2⟩ | ⟨a, ⟨b, _⟩ | ⟨_, b, d⟩ | ⟨_, b, d, d2⟩⟩
          · refine .inl ⟨a, by have := T1.out; omega, ?_, ?_⟩
            · have := HCS2.out
              rw [List.length_drop] at this
              omega
            · rw [T3.out, HSUB.out, appL_step b, ← d, List.drop_drop]
          · exact absurd rfl b
          · refine .inr ⟨a, .inl ?_⟩
            rw [T3.out, HSUB.out, appL_bad b]
            exact ⟨b, d⟩
          · exact .inr ⟨a, .inr ⟨b, d, d2⟩⟩
        go_roundw
        case rel =>
          refine ⟨xs.length + 1, by go_num, by omega, ⟨xs ++ [v3], K + (unsignedL (l.drop K) 32).2.1, r3, at3, e3, hRS4, honly4, Nat.le_trans hsz3 hb4.size, by omega, by omega, by omega, n6, hown4, by simp, fun h100 => by omega, hnext⟩⟩
        case measure => simp [intOf] <;> omega
      · have f2 : (e' != 0) = true := by simpa using he
        have HE := hide he
        clear he
        go_wp2_with fail
        go_ret
        refine ⟨Al, cl, xs, r', at', e', rfl, hown, s1, s2, s4, hr', s6, s7, hx100, ?_⟩
        rcases s11.out with ⟨a, _⟩ | ⟨a, b⟩
        · exact absurd a HE.out
        · refine .inr ⟨a, .inr ?_⟩
          rcases b with ⟨b1, b2⟩ | b
          · exact .inl ⟨rfl, b1, b2⟩
          · exact .inr ⟨rfl, b⟩
    · have hkv : xs.length = v := by omega
      subst hkv
      clear hlt
      go_wp2_with fail
      go_ret
      refine ⟨Al, cl, xs, r', at', e', rfl, hown, s1, s2, s4, hr', s6, s7, hx100, ?_⟩
      rcases s11.out with ⟨a, b, d, d2⟩ | ⟨a, b⟩
      · rw [Nat.sub_self, appL_zero] at d2
        rw [d2]
        exact .inl ⟨rfl, a, rfl, by simp only; omega, rfl⟩
      · refine .inr ⟨a, .inr ?_⟩
        rcases b with ⟨b1, b2⟩ | b
        · exact .inl ⟨rfl, b1, b2⟩
        · exact .inr ⟨rfl, b⟩
end Go.Proofs.Ytdhmkapknaphpaa

namespace Go.Proofs.Ytdhmkapknaphpaa
open Go.RowKit
set_option linter.unusedVariables false

theorem and64 (v : Nat) : v &&& 64 = 64 * (v / 64 % 2) := by
  apply Nat.eq_of_testBit_eq
  intro i
  rw [Nat.testBit_and, show (64 : Nat) = 2 ^ 6 from rfl, Nat.testBit_two_pow_mul]
  by_cases h : i = 6
  · subst h
    simp [Nat.testBit, Nat.shiftRight_eq_div_pow]
  · have h1 : Nat.testBit (2 ^ 6) i = false := by rw [Nat.testBit_two_pow]; simp; omega
    rw [h1, Bool.and_false]
    by_cases h2 : 6 ≤ i
    · have h3 : (v / 2 ^ 6 % 2).testBit (i - 6) = false := Nat.testBit_lt_two_pow (Nat.lt_of_lt_of_le (Nat.mod_lt _ (by omega)) (by
        have : 2 ^ 1 ≤ 2 ^ (i - 6) := Nat.pow_le_pow_right (by omega) (by omega)
        omega))
      simp [h3]
    · simp; omega
theorem and64_not (v : Nat) (hv : v < 2 ^ 64) : v &&& (18446744073709551615 - 64) = v - 64 * (v / 64 % 2) := by
  have hj : 2 ^ 7 * (v / 2 ^ 7) ||| v % 2 ^ 6 = 2 ^ 7 * (v / 2 ^ 7) + v % 2 ^ 6 := nat_join 7 _ _ (by simp) (by omega)
  have e : v - 64 * (v / 64 % 2) = 2 ^ 7 * (v / 2 ^ 7) + v % 2 ^ 6 := by omega
  rw [e, ← hj]
  apply Nat.eq_of_testBit_eq
  intro i
  rw [Nat.testBit_and, Nat.testBit_or, show (18446744073709551615 - 64 : Nat) = 2 ^ 64 - (64 + 1) from rfl, Nat.testBit_two_pow_sub_succ (by omega), Nat.testBit_two_pow_mul, Nat.testBit_mod_two_pow, Nat.testBit_div_two_pow]
  have h6 : Nat.testBit 64 i = decide (i = 6) := by rw [show (64 : Nat) = 2 ^ 6 from rfl, Nat.testBit_two_pow]; simp [eq_comm]
  rw [h6]
  by_cases h64 : i < 64
  · by_cases h : i = 6
    · subst h; simp
    · by_cases h7 : 7 ≤ i
      · simp [h, h64, h7, show ¬ i < 6 from by omega, show i - 7 + 7 = i from by omega]
      · simp [h, h64, h7, show i < 6 from by omega]
  · have hz : v.testBit i = false := Nat.testBit_lt_two_pow (Nat.lt_of_lt_of_le hv (Nat.pow_le_pow_right (by omega) (by omega)))
    simp [h64, hz, show ¬ i < 6 from by omega, show i - 7 + 7 = i from by omega]

theorem sumGo_lt (n : Nat) : ∀ (l : List Bool) (i v p x : Nat), (i < n → p = 2 ^ i) → v < 2 ^ min i n → n ≤ 63 → sumGo (n : Int) l i v p = some x → x < 2 ^ n := by
  intro l
  induction l with
  | nil =>
    intro i v p x _ hv hn h
    rw [sumGo] at h
    injection h with h
    subst h
    exact Nat.lt_of_lt_of_le hv (Nat.pow_le_pow_right (by omega) (by omega))
  | cons b r ih =>
    intro i v p x hp hv hn h
    rw [sumGo] at h
    split at h
    · cases h
    · rename_i hne
      by_cases hi : i < n
      · have hpi := hp hi
        have h63 : 2 ^ (i + 1) ≤ 2 ^ 63 := Nat.pow_le_pow_right (by omega) (by omega)
        have hs : 2 ^ (i + 1) = 2 * 2 ^ i := by rw [Nat.pow_succ]; omega
        rw [Nat.min_eq_left (by omega)] at hv
        refine ih (i + 1) _ _ x (fun h2 => by rw [hpi, Nat.mod_eq_of_lt (by omega)]; omega) ?_ hn h
        rw [Nat.min_eq_left (by omega), hs]
        split
        · rw [Nat.mod_eq_of_lt (by omega)]; omega
        · omega
      · have hb : b = false := by
          cases b with
          | false => rfl
          | true => exact absurd ⟨by omega, rfl⟩ hne
        subst hb
        rw [Nat.min_eq_right (by omega)] at hv
        exact ih (i + 1) _ _ x (fun h2 => by omega) (by rw [Nat.min_eq_right (by omega)]; simpa using hv) hn h
theorem unsignedL_lt32 (l : List UInt8) : (unsignedL l 32).1 ≤ 4294967295 := by
  rw [unsigned_law]
  unfold refUnsignedL
  simp only
  split
  · simp
  · cases h : sumGo 32 (readL l 32).1 0 0 1 with
    | none => simp
    | some v =>
      have := sumGo_lt 32 _ 0 0 1 v (fun _ => rfl) (by simp) (by omega) h
      simp only
      omega

/-- one step behind another: where the first one ends badly, all does -/
theorem Out.bind {fl r1 e1 r2 e2 : Int} {E1 E : Nat} {P1 Q : Prop} (h1 : Out fl 0 E1 r1 e1 P1) (hE : E1 ≠ 0 → E = E1) (hr : r1 ≤ r2) (hk : e1 ≠ 0 → e2 = e1) (h : P1 → e1 = 0 → E1 = 0 → Out fl 0 E r2 e2 Q) : Out fl 0 E r2 e2 Q := by
  rcases h1 with ⟨_, a, b, p⟩ | ⟨a, h'⟩
  · exact h p a b
  · have he := hk a
    rcases h' with ⟨x, _⟩ | ⟨_, x, y⟩ | ⟨_, x, y, z⟩
    · exact absurd rfl x
    · exact .inr ⟨by omega, .inr (.inl ⟨rfl, by rw [hE x]; exact x, by rw [hE x]; omega⟩)⟩
    · exact .inr ⟨by omega, .inr (.inr ⟨rfl, by omega, y, by omega⟩)⟩
theorem Out.held {fl r' e e' : Int} {E : Nat} {P : Prop} (h : Out fl e E r' e' P) (he : e ≠ 0) : e' = e := by
  rcases h with ⟨a, _⟩ | ⟨_, ⟨_, a⟩ | ⟨a, _⟩ | ⟨a, _⟩⟩
  · exact absurd a he
  · exact a
  · exact absurd a he
  · exact absurd a he
theorem Out.err {fl r' : Int} {E : Nat} {Q : Prop} {e' : Int} (hE : E ≠ 0) (he : e' = E) : Out fl 0 E r' e' Q := .inr ⟨by omega, .inr (.inl ⟨rfl, hE, he⟩)⟩
theorem Out.ok {fl r' : Int} {E : Nat} {Q : Prop} (hE : E = 0) (h : Q) : Out fl 0 E r' 0 Q := .inl ⟨rfl, rfl, hE, h⟩
theorem failE_held (e : Int) (is : Bool) (k : Int) (h : e ≠ 0) : failE e is k = e := by unfold failE; rw [if_neg (fun x => h x.1)]

/-- an instruction's variable -/
def IV (w : World) (xb : Nat) (code : Int) (a b : Nat) (al : Int) (v : Value) : Prop := w.heap[xb]? = some (.cells #[.int .i64 code, .int .u64 (a : Int), .int .u64 (b : Int), .int .i64 al, v] 27 (0, 0))
theorem IV.keep {w w' : World} {xb : Nat} {code al : Int} {a b : Nat} {v : Value} {S : List Nat} (h : IV w xb code a b al v) (ho : Only S w w') (hx : xb ∉ S) : IV w' xb code a b al v := (ho.block xb (blk_lt h) hx).trans h
theorem IV.set {w : World} {xb : Nat} {code al : Int} {a b : Nat} {v : Value} (h : IV w xb code a b al v) :
    (∀ x : Nat, IV (w.setCell ⟨xb, 1, none⟩ (.int .u64 (x : Int))) xb code x b al v) ∧ (∀ x : Nat, IV (w.setCell ⟨xb, 2, none⟩ (.int .u64 (x : Int))) xb code a x al v) ∧ (∀ x : Int, IV (w.setCell ⟨xb, 3, none⟩ (.int .i64 x)) xb code a b x v) ∧ (∀ x : Value, IV (w.setCell ⟨xb, 4, none⟩ x) xb code a b al x) := by
  refine ⟨fun x => ?_, fun x => ?_, fun x => ?_, fun x => ?_⟩ <;> (unfold IV; rw [setCell_blk h]; rfl)
theorem iv_only (w : World) (xb i : Nat) (u : Value) : Only [xb] w (w.setCell ⟨xb, i, none⟩ u) := Only.setCell w (p := ⟨xb, i, none⟩) (by simp) u

theorem memR_q {l : List UInt8} (h : (unsignedL l 32).2.2 ≠ 0) : (memR l).e = (unsignedL l 32).2.2 := by
  unfold memR; simp [h, failR]
theorem memR_big {l : List UInt8} (h : (unsignedL l 32).2.2 = 0) (h2 : 31 < (unsignedL l 32).1 - 64 * ((unsignedL l 32).1 / 64 % 2)) : (memR l).e = 4 := by
  unfold memR; simp [h, failR, h2]
/-- the rest of a memory's numbers, without a memory's number, or with one -/
theorem memR_zero {l : List UInt8} (h : (unsignedL l 32).2.2 = 0) (h2 : ¬ 31 < (unsignedL l 32).1 - 64 * ((unsignedL l 32).1 / 64 % 2)) (hm : (unsignedL l 32).1 / 64 % 2 = 0) (p : Nat × Nat × Nat) (hp : unsignedL (l.drop (unsignedL l 32).2.1) 64 = p) :
    (memR l).e = p.2.2 ∧ (p.2.2 = 0 → (memR l).k = (unsignedL l 32).2.1 + p.2.1 ∧ (memR l).a = 0 ∧ (memR l).b = p.1 ∧ (memR l).al = (unsignedL l 32).1 ∧ (memR l).l = []) := by
  rw [hm] at h2
  unfold memR
  simp only [h, hm, ne_eq, not_true_eq_false, if_false, h2, List.drop_zero, hp, Nat.zero_ne_one]
  by_cases hz : p.2.2 = 0
  · simp [hz]
  · simp [hz, failR]
theorem memR_one {l : List UInt8} (h : (unsignedL l 32).2.2 = 0) (h2 : ¬ 31 < (unsignedL l 32).1 - 64 * ((unsignedL l 32).1 / 64 % 2)) (hm : (unsignedL l 32).1 / 64 % 2 = 1) (s p : Nat × Nat × Nat) (hs : unsignedL (l.drop (unsignedL l 32).2.1) 32 = s) (hp : unsignedL ((l.drop (unsignedL l 32).2.1).drop s.2.1) 64 = p) :
    (s.2.2 ≠ 0 → (memR l).e = s.2.2) ∧ (s.2.2 = 0 → (memR l).e = p.2.2) ∧ (s.2.2 = 0 → p.2.2 = 0 → (memR l).k = (unsignedL l 32).2.1 + s.2.1 + p.2.1 ∧ (memR l).a = s.1 ∧ (memR l).b = p.1 ∧ (memR l).al = (unsignedL l 32).1 - 64 ∧ (memR l).l = []) := by
  rw [hm] at h2
  unfold memR
  simp only [h, hm, ne_eq, not_true_eq_false, if_false, h2, hs, hp, if_true]
  by_cases hy : s.2.2 = 0
  · by_cases hz : p.2.2 = 0
    · simp [hy, hz]
    · simp [hy, hz, failR]
  · simp [hy, failR]

/-- what a form's numbers leave -/
structure FormStep (w : World) (rb g f c xb : Nat) (A : Option Addr) (bs : List UInt8) (r fl fr tu at_ : Int) (code : Int) (d : DR) (Rm : Int) (en : Ending) (w' : World) : Prop where
  out : ∃ (a b al : Nat) (Al : Option Addr) (cl : Nat) (xs : List Nat) (r' at' e' : Int), en = .returned (.tuple #[]) ∧ Hid (RS w' rb g f c A bs r' fl fr tu at' e') ∧ Hid (IV w' xb code a b al (.slice Al xs.length cl)) ∧ Hid (w'.ownsRow w.heap.size 24 1 (.slice Al xs.length cl) xs.length (xs.map U)) ∧ Hid (Only [f, g, rb, xb] w w') ∧ r ≤ r' ∧ r' ≤ r + Rm ∧ at_ ≤ at' ∧ at' ≤ tu ∧ xs.length ≤ 100 ∧
    Hid (Out fl 0 d.e r' e' (at' = at_ + d.k ∧ a = d.a ∧ b = d.b ∧ al = d.al ∧ xs = d.l))

set_option maxHeartbeats 3200000 in
theorem mem_step (rb g f c xb : Nat) (A : Option Addr) (bs : List UInt8) (r fl fr tu at_ : Int) (code : Int) (w : World) (h : Hid (RS w rb g f c A bs r fl fr tu at_ 0)) (hx : Hid (IV w xb code 0 0 0 (.slice none 0 0))) (hxb : rb < xb)
    (hr1 : 0 ≤ r) (hr2 : r ≤ 890000) (hl : bs.length ≤ 1000) (h1 : 0 ≤ at_) (h2 : at_ ≤ tu) (h4 : tu ≤ (bs.length : Int)) :
    Calls Try.prog 73 #[.pointer (some ⟨rb, 0, none⟩), .pointer (some ⟨xb, 0, none⟩)] w (FormStep w rb g f c xb A bs r fl fr tu at_ code (memR (partB bs at_ (tu - at_))) 33) := by
  have HN := hide (number_step rb g f c A bs r fl fr tu at_ 0 32 w h hr1 (by omega) hl h1 h2 h4)
  have hul := unsignedL_lt32 (partB bs at_ (tu - at_))
  obtain ⟨l, hll⟩ : ∃ l, partB bs at_ (tu - at_) = l := ⟨_, rfl⟩
  rw [hll] at HN hul ⊢
  have HL := hide hll; clear hll
  have hne : xb ∉ [f, g, rb] := by have := h.out.lt; have := h.out.cu.lt; simp; omega
  have HNE := hide hne; clear hne
  go_enter Try.func73, Try.ntmps73
  go_wp2_with fail
  refine HN.out.mono ?_; rintro en w1 ⟨v, r1, at1, e1, rfl, k1, k2, k3, k4, k5, k6, k7, k8, k9⟩
  have hv := step_bd k9.out k7.out hul
  have ha1 : bits BinOp.andNot IntKind.u64 (v : Int) 64 = ((v - 64 * (v / 64 % 2) : Nat) : Int) := by
    have := u64_andNot_nat v 64 (by omega) (by omega)
    rw [and64_not v (by omega)] at this
    simpa using this
  have ha2 : bits BinOp.and IntKind.u64 (v : Int) 64 = ((64 * (v / 64 % 2) : Nat) : Int) := by
    have := u64_and_nat v 64 (by omega) (by omega)
    rw [and64] at this
    simpa using this
  obtain ⟨m, hm⟩ : ∃ m, v / 64 % 2 = m := ⟨_, rfl⟩
  have hm2 : m < 2 := by omega
  have hmv : 64 * m ≤ v := by omega
  rw [hm] at ha1 ha2
  obtain ⟨al, hal⟩ : ∃ al, v - 64 * m = al := ⟨_, rfl⟩
  rw [hal] at ha1
  have halb : al ≤ 4294967295 := by omega
  have HM := hide hm; clear hm
  have HAL := hide hal; clear hal
  obtain ⟨big, hbig⟩ : ∃ b, decide (31 < al) = b := ⟨_, rfl⟩
  have hbig' : decide ((31 : Int) < (al : Int)) = big := by rw [← hbig]; simp <;> omega
  have HF := hide (fail_step rb g f c A bs r1 fl fr tu at1 e1 4 big w1 k1)
  have HBIG := hide hbig; clear hbig
  have hX1 := hide (hx.out.keep k2.out HNE.out)
  go_wp2_with fail
  refine HF.out.mono ?_; rintro en w2 ⟨rfl, m1, m2⟩
  have hX2 := hide (hX1.out.keep m2.out (by have := HNE.out; simp at this ⊢; omega))
  have z3 := frozen_blk hX2.out 3
  have c3 := cell_blk hX2.out 3
  simp at c3
  have hX3 := hide (hX2.out.set.2.2.1 (al : Int))
  have o3 := iv_only w2 xb 3 (.int .i64 (al : Int))
  generalize hw3 : w2.setCell ⟨xb, 3, none⟩ (.int .i64 (al : Int)) = w3 at hX3 o3
  have HW3 := hide hw3; clear hw3
  have hRS3 := hide (m1.out.keep o3 (by simp <;> omega) (by have := h.out.lt; simp; omega) (by have := h.out.lt; have := h.out.cu.lt; simp; omega) (by have := h.out.lt; have := h.out.cu.lt; simp; omega))
  have O3 : Hid (Only [f, g, rb, xb] w w3) := ((k2.out.more (by simp)).trans (m2.out.more (by simp))).trans (o3.more (by simp))
  clear o3
  have hne2 : xb ∉ [f, g, rb] := HNE.out
  obtain ⟨e2, he2⟩ : ∃ e2, failE e1 big 4 = e2 := ⟨_, rfl⟩
  rw [he2] at hRS3
  have HE2 := hide he2; clear he2
  have hrbw := blk_lt h.out.blk
  by_cases hm0 : m = 0
  · have fm : (64 * (m : Int) != 0) = false := by simp; omega
    have HN3 := hide (number_step rb g f c A bs r1 fl fr tu at1 e2 64 w3 hRS3 (by omega) (by omega) hl (by omega) k6 h4)
    have HM0 := hide hm0
    clear hm0 m1 m2
    go_wp2_with fail
    rw [HW3.out]
    refine HN3.out.mono ?_; rintro en w4 ⟨v4, r4, at4, e4, rfl, n1, n2, n3, n4, n5, n6, n7, n8, n9⟩
    have hX4 := hide (hX3.out.keep n2.out hne2)
    have c2 := cell_blk hX4.out 2
    simp at c2
    have z2 := frozen_blk hX4.out 2
    go_wp2_with fail
    go_end0
    have o5 := iv_only w4 xb 2 (.int .u64 (v4 : Int))
    have hRS5 := n1.out.keep o5 (by simp <;> omega) (by have := h.out.lt; simp; omega) (by have := h.out.lt; have := h.out.cu.lt; simp; omega) (by have := h.out.lt; have := h.out.cu.lt; simp; omega)
    refine ⟨0, v4, al, none, 0, [], r4, at4, e4, rfl, hRS5, hX4.out.set.2.1 v4, own_nil _ _ _ _, (O3.out.trans (n2.out.more (by simp))).trans (o5.more (by simp)), by omega, by omega, by omega, n6, by simp, ?_⟩
    refine k9.out.bind (fun x => memR_q x) n3 (fun x => ?_) ?_
    · have : e2 = e1 := by rw [← HE2.out, failE_held _ _ _ x]
      rw [← this]
      exact n9.out.held (by omega)
    · rintro ⟨p1, p2⟩ p3 p4
      subst p3
      have hmq : (unsignedL l 32).1 / 64 % 2 = 0 := by rw [← p1, HM.out, HM0.out]
      have halq : al = (unsignedL l 32).1 - 64 * ((unsignedL l 32).1 / 64 % 2) := by rw [← p1, HM.out, HAL.out]
      cases hbb : big with
      | true =>
        have he : e2 = 4 := by rw [← HE2.out, hbb]; rfl
        have hb4 := HBIG.out
        rw [hbb] at hb4
        have hE := memR_big p4 (by rw [← halq]; simpa using hb4)
        exact Out.err (by omega) (by rw [hE, n9.out.held (by omega), he]; rfl)
      | false =>
        have he : e2 = 0 := by rw [← HE2.out, hbb]; rfl
        have hb4 := HBIG.out
        rw [hbb] at hb4
        have hnb : ¬ 31 < (unsignedL l 32).1 - 64 * ((unsignedL l 32).1 / 64 % 2) := by rw [← halq]; simpa using hb4
        obtain ⟨q1, q2⟩ := memR_zero p4 hnb hmq _ rfl
        have hcs := unsigned_cases l 32
        have hpl := part_len bs at_ (tu - at_) h1 (by omega) (by omega)
        rw [HL.out] at hpl
        have hp : partB bs at1 (tu - at1) = l.drop (unsignedL l 32).2.1 := by rw [p2, partB_drop bs at_ tu _ h1 (by omega), HL.out]
        have n9' := n9.out
        rw [hp, he] at n9'
        refine n9'.bind (fun x => q1) (by omega) (fun _ => rfl) ?_
        rintro ⟨s1, s2⟩ s3 s4
        obtain ⟨d1, d2, d3, d4, d5⟩ := q2 s4
        rw [s3]
        refine Out.ok (by omega) ⟨by omega, by omega, by omega, ?_, by rw [d5]⟩
        rw [d4, halq, hmq]; simp
  · have hm1 : m = 1 := by omega
    have fm : (64 * (m : Int) != 0) = true := by simp; omega
    have HN3 := hide (number_step rb g f c A bs r1 fl fr tu at1 e2 32 w3 hRS3 (by omega) (by omega) hl (by omega) k6 h4)
    have HM1 := hide hm1
    clear hm0 hm1 m1 m2
    go_wp2_with fail
    rw [HW3.out]
    refine HN3.out.mono ?_; rintro en w4 ⟨v4, r4, at4, e4, rfl, n1, n2, n3, n4, n5, n6, n7, n8, n9⟩
    have hX4 := hide (hX3.out.keep n2.out hne2)
    have c1 := cell_blk hX4.out 1
    simp at c1
    have z1 := frozen_blk hX4.out 1
    have o5 := iv_only w4 xb 1 (.int .u64 (v4 : Int))
    have hRS5 := hide (n1.out.keep o5 (by simp <;> omega) (by have := h.out.lt; simp; omega) (by have := h.out.lt; have := h.out.cu.lt; simp; omega) (by have := h.out.lt; have := h.out.cu.lt; simp; omega))
    have hX5 := hide (hX4.out.set.1 v4)
    generalize hw5 : w4.setCell ⟨xb, 1, none⟩ (.int .u64 (v4 : Int)) = w5 at hRS5 hX5 o5
    have HW5 := hide hw5; clear hw5
    have O5 : Hid (Only [f, g, rb, xb] w w5) := (O3.out.trans (n2.out.more (by simp))).trans (o5.more (by simp))
    clear o5
    have HN6 := hide (number_step rb g f c A bs r4 fl fr tu at4 e4 64 w5 hRS5 (by omega) (by omega) hl (by omega) n6 h4)
    go_wp2_with fail
    rw [HW5.out]
    refine HN6.out.mono ?_; rintro en w6 ⟨v6, r6, at6, e6, rfl, j1, j2, j3, j4, j5, j6, j7, j8, j9⟩
    have hX6 := hide (hX5.out.keep j2.out hne2)
    have c2 := cell_blk hX6.out 2
    simp at c2
    have z2 := frozen_blk hX6.out 2
    go_wp2_with fail
    go_end0
    have o7 := iv_only w6 xb 2 (.int .u64 (v6 : Int))
    have hRS7 := j1.out.keep o7 (by simp <;> omega) (by have := h.out.lt; simp; omega) (by have := h.out.lt; have := h.out.cu.lt; simp; omega) (by have := h.out.lt; have := h.out.cu.lt; simp; omega)
    refine ⟨v4, v6, al, none, 0, [], r6, at6, e6, rfl, hRS7, hX6.out.set.2.1 v6, own_nil _ _ _ _, (O5.out.trans (j2.out.more (by simp))).trans (o7.more (by simp)), by omega, by omega, by omega, j6, by simp, ?_⟩
    refine k9.out.bind (fun x => memR_q x) (by omega) (fun x => ?_) ?_
    · have : e2 = e1 := by rw [← HE2.out, failE_held _ _ _ x]
      have h4' := n9.out.held (by omega)
      rw [← this, ← h4']
      exact j9.out.held (by omega)
    · rintro ⟨p1, p2⟩ p3 p4
      subst p3
      have hmq : (unsignedL l 32).1 / 64 % 2 = 1 := by rw [← p1, HM.out, HM1.out]
      have halq : al = (unsignedL l 32).1 - 64 * ((unsignedL l 32).1 / 64 % 2) := by rw [← p1, HM.out, HAL.out]
      cases hbb : big with
      | true =>
        have he : e2 = 4 := by rw [← HE2.out, hbb]; rfl
        have hb4 := HBIG.out
        rw [hbb] at hb4
        have hE := memR_big p4 (by rw [← halq]; simpa using hb4)
        have h4' := n9.out.held (by omega)
        exact Out.err (by omega) (by rw [hE, j9.out.held (by omega), h4', he]; rfl)
      | false =>
        have he : e2 = 0 := by rw [← HE2.out, hbb]; rfl
        have hb4 := HBIG.out
        rw [hbb] at hb4
        have hnb : ¬ 31 < (unsignedL l 32).1 - 64 * ((unsignedL l 32).1 / 64 % 2) := by rw [← halq]; simpa using hb4
        obtain ⟨q1, q2, q3⟩ := memR_one p4 hnb hmq _ _ rfl rfl
        have hcs := unsigned_cases l 32
        have hpl := part_len bs at_ (tu - at_) h1 (by omega) (by omega)
        rw [HL.out] at hpl
        have hp : partB bs at1 (tu - at1) = l.drop (unsignedL l 32).2.1 := by rw [p2, partB_drop bs at_ tu _ h1 (by omega), HL.out]
        have n9' := n9.out
        rw [hp, he] at n9'
        refine n9'.bind (fun x => q1 x) (by omega) (fun x => j9.out.held x) ?_
        rintro ⟨s1, s2⟩ s3 s4
        have hcs2 := unsigned_cases (l.drop (unsignedL l 32).2.1) 32
        rw [List.length_drop] at hcs2
        have hp2 : partB bs at4 (tu - at4) = (l.drop (unsignedL l 32).2.1).drop (unsignedL (l.drop (unsignedL l 32).2.1) 32).2.1 := by
          rw [s2, partB_drop bs at1 tu _ (by omega) (by omega), hp]
        have j9' := j9.out
        rw [hp2, s3] at j9'
        refine j9'.bind (fun x => q2 s4) (by omega) (fun _ => rfl) ?_
        rintro ⟨u1, u2⟩ u3 u4
        obtain ⟨d1, d2, d3, d4, d5⟩ := q3 s4 u4
        have := q2 s4
        rw [u3]
        refine Out.ok (by omega) ⟨by omega, by omega, by omega, ?_, by rw [d5]⟩
        rw [d4, halq, hmq]
end Go.Proofs.Ytdhmkapknaphpaa

namespace Go.Proofs.Ytdhmkapknaphpaa
open Go.RowKit
set_option linter.unusedVariables false

/-- an instruction's form; below 0: there is none -/
def formV (c : Int) : Int := match opRow c with | none => -1 | some r => r.form
theorem formV_ref {c : Int} (h : (opRow c).isSome = true) : formV c = refForm c := by
  unfold formV
  cases ho : opRow c with
  | none => rw [ho] at h; cases h
  | some r => exact (opRow_ref ho).2.1

set_option maxHeartbeats 1600000 in
theorem form_any (c a b al : Int) (Al : Option Addr) (n cl : Nat) (w : World) (h1 : -9223372036854775808 ≤ c) (h2 : c ≤ 9223372036854775807) :
    Calls Try.prog 70 #[.agg #[.int .i64 c, .int .u64 a, .int .u64 b, .int .i64 al, .slice Al n cl]] w fun e w' => e = .returned (.int .i64 (formV c)) ∧ Hid (Below w.heap.size w w') := by
  have hb0 : Below w.heap.size w (w.alloc (.cells #[.int .i64 c, .int .u64 a, .int .u64 b, .int .i64 al, .slice Al n cl] 27)) := (Below.refl _ _).alloc (Nat.le_refl _) _
  have HB0 := hide hb0; clear hb0
  cases ho : opRow c with
  | none =>
    have hv : formV c = -1 := by unfold formV; rw [ho]
    rw [hv]
    have HF := hide (fun W => find_none c W h1 h2 ho)
    clear hv ho
    go_enter Try.func70, Try.ntmps70
    go_wp2_with fail
    refine (HF.out _).mono ?_; rintro e w1 ⟨rfl, hb1⟩
    have hbel : Hid (Below w.heap.size w w1) := HB0.out.trans (hb1.out.mono (by simp))
    have hbel2 : Hid (Below w.heap.size w (w1.alloc (.cells #[.int .i64 0, .string ⟨#[]⟩, .int .i64 0, .slice none 0 0, .slice none 0 0] 155))) := hbel.out.alloc hbel.out.size _
    go_wp2_with fail
    go_ret
    exact ⟨rfl, hbel2⟩
  | some r =>
    have hv : formV c = r.form := by unfold formV; rw [ho]
    rw [hv]
    have HF := hide (fun W => find_some c r W h1 h2 ho)
    clear hv ho
    go_enter Try.func70, Try.ntmps70
    go_wp2_with fail
    refine (HF.out _).mono ?_; rintro e w1 ⟨A1, c1, A2, c2, rfl, _, _, hb1⟩
    have hbel : Hid (Below w.heap.size w w1) := HB0.out.trans (hb1.out.mono (by simp))
    have hbel2 : Hid (Below w.heap.size w (w1.alloc (.cells #[.int .i64 r.code, .string r.name, .int .i64 r.form, .slice A1 r.takes.size c1, .slice A2 r.gives.size c2] 155))) := hbel.out.alloc hbel.out.size _
    go_wp2_with fail
    go_ret
    exact ⟨rfl, hbel2⟩

def blockedL (n : Int) : Bool := decide (n = 64 ∨ n = 126 ∨ n = 127)
set_option maxHeartbeats 400000 in
theorem blocked_any (n : Int) (w : World) : Calls Try.prog 71 #[.int .u64 n] w fun e w' => e = .returned (.bool (blockedL n)) ∧ w = w' := by
  by_cases h1 : n = 64
  · subst h1
    have hv : blockedL 64 = true := by decide
    rw [hv]
    go_enter Try.func71, Try.ntmps71
    go_wp2_with fail
    go_ret
    exact ⟨rfl, rfl⟩
  · by_cases h2 : n = 127
    · subst h2
      have hv : blockedL 127 = true := by decide
      rw [hv]
      go_enter Try.func71, Try.ntmps71
      go_wp2_with fail
      go_ret
      exact ⟨rfl, rfl⟩
    · by_cases h3 : n = 126
      · subst h3
        have hv : blockedL 126 = true := by decide
        rw [hv]
        go_enter Try.func71, Try.ntmps71
        go_wp2_with fail
        go_ret
        exact ⟨rfl, rfl⟩
      · have hv : blockedL n = false := by unfold blockedL; simp [h1, h2, h3]
        rw [hv]
        have f1 : (n == 64) = false := by simpa using h1
        have f2 : (n == 127) = false := by simpa using h2
        have f3 : (n == 126) = false := by simpa using h3
        clear h1 h2 h3 hv
        go_enter Try.func71, Try.ntmps71
        go_wp2_with fail
        go_ret
        exact ⟨rfl, rfl⟩

theorem wordN_zero (b : Bool) : wordN b 0 = 0 := by cases b <;> rfl
theorem wordN_lt (b : Bool) (v : Int) : wordN b v ≤ 18446744073709551615 := by
  unfold wordN; split <;> omega

set_option maxHeartbeats 800000 in
theorem word_step (rb g f c : Nat) (A : Option Addr) (bs : List UInt8) (r fl fr tu at_ : Int) (code : Nat) (w : World) (h : Hid (RS w rb g f c A bs r fl fr tu at_ 0))
    (hr1 : 0 ≤ r) (hr2 : r ≤ 890000) (hl : bs.length ≤ 1000) (h1 : 0 ≤ at_) (h2 : at_ ≤ tu) (h4 : tu ≤ (bs.length : Int)) (q : Int × Nat × Nat) (hq : Hid (signedL (partB bs at_ (tu - at_)) (if code = 66 then 64 else 32) = q)) :
    Calls Try.prog 74 #[.pointer (some ⟨rb, 0, none⟩), .int .i64 code] w
      (NumStep w rb g f c A bs r fl fr tu at_ 0 (fun v : Nat => .int .u64 v) 0 (wordN (decide (code = 66)) q.1, q.2.1, q.2.2)) := by
  by_cases h66 : code = 66
  · have HS := hide (signed_step rb g f c A bs r fl fr tu at_ 0 64 w h hr1 (by omega) hl h1 h2 h4)
    have hq' := hq.out
    rw [if_pos h66] at hq'
    rw [hq'] at HS
    have hd : decide (code = 66) = true := by simpa using h66
    rw [hd]
    have HD := hide hd
    have f66 : ((code : Int) == 66) = true := by simp; omega
    clear hq' h66 hd
    go_enter Try.func74, Try.ntmps74
    go_wp2_with fail
    refine HS.out.mono ?_; rintro en w1 ⟨v, r1, at1, e1, rfl, k1, k2, k3, k4, k5, k6, k7, k8, k9⟩
    have hw : IntKind.u64.wrap v = (wordN true v : Int) := by rw [IntKind.wrap_u64]; unfold wordN; simp only [if_true]; omega
    have HW := hide hw; clear hw
    go_wp2_with fail
    rw [HW.out]
    go_ret
    refine ⟨wordN true v, r1, at1, e1, rfl, k1, k2, k3, k4, k5, k6, fun h0 => ?_, k8.out, ?_⟩
    · rw [k7.out h0, wordN_zero]
    · rcases k9.out with ⟨a, b, c', d, d2⟩ | h'
      · exact .inl ⟨a, b, c', by rw [d], d2⟩
      · exact .inr h'
  · have HS := hide (signed_step rb g f c A bs r fl fr tu at_ 0 32 w h hr1 (by omega) hl h1 h2 h4)
    have hq' := hq.out
    rw [if_neg h66] at hq'
    rw [hq'] at HS
    have hd : decide (code = 66) = false := by simpa using h66
    rw [hd]
    have HD := hide hd
    have f66 : ((code : Int) == 66) = false := by simp; omega
    clear hq' h66 hd
    go_enter Try.func74, Try.ntmps74
    go_wp2_with fail
    refine HS.out.mono ?_; rintro en w1 ⟨v, r1, at1, e1, rfl, k1, k2, k3, k4, k5, k6, k7, k8, k9⟩
    obtain ⟨a, ha⟩ : ∃ a : Nat, IntKind.u64.wrap v = a := ⟨(v % 18446744073709551616).toNat, by rw [IntKind.wrap_u64]; omega⟩
    have hab : a ≤ 18446744073709551615 := by have := ha; rw [IntKind.wrap_u64] at this; omega
    have hw : (a : Int) % 4294967296 = (wordN false v : Int) := by rw [← ha, IntKind.wrap_u64]; unfold wordN; simp only [Bool.false_eq_true, if_false]; omega
    have HW := hide hw
    have HA := hide ha
    clear hw ha
    have HWR := hide (wrap_any a w1 hab)
    go_wp2_with fail
    rw [HA.out]
    refine HWR.out.mono ?_; rintro e w2 ⟨rfl, rfl⟩
    rw [HW.out]
    go_wp2_with fail
    go_ret
    refine ⟨wordN false v, r1, at1, e1, rfl, k1, k2, k3, k4, k5, k6, fun h0 => ?_, k8.out, ?_⟩
    · rw [k7.out h0, wordN_zero]
    · rcases k9.out with ⟨a, b, c', d, d2⟩ | h'
      · exact .inl ⟨a, b, c', by rw [d], d2⟩
      · exact .inr h'
end Go.Proofs.Ytdhmkapknaphpaa

namespace Go.Proofs.Ytdhmkapknaphpaa
open Go.RowKit
set_option linter.unusedVariables false

theorem oneR_q (l : List UInt8) : ((unsignedL l 32).2.2 ≠ 0 → (oneR l).e = (unsignedL l 32).2.2) ∧ ((unsignedL l 32).2.2 = 0 → oneR l = ⟨0, (unsignedL l 32).2.1, (unsignedL l 32).1, 0, 0, []⟩) := by
  unfold oneR
  constructor
  · intro h; simp [h, failR]
  · intro h; simp [h]
theorem twoR_q (l : List UInt8) (p : Nat × Nat × Nat) (hp : unsignedL (l.drop (unsignedL l 32).2.1) 32 = p) : ((unsignedL l 32).2.2 ≠ 0 → (twoR l).e = (unsignedL l 32).2.2) ∧ ((unsignedL l 32).2.2 = 0 → (twoR l).e = p.2.2) ∧ ((unsignedL l 32).2.2 = 0 → p.2.2 = 0 → twoR l = ⟨0, (unsignedL l 32).2.1 + p.2.1, (unsignedL l 32).1, p.1, 0, []⟩) := by
  subst hp
  unfold twoR
  refine ⟨fun h => by simp [h, failR], fun h => ?_, fun h h2 => by simp [h, h2]⟩
  by_cases h2 : (unsignedL (l.drop (unsignedL l 32).2.1) 32).2.2 = 0
  · simp [h, h2]
  · simp [h, h2, failR]
theorem tableR_q (l : List UInt8) (s : Nat × Nat × Nat) (hs : unsignedL (l.drop (labsR l).2.1) 32 = s) : ((labsR l).1 ≠ 0 → (tableR l).e = (labsR l).1) ∧ ((labsR l).1 = 0 → (tableR l).e = s.2.2) ∧ ((labsR l).1 = 0 → s.2.2 = 0 → tableR l = ⟨0, (labsR l).2.1 + s.2.1, s.1, 0, 0, (labsR l).2.2⟩) := by
  unfold tableR
  unfold labsR at hs ⊢
  by_cases h : (unsignedL l 32).2.2 = 0
  · by_cases h2 : 100 < (unsignedL l 32).1
    · simp [h, h2, failR]
    · by_cases h3 : (labelsL (unsignedL l 32).1 (l.drop (unsignedL l 32).2.1)).1 = 0
      · simp only [h, h2, h3, ne_eq, not_true_eq_false, if_false] at hs ⊢
        rw [← List.drop_drop] at hs
        rw [hs]
        refine ⟨fun x => x.elim, fun _ => ?_, fun _ h4 => by simp [h4]⟩
        by_cases h4 : s.2.2 = 0
        · simp [h4]
        · simp [h4, failR]
      · simp [h, h2, h3, failR]
  · simp [h, failR]
theorem constR_q (c : Nat) (l : List UInt8) (q : Int × Nat × Nat) (hq : signedL l (if c = 66 then 64 else 32) = q) : (q.2.2 ≠ 0 → (constR c l).e = q.2.2) ∧ (q.2.2 = 0 → constR c l = ⟨0, q.2.1, wordN (decide (c = 66)) q.1, 0, 0, []⟩) := by
  unfold constR
  rw [hq]
  constructor
  · intro h; simp [h, failR]
  · intro h; simp [h]
theorem blockR_q (l : List UInt8) : ((byteL l).2.2 ≠ 0 → (blockR l).e = (byteL l).2.2) ∧ ((byteL l).2.2 = 0 → blockedL ((byteL l).1 : Int) = false → (blockR l).e = 4) ∧ ((byteL l).2.2 = 0 → blockedL ((byteL l).1 : Int) = true → blockR l = ⟨0, 1, (byteL l).1, 0, 0, []⟩) := by
  unfold blockR blockedL
  refine ⟨fun h => by simp [h, failR], fun h h2 => ?_, fun h h2 => ?_⟩
  · have : ¬ ((byteL l).1 = 64 ∨ (byteL l).1 = 126 ∨ (byteL l).1 = 127) := by
      intro hx
      rw [decide_eq_false_iff_not] at h2
      exact h2 (by omega)
    simp only [h, ne_eq, not_true_eq_false, if_false]
    rw [if_neg this]
    rfl
  · have : (byteL l).1 = 64 ∨ (byteL l).1 = 126 ∨ (byteL l).1 = 127 := by
      rw [decide_eq_true_eq] at h2
      omega
    simp only [h, ne_eq, not_true_eq_false, if_false]
    rw [if_pos this]
theorem byteL_k (l : List UInt8) (h : (byteL l).2.2 = 0) : (byteL l).2.1 = 1 ∧ 1 ≤ l.length := by
  cases l with
  | nil => simp [byteL] at h
  | cons b r => simp [byteL]

theorem labsR_le : ∀ (n : Nat) (l : List UInt8), (labelsL n l).2.1 ≤ l.length := by
  intro n
  induction n with
  | zero => intro l; simp [labelsL]
  | succ n ih =>
    intro l
    rw [labelsL]
    have h1 := unsigned_cases l 32
    have h2 := ih (l.drop (unsignedL l 32).2.1)
    rw [List.length_drop] at h2
    split
    · simp
    · split
      · simp
      · simp only; omega
theorem labsR_le' (l : List UInt8) : (labsR l).2.1 ≤ l.length := by
  unfold labsR
  have h1 := unsigned_cases l 32
  have h2 := labsR_le (unsignedL l 32).1 (l.drop (unsignedL l 32).2.1)
  rw [List.length_drop] at h2
  split
  · simp
  · split
    · simp
    · split
      · simp
      · simp only; omega

set_option maxHeartbeats 3200000 in
theorem numbers_none (rb g f c xb : Nat) (A : Option Addr) (bs : List UInt8) (r fl fr tu at_ : Int) (code : Nat) (w : World) (h : Hid (RS w rb g f c A bs r fl fr tu at_ 0)) (hx : Hid (IV w xb (code : Int) 0 0 0 (.slice none 0 0))) (hxb : rb < xb)
    (hr1 : 0 ≤ r) (hr2 : r ≤ 880000) (hl : bs.length ≤ 1000) (h1 : 0 ≤ at_) (h2 : at_ ≤ tu) (h4 : tu ≤ (bs.length : Int)) (hcode : code ≤ 200000) (hk : refForm (code : Int) = 0) (hsome : (opRow (code : Int)).isSome = true) :
    Calls Try.prog 56 #[.pointer (some ⟨rb, 0, none⟩), .pointer (some ⟨xb, 0, none⟩)] w (FormStep w rb g f c xb A bs r fl fr tu at_ (code : Int) (⟨0, 0, 0, 0, 0, []⟩) 1300) := by
  have HF := hide (fun W => form_any (code : Int) 0 0 0 none 0 0 W (by omega) (by omega))
  rw [formV_ref hsome] at HF
  have hpl := part_len bs at_ (tu - at_) h1 (by omega) (by omega)
  obtain ⟨l, hll⟩ : ∃ l, partB bs at_ (tu - at_) = l := ⟨_, rfl⟩
  have HL := hide hll
  rw [hll] at hpl
  clear hll
  have hne : xb ∉ [f, g, rb] := by have := h.out.lt; have := h.out.cu.lt; simp; omega
  have HNE := hide hne; clear hne
  have hrbw := blk_lt h.out.blk
  have hxw := blk_lt hx.out
  have c0 := cell_blk hx.out 0
  have c1 := cell_blk hx.out 1
  have c2 := cell_blk hx.out 2
  have c3 := cell_blk hx.out 3
  have c4 := cell_blk hx.out 4
  simp at c0 c1 c2 c3 c4

  rw [hk] at HF
  clear hk hsome
  go_enter Try.func56, Try.ntmps56
  go_wp2_with fail
  refine (HF.out _).mono ?_; rintro e w1 ⟨rfl, hb1⟩
  have hRS1 := hide (h.out.below hb1.out hrbw)
  have hX1 : Hid (IV w1 xb (code : Int) 0 0 0 (.slice none 0 0)) := (hb1.out.block xb hxw).trans hx.out
  have hO1 : Hid (Only [f, g, rb, xb] w w1) := Only.of_below hb1.out
  clear c0 c1 c2 c3 c4
  go_wp2_with fail
  go_end0
  exact ⟨0, 0, 0, none, 0, [], r, at_, 0, rfl, hRS1, hX1, own_nil _ _ _ _, hO1, by omega, by omega, by omega, h2, by simp, Out.ok rfl ⟨by simp, rfl, rfl, rfl, rfl⟩⟩

set_option maxHeartbeats 3200000 in
theorem numbers_one (rb g f c xb : Nat) (A : Option Addr) (bs : List UInt8) (r fl fr tu at_ : Int) (code : Nat) (w : World) (h : Hid (RS w rb g f c A bs r fl fr tu at_ 0)) (hx : Hid (IV w xb (code : Int) 0 0 0 (.slice none 0 0))) (hxb : rb < xb)
    (hr1 : 0 ≤ r) (hr2 : r ≤ 880000) (hl : bs.length ≤ 1000) (h1 : 0 ≤ at_) (h2 : at_ ≤ tu) (h4 : tu ≤ (bs.length : Int)) (hcode : code ≤ 200000) (hk : refForm (code : Int) = 2 ∨ refForm (code : Int) = 4 ∨ refForm (code : Int) = 6 ∨ refForm (code : Int) = 7 ∨ refForm (code : Int) = 9) (hsome : (opRow (code : Int)).isSome = true) :
    Calls Try.prog 56 #[.pointer (some ⟨rb, 0, none⟩), .pointer (some ⟨xb, 0, none⟩)] w (FormStep w rb g f c xb A bs r fl fr tu at_ (code : Int) (oneR (partB bs at_ (tu - at_))) 1300) := by
  have HF := hide (fun W => form_any (code : Int) 0 0 0 none 0 0 W (by omega) (by omega))
  rw [formV_ref hsome] at HF
  have hpl := part_len bs at_ (tu - at_) h1 (by omega) (by omega)
  obtain ⟨l, hll⟩ : ∃ l, partB bs at_ (tu - at_) = l := ⟨_, rfl⟩
  have HL := hide hll
  rw [hll] at hpl ⊢
  clear hll
  have hne : xb ∉ [f, g, rb] := by have := h.out.lt; have := h.out.cu.lt; simp; omega
  have HNE := hide hne; clear hne
  have hrbw := blk_lt h.out.blk
  have hxw := blk_lt hx.out
  have c0 := cell_blk hx.out 0
  have c1 := cell_blk hx.out 1
  have c2 := cell_blk hx.out 2
  have c3 := cell_blk hx.out 3
  have c4 := cell_blk hx.out 4
  simp at c0 c1 c2 c3 c4

  rcases hk with hk | hk | hk | hk | hk
  · rw [hk] at HF
    clear hk hsome
    go_enter Try.func56, Try.ntmps56
    go_wp2_with fail
    refine (HF.out _).mono ?_; rintro e w1 ⟨rfl, hb1⟩
    have hRS1 := hide (h.out.below hb1.out hrbw)
    have hX1 : Hid (IV w1 xb (code : Int) 0 0 0 (.slice none 0 0)) := (hb1.out.block xb hxw).trans hx.out
    have hO1 : Hid (Only [f, g, rb, xb] w w1) := Only.of_below hb1.out
    clear c0 c1 c2 c3 c4
    have HN2 := hide (number_step rb g f c A bs r fl fr tu at_ 0 32 w1 hRS1 (by omega) (by omega) hl (by omega) (by omega) h4)
    rw [HL.out] at HN2
    go_wp2_with fail
    refine HN2.out.mono ?_; rintro en w2 ⟨v2, r2, at2, e2, rfl, n1, n2, n3, n4, n5, n6, n7, n8, n9⟩
    have hX2 := hide (hX1.out.keep n2.out HNE.out)
    have d1 := cell_blk hX2.out 1
    simp at d1
    have z1 := frozen_blk hX2.out 1
    go_wp2_with fail
    go_end0
    have o3 := iv_only w2 xb 1 (.int .u64 (v2 : Int))
    refine ⟨v2, 0, 0, none, 0, [], r2, at2, e2, rfl, n1.out.keep o3 (by simp <;> omega) (by have := h.out.lt; simp; omega) (by have := h.out.lt; have := h.out.cu.lt; simp; omega) (by have := h.out.lt; have := h.out.cu.lt; simp; omega), hX2.out.set.1 v2, own_nil _ _ _ _, (hO1.out.trans (n2.out.more (by simp))).trans (o3.more (by simp)), by omega, by omega, by omega, n6, by simp, ?_⟩
    refine n9.out.bind (fun x => (oneR_q l).1 x) (by omega) (fun _ => rfl) ?_
    rintro ⟨p1, p2⟩ p3 p4
    rw [p3, (oneR_q l).2 p4]
    exact Out.ok rfl ⟨p2, p1, rfl, rfl, rfl⟩
  · rw [hk] at HF
    clear hk hsome
    go_enter Try.func56, Try.ntmps56
    go_wp2_with fail
    refine (HF.out _).mono ?_; rintro e w1 ⟨rfl, hb1⟩
    have hRS1 := hide (h.out.below hb1.out hrbw)
    have hX1 : Hid (IV w1 xb (code : Int) 0 0 0 (.slice none 0 0)) := (hb1.out.block xb hxw).trans hx.out
    have hO1 : Hid (Only [f, g, rb, xb] w w1) := Only.of_below hb1.out
    clear c0 c1 c2 c3 c4
    have HN2 := hide (number_step rb g f c A bs r fl fr tu at_ 0 32 w1 hRS1 (by omega) (by omega) hl (by omega) (by omega) h4)
    rw [HL.out] at HN2
    go_wp2_with fail
    refine HN2.out.mono ?_; rintro en w2 ⟨v2, r2, at2, e2, rfl, n1, n2, n3, n4, n5, n6, n7, n8, n9⟩
    have hX2 := hide (hX1.out.keep n2.out HNE.out)
    have d1 := cell_blk hX2.out 1
    simp at d1
    have z1 := frozen_blk hX2.out 1
    go_wp2_with fail
    go_end0
    have o3 := iv_only w2 xb 1 (.int .u64 (v2 : Int))
    refine ⟨v2, 0, 0, none, 0, [], r2, at2, e2, rfl, n1.out.keep o3 (by simp <;> omega) (by have := h.out.lt; simp; omega) (by have := h.out.lt; have := h.out.cu.lt; simp; omega) (by have := h.out.lt; have := h.out.cu.lt; simp; omega), hX2.out.set.1 v2, own_nil _ _ _ _, (hO1.out.trans (n2.out.more (by simp))).trans (o3.more (by simp)), by omega, by omega, by omega, n6, by simp, ?_⟩
    refine n9.out.bind (fun x => (oneR_q l).1 x) (by omega) (fun _ => rfl) ?_
    rintro ⟨p1, p2⟩ p3 p4
    rw [p3, (oneR_q l).2 p4]
    exact Out.ok rfl ⟨p2, p1, rfl, rfl, rfl⟩
  · rw [hk] at HF
    clear hk hsome
    go_enter Try.func56, Try.ntmps56
    go_wp2_with fail
    refine (HF.out _).mono ?_; rintro e w1 ⟨rfl, hb1⟩
    have hRS1 := hide (h.out.below hb1.out hrbw)
    have hX1 : Hid (IV w1 xb (code : Int) 0 0 0 (.slice none 0 0)) := (hb1.out.block xb hxw).trans hx.out
    have hO1 : Hid (Only [f, g, rb, xb] w w1) := Only.of_below hb1.out
    clear c0 c1 c2 c3 c4
    have HN2 := hide (number_step rb g f c A bs r fl fr tu at_ 0 32 w1 hRS1 (by omega) (by omega) hl (by omega) (by omega) h4)
    rw [HL.out] at HN2
    go_wp2_with fail
    refine HN2.out.mono ?_; rintro en w2 ⟨v2, r2, at2, e2, rfl, n1, n2, n3, n4, n5, n6, n7, n8, n9⟩
    have hX2 := hide (hX1.out.keep n2.out HNE.out)
    have d1 := cell_blk hX2.out 1
    simp at d1
    have z1 := frozen_blk hX2.out 1
    go_wp2_with fail
    go_end0
    have o3 := iv_only w2 xb 1 (.int .u64 (v2 : Int))
    refine ⟨v2, 0, 0, none, 0, [], r2, at2, e2, rfl, n1.out.keep o3 (by simp <;> omega) (by have := h.out.lt; simp; omega) (by have := h.out.lt; have := h.out.cu.lt; simp; omega) (by have := h.out.lt; have := h.out.cu.lt; simp; omega), hX2.out.set.1 v2, own_nil _ _ _ _, (hO1.out.trans (n2.out.more (by simp))).trans (o3.more (by simp)), by omega, by omega, by omega, n6, by simp, ?_⟩
    refine n9.out.bind (fun x => (oneR_q l).1 x) (by omega) (fun _ => rfl) ?_
    rintro ⟨p1, p2⟩ p3 p4
    rw [p3, (oneR_q l).2 p4]
    exact Out.ok rfl ⟨p2, p1, rfl, rfl, rfl⟩
  · rw [hk] at HF
    clear hk hsome
    go_enter Try.func56, Try.ntmps56
    go_wp2_with fail
    refine (HF.out _).mono ?_; rintro e w1 ⟨rfl, hb1⟩
    have hRS1 := hide (h.out.below hb1.out hrbw)
    have hX1 : Hid (IV w1 xb (code : Int) 0 0 0 (.slice none 0 0)) := (hb1.out.block xb hxw).trans hx.out
    have hO1 : Hid (Only [f, g, rb, xb] w w1) := Only.of_below hb1.out
    clear c0 c1 c2 c3 c4
    have HN2 := hide (number_step rb g f c A bs r fl fr tu at_ 0 32 w1 hRS1 (by omega) (by omega) hl (by omega) (by omega) h4)
    rw [HL.out] at HN2
    go_wp2_with fail
    refine HN2.out.mono ?_; rintro en w2 ⟨v2, r2, at2, e2, rfl, n1, n2, n3, n4, n5, n6, n7, n8, n9⟩
    have hX2 := hide (hX1.out.keep n2.out HNE.out)
    have d1 := cell_blk hX2.out 1
    simp at d1
    have z1 := frozen_blk hX2.out 1
    go_wp2_with fail
    go_end0
    have o3 := iv_only w2 xb 1 (.int .u64 (v2 : Int))
    refine ⟨v2, 0, 0, none, 0, [], r2, at2, e2, rfl, n1.out.keep o3 (by simp <;> omega) (by have := h.out.lt; simp; omega) (by have := h.out.lt; have := h.out.cu.lt; simp; omega) (by have := h.out.lt; have := h.out.cu.lt; simp; omega), hX2.out.set.1 v2, own_nil _ _ _ _, (hO1.out.trans (n2.out.more (by simp))).trans (o3.more (by simp)), by omega, by omega, by omega, n6, by simp, ?_⟩
    refine n9.out.bind (fun x => (oneR_q l).1 x) (by omega) (fun _ => rfl) ?_
    rintro ⟨p1, p2⟩ p3 p4
    rw [p3, (oneR_q l).2 p4]
    exact Out.ok rfl ⟨p2, p1, rfl, rfl, rfl⟩
  · rw [hk] at HF
    clear hk hsome
    go_enter Try.func56, Try.ntmps56
    go_wp2_with fail
    refine (HF.out _).mono ?_; rintro e w1 ⟨rfl, hb1⟩
    have hRS1 := hide (h.out.below hb1.out hrbw)
    have hX1 : Hid (IV w1 xb (code : Int) 0 0 0 (.slice none 0 0)) := (hb1.out.block xb hxw).trans hx.out
    have hO1 : Hid (Only [f, g, rb, xb] w w1) := Only.of_below hb1.out
    clear c0 c1 c2 c3 c4
    have HN2 := hide (number_step rb g f c A bs r fl fr tu at_ 0 32 w1 hRS1 (by omega) (by omega) hl (by omega) (by omega) h4)
    rw [HL.out] at HN2
    go_wp2_with fail
    refine HN2.out.mono ?_; rintro en w2 ⟨v2, r2, at2, e2, rfl, n1, n2, n3, n4, n5, n6, n7, n8, n9⟩
    have hX2 := hide (hX1.out.keep n2.out HNE.out)
    have d1 := cell_blk hX2.out 1
    simp at d1
    have z1 := frozen_blk hX2.out 1
    go_wp2_with fail
    go_end0
    have o3 := iv_only w2 xb 1 (.int .u64 (v2 : Int))
    refine ⟨v2, 0, 0, none, 0, [], r2, at2, e2, rfl, n1.out.keep o3 (by simp <;> omega) (by have := h.out.lt; simp; omega) (by have := h.out.lt; have := h.out.cu.lt; simp; omega) (by have := h.out.lt; have := h.out.cu.lt; simp; omega), hX2.out.set.1 v2, own_nil _ _ _ _, (hO1.out.trans (n2.out.more (by simp))).trans (o3.more (by simp)), by omega, by omega, by omega, n6, by simp, ?_⟩
    refine n9.out.bind (fun x => (oneR_q l).1 x) (by omega) (fun _ => rfl) ?_
    rintro ⟨p1, p2⟩ p3 p4
    rw [p3, (oneR_q l).2 p4]
    exact Out.ok rfl ⟨p2, p1, rfl, rfl, rfl⟩

set_option maxHeartbeats 3200000 in
theorem numbers_block (rb g f c xb : Nat) (A : Option Addr) (bs : List UInt8) (r fl fr tu at_ : Int) (code : Nat) (w : World) (h : Hid (RS w rb g f c A bs r fl fr tu at_ 0)) (hx : Hid (IV w xb (code : Int) 0 0 0 (.slice none 0 0))) (hxb : rb < xb)
    (hr1 : 0 ≤ r) (hr2 : r ≤ 880000) (hl : bs.length ≤ 1000) (h1 : 0 ≤ at_) (h2 : at_ ≤ tu) (h4 : tu ≤ (bs.length : Int)) (hcode : code ≤ 200000) (hk : refForm (code : Int) = 1) (hsome : (opRow (code : Int)).isSome = true) :
    Calls Try.prog 56 #[.pointer (some ⟨rb, 0, none⟩), .pointer (some ⟨xb, 0, none⟩)] w (FormStep w rb g f c xb A bs r fl fr tu at_ (code : Int) (blockR (partB bs at_ (tu - at_))) 1300) := by
  have HF := hide (fun W => form_any (code : Int) 0 0 0 none 0 0 W (by omega) (by omega))
  rw [formV_ref hsome] at HF
  have hpl := part_len bs at_ (tu - at_) h1 (by omega) (by omega)
  obtain ⟨l, hll⟩ : ∃ l, partB bs at_ (tu - at_) = l := ⟨_, rfl⟩
  have HL := hide hll
  rw [hll] at hpl ⊢
  clear hll
  have hne : xb ∉ [f, g, rb] := by have := h.out.lt; have := h.out.cu.lt; simp; omega
  have HNE := hide hne; clear hne
  have hrbw := blk_lt h.out.blk
  have hxw := blk_lt hx.out
  have c0 := cell_blk hx.out 0
  have c1 := cell_blk hx.out 1
  have c2 := cell_blk hx.out 2
  have c3 := cell_blk hx.out 3
  have c4 := cell_blk hx.out 4
  simp at c0 c1 c2 c3 c4

  rw [hk] at HF
  clear hk hsome
  go_enter Try.func56, Try.ntmps56
  go_wp2_with fail
  refine (HF.out _).mono ?_; rintro e w1 ⟨rfl, hb1⟩
  have hRS1 := hide (h.out.below hb1.out hrbw)
  have hX1 : Hid (IV w1 xb (code : Int) 0 0 0 (.slice none 0 0)) := (hb1.out.block xb hxw).trans hx.out
  have hO1 : Hid (Only [f, g, rb, xb] w w1) := Only.of_below hb1.out
  clear c0 c1 c2 c3 c4
  have HN2 := hide (byte_step rb g f c A bs r fl fr tu at_ 0 w1 hRS1 hr1 (by omega) hl h1 h2 h4)
  rw [HL.out] at HN2
  have hbl := byteL_lt l
  go_wp2_with fail
  refine HN2.out.mono ?_; rintro en w2 ⟨v2, r2, at2, e2, rfl, n1, n2, n3, n4, n5, n6, n7, n8, n9⟩
  have hv2 := step_bd n9.out n7.out hbl
  have hX2 := hide (hX1.out.keep n2.out HNE.out)
  have d1 := cell_blk hX2.out 1
  simp at d1
  have z1 := frozen_blk hX2.out 1
  have hX3 := hide (hX2.out.set.1 v2)
  have o3 := iv_only w2 xb 1 (.int .u64 (v2 : Int))
  have hRS3 := hide (n1.out.keep o3 (by simp <;> omega) (by have := h.out.lt; simp; omega) (by have := h.out.lt; have := h.out.cu.lt; simp; omega) (by have := h.out.lt; have := h.out.cu.lt; simp; omega))
  generalize hw3 : w2.setCell ⟨xb, 1, none⟩ (.int .u64 (v2 : Int)) = w3 at hX3 hRS3 o3
  have HW3 := hide hw3; clear hw3
  have hO3 : Hid (Only [f, g, rb, xb] w w3) := (hO1.out.trans (n2.out.more (by simp))).trans (o3.more (by simp))
  clear o3
  have d1' := cell_blk hX3.out 1
  simp at d1'
  have HBK := hide (fun W => blocked_any (v2 : Int) W)
  obtain ⟨q, hq⟩ : ∃ q, blockedL (v2 : Int) = q := ⟨_, rfl⟩
  rw [hq] at HBK
  have HQ := hide hq; clear hq
  have HF4 := hide (fail_step rb g f c A bs r2 fl fr tu at2 e2 4 (!q) w3 hRS3)
  go_upto_region 3 with fail
  rw [HW3.out]
  go_wp2_with fail
  refine (HBK.out _).mono ?_; rintro e w4 ⟨rfl, rfl⟩
  go_wp2_with fail
  refine HF4.out.mono ?_; rintro en w5 ⟨rfl, m1, m2⟩
  go_wp2_with fail
  go_end0
  have hX5 := hX3.out.keep m2.out (by have := HNE.out; simp at this ⊢; omega)
  refine ⟨v2, 0, 0, none, 0, [], r2, at2, _, rfl, m1, hX5, own_nil _ _ _ _, hO3.out.trans (m2.out.more (by simp)), by omega, by omega, by omega, n6, by simp, ?_⟩
  refine n9.out.bind (fun x => (blockR_q l).1 x) (by omega) (fun x => failE_held _ _ _ x) ?_
  rintro ⟨p1, p2⟩ p3 p4
  subst p3
  cases hqq : q with
  | true =>
    have hb := HQ.out
    rw [hqq, p1] at hb
    rw [(blockR_q l).2.2 p4 hb]
    exact Out.ok rfl ⟨by have := byteL_k l p4; simp only; omega, p1, rfl, rfl, rfl⟩
  | false =>
    have hb := HQ.out
    rw [hqq, p1] at hb
    have hE := (blockR_q l).2.1 p4 hb
    exact Out.err (by omega) (by rw [hE]; rfl)

set_option maxHeartbeats 3200000 in
theorem numbers_two (rb g f c xb : Nat) (A : Option Addr) (bs : List UInt8) (r fl fr tu at_ : Int) (code : Nat) (w : World) (h : Hid (RS w rb g f c A bs r fl fr tu at_ 0)) (hx : Hid (IV w xb (code : Int) 0 0 0 (.slice none 0 0))) (hxb : rb < xb)
    (hr1 : 0 ≤ r) (hr2 : r ≤ 880000) (hl : bs.length ≤ 1000) (h1 : 0 ≤ at_) (h2 : at_ ≤ tu) (h4 : tu ≤ (bs.length : Int)) (hcode : code ≤ 200000) (hk : refForm (code : Int) = 5 ∨ refForm (code : Int) = 10) (hsome : (opRow (code : Int)).isSome = true) :
    Calls Try.prog 56 #[.pointer (some ⟨rb, 0, none⟩), .pointer (some ⟨xb, 0, none⟩)] w (FormStep w rb g f c xb A bs r fl fr tu at_ (code : Int) (twoR (partB bs at_ (tu - at_))) 1300) := by
  have HF := hide (fun W => form_any (code : Int) 0 0 0 none 0 0 W (by omega) (by omega))
  rw [formV_ref hsome] at HF
  have hpl := part_len bs at_ (tu - at_) h1 (by omega) (by omega)
  obtain ⟨l, hll⟩ : ∃ l, partB bs at_ (tu - at_) = l := ⟨_, rfl⟩
  have HL := hide hll
  rw [hll] at hpl ⊢
  clear hll
  have hne : xb ∉ [f, g, rb] := by have := h.out.lt; have := h.out.cu.lt; simp; omega
  have HNE := hide hne; clear hne
  have hrbw := blk_lt h.out.blk
  have hxw := blk_lt hx.out
  have c0 := cell_blk hx.out 0
  have c1 := cell_blk hx.out 1
  have c2 := cell_blk hx.out 2
  have c3 := cell_blk hx.out 3
  have c4 := cell_blk hx.out 4
  simp at c0 c1 c2 c3 c4

  rcases hk with hk | hk
  · rw [hk] at HF
    clear hk hsome
    go_enter Try.func56, Try.ntmps56
    go_wp2_with fail
    refine (HF.out _).mono ?_; rintro e w1 ⟨rfl, hb1⟩
    have hRS1 := hide (h.out.below hb1.out hrbw)
    have hX1 : Hid (IV w1 xb (code : Int) 0 0 0 (.slice none 0 0)) := (hb1.out.block xb hxw).trans hx.out
    have hO1 : Hid (Only [f, g, rb, xb] w w1) := Only.of_below hb1.out
    clear c0 c1 c2 c3 c4
    have HN2 := hide (number_step rb g f c A bs r fl fr tu at_ 0 32 w1 hRS1 (by omega) (by omega) hl (by omega) (by omega) h4)
    rw [HL.out] at HN2
    go_wp2_with fail
    refine HN2.out.mono ?_; rintro en w2 ⟨v2, r2, at2, e2, rfl, n1, n2, n3, n4, n5, n6, n7, n8, n9⟩
    have hX2 := hide (hX1.out.keep n2.out HNE.out)
    have d1 := cell_blk hX2.out 1
    simp at d1
    have z1 := frozen_blk hX2.out 1
    have hX3 := hide (hX2.out.set.1 v2)
    have o3 := iv_only w2 xb 1 (.int .u64 (v2 : Int))
    have hRS3 := hide (n1.out.keep o3 (by simp <;> omega) (by have := h.out.lt; simp; omega) (by have := h.out.lt; have := h.out.cu.lt; simp; omega) (by have := h.out.lt; have := h.out.cu.lt; simp; omega))
    generalize hw3 : w2.setCell ⟨xb, 1, none⟩ (.int .u64 (v2 : Int)) = w3 at hX3 hRS3 o3
    have HW3 := hide hw3; clear hw3
    have hO3 : Hid (Only [f, g, rb, xb] w w3) := (hO1.out.trans (n2.out.more (by simp))).trans (o3.more (by simp))
    clear o3
    have HN4 := hide (number_step rb g f c A bs r2 fl fr tu at2 e2 32 w3 hRS3 (by omega) (by omega) hl (by omega) (by omega) h4)
    go_wp2_with fail
    rw [HW3.out]
    refine HN4.out.mono ?_; rintro en w4 ⟨v4, r4, at4, e4, rfl, j1, j2, j3, j4, j5, j6, j7, j8, j9⟩
    have hX4 := hide (hX3.out.keep j2.out HNE.out)
    have d2 := cell_blk hX4.out 2
    simp at d2
    have z2 := frozen_blk hX4.out 2
    go_wp2_with fail
    go_end0
    have o5 := iv_only w4 xb 2 (.int .u64 (v4 : Int))
    refine ⟨v2, v4, 0, none, 0, [], r4, at4, e4, rfl, j1.out.keep o5 (by simp <;> omega) (by have := h.out.lt; simp; omega) (by have := h.out.lt; have := h.out.cu.lt; simp; omega) (by have := h.out.lt; have := h.out.cu.lt; simp; omega), hX4.out.set.2.1 v4, own_nil _ _ _ _, (hO3.out.trans (j2.out.more (by simp))).trans (o5.more (by simp)), by omega, by omega, by omega, j6, by simp, ?_⟩
    obtain ⟨q1, q2, q3⟩ := twoR_q l _ rfl
    refine n9.out.bind (fun x => q1 x) (by omega) (fun x => j9.out.held x) ?_
    rintro ⟨p1, p2⟩ p3 p4
    have hcs := unsigned_cases l 32
    have hp : partB bs at2 (tu - at2) = l.drop (unsignedL l 32).2.1 := by rw [p2, partB_drop bs at_ tu _ h1 (by omega), HL.out]
    have j9' := j9.out
    rw [hp, p3] at j9'
    refine j9'.bind (fun x => q2 p4) (by omega) (fun _ => rfl) ?_
    rintro ⟨s1, s2⟩ s3 s4
    rw [s3, q3 p4 s4]
    exact Out.ok rfl ⟨by simp only; omega, p1, s1, rfl, rfl⟩
  · rw [hk] at HF
    clear hk hsome
    go_enter Try.func56, Try.ntmps56
    go_wp2_with fail
    refine (HF.out _).mono ?_; rintro e w1 ⟨rfl, hb1⟩
    have hRS1 := hide (h.out.below hb1.out hrbw)
    have hX1 : Hid (IV w1 xb (code : Int) 0 0 0 (.slice none 0 0)) := (hb1.out.block xb hxw).trans hx.out
    have hO1 : Hid (Only [f, g, rb, xb] w w1) := Only.of_below hb1.out
    clear c0 c1 c2 c3 c4
    have HN2 := hide (number_step rb g f c A bs r fl fr tu at_ 0 32 w1 hRS1 (by omega) (by omega) hl (by omega) (by omega) h4)
    rw [HL.out] at HN2
    go_wp2_with fail
    refine HN2.out.mono ?_; rintro en w2 ⟨v2, r2, at2, e2, rfl, n1, n2, n3, n4, n5, n6, n7, n8, n9⟩
    have hX2 := hide (hX1.out.keep n2.out HNE.out)
    have d1 := cell_blk hX2.out 1
    simp at d1
    have z1 := frozen_blk hX2.out 1
    have hX3 := hide (hX2.out.set.1 v2)
    have o3 := iv_only w2 xb 1 (.int .u64 (v2 : Int))
    have hRS3 := hide (n1.out.keep o3 (by simp <;> omega) (by have := h.out.lt; simp; omega) (by have := h.out.lt; have := h.out.cu.lt; simp; omega) (by have := h.out.lt; have := h.out.cu.lt; simp; omega))
    generalize hw3 : w2.setCell ⟨xb, 1, none⟩ (.int .u64 (v2 : Int)) = w3 at hX3 hRS3 o3
    have HW3 := hide hw3; clear hw3
    have hO3 : Hid (Only [f, g, rb, xb] w w3) := (hO1.out.trans (n2.out.more (by simp))).trans (o3.more (by simp))
    clear o3
    have HN4 := hide (number_step rb g f c A bs r2 fl fr tu at2 e2 32 w3 hRS3 (by omega) (by omega) hl (by omega) (by omega) h4)
    go_wp2_with fail
    rw [HW3.out]
    refine HN4.out.mono ?_; rintro en w4 ⟨v4, r4, at4, e4, rfl, j1, j2, j3, j4, j5, j6, j7, j8, j9⟩
    have hX4 := hide (hX3.out.keep j2.out HNE.out)
    have d2 := cell_blk hX4.out 2
    simp at d2
    have z2 := frozen_blk hX4.out 2
    go_wp2_with fail
    go_end0
    have o5 := iv_only w4 xb 2 (.int .u64 (v4 : Int))
    refine ⟨v2, v4, 0, none, 0, [], r4, at4, e4, rfl, j1.out.keep o5 (by simp <;> omega) (by have := h.out.lt; simp; omega) (by have := h.out.lt; have := h.out.cu.lt; simp; omega) (by have := h.out.lt; have := h.out.cu.lt; simp; omega), hX4.out.set.2.1 v4, own_nil _ _ _ _, (hO3.out.trans (j2.out.more (by simp))).trans (o5.more (by simp)), by omega, by omega, by omega, j6, by simp, ?_⟩
    obtain ⟨q1, q2, q3⟩ := twoR_q l _ rfl
    refine n9.out.bind (fun x => q1 x) (by omega) (fun x => j9.out.held x) ?_
    rintro ⟨p1, p2⟩ p3 p4
    have hcs := unsigned_cases l 32
    have hp : partB bs at2 (tu - at2) = l.drop (unsignedL l 32).2.1 := by rw [p2, partB_drop bs at_ tu _ h1 (by omega), HL.out]
    have j9' := j9.out
    rw [hp, p3] at j9'
    refine j9'.bind (fun x => q2 p4) (by omega) (fun _ => rfl) ?_
    rintro ⟨s1, s2⟩ s3 s4
    rw [s3, q3 p4 s4]
    exact Out.ok rfl ⟨by simp only; omega, p1, s1, rfl, rfl⟩

set_option maxHeartbeats 3200000 in
theorem numbers_table (rb g f c xb : Nat) (A : Option Addr) (bs : List UInt8) (r fl fr tu at_ : Int) (code : Nat) (w : World) (h : Hid (RS w rb g f c A bs r fl fr tu at_ 0)) (hx : Hid (IV w xb (code : Int) 0 0 0 (.slice none 0 0))) (hxb : rb < xb)
    (hr1 : 0 ≤ r) (hr2 : r ≤ 880000) (hl : bs.length ≤ 1000) (h1 : 0 ≤ at_) (h2 : at_ ≤ tu) (h4 : tu ≤ (bs.length : Int)) (hcode : code ≤ 200000) (hk : refForm (code : Int) = 3) (hsome : (opRow (code : Int)).isSome = true) :
    Calls Try.prog 56 #[.pointer (some ⟨rb, 0, none⟩), .pointer (some ⟨xb, 0, none⟩)] w (FormStep w rb g f c xb A bs r fl fr tu at_ (code : Int) (tableR (partB bs at_ (tu - at_))) 1300) := by
  have HF := hide (fun W => form_any (code : Int) 0 0 0 none 0 0 W (by omega) (by omega))
  rw [formV_ref hsome] at HF
  have hpl := part_len bs at_ (tu - at_) h1 (by omega) (by omega)
  obtain ⟨l, hll⟩ : ∃ l, partB bs at_ (tu - at_) = l := ⟨_, rfl⟩
  have HL := hide hll
  rw [hll] at hpl ⊢
  clear hll
  have hne : xb ∉ [f, g, rb] := by have := h.out.lt; have := h.out.cu.lt; simp; omega
  have HNE := hide hne; clear hne
  have hrbw := blk_lt h.out.blk
  have hxw := blk_lt hx.out
  have c0 := cell_blk hx.out 0
  have c1 := cell_blk hx.out 1
  have c2 := cell_blk hx.out 2
  have c3 := cell_blk hx.out 3
  have c4 := cell_blk hx.out 4
  simp at c0 c1 c2 c3 c4

  rw [hk] at HF
  clear hk hsome
  go_enter Try.func56, Try.ntmps56
  go_wp2_with fail
  refine (HF.out _).mono ?_; rintro e w1 ⟨rfl, hb1⟩
  have hRS1 := hide (h.out.below hb1.out hrbw)
  have hX1 : Hid (IV w1 xb (code : Int) 0 0 0 (.slice none 0 0)) := (hb1.out.block xb hxw).trans hx.out
  have hO1 : Hid (Only [f, g, rb, xb] w w1) := Only.of_below hb1.out
  clear c0 c1 c2 c3 c4
  have HN2 := hide (labels_step rb g f c A bs r fl fr tu at_ w1 hRS1 hr1 (by omega) hl h1 h2 h4)
  rw [HL.out] at HN2
  go_wp2_with fail
  refine HN2.out.mono ?_; rintro en w2 ⟨Al, cl, xs, r2, at2, e2, rfl, n0, n1, n2, n3, n4, n5, n6, n7, n9⟩
  have hX2 := hide (hX1.out.keep n2.out HNE.out)
  have d4 := cell_blk hX2.out 4
  simp at d4
  have z4 := frozen_blk hX2.out 4
  have hX3 := hide (hX2.out.set.2.2.2 (.slice Al xs.length cl))
  have o3 := iv_only w2 xb 4 (.slice Al xs.length cl)
  have hRS3 := hide (n1.out.keep o3 (by simp <;> omega) (by have := h.out.lt; simp; omega) (by have := h.out.lt; have := h.out.cu.lt; simp; omega) (by have := h.out.lt; have := h.out.cu.lt; simp; omega))
  have hown3 : Hid ((w2.setCell ⟨xb, 4, none⟩ (.slice Al xs.length cl)).ownsRow w.heap.size 24 1 (.slice Al xs.length cl) xs.length (xs.map U)) := own_base (own_only3 n0.out o3 (fun q hq => by have := own_ge n0.out q hq; have := hb1.out.size; simp; omega)) (fun q hq => by have := own_ge n0.out q hq; have := hb1.out.size; omega)
  generalize hw3 : w2.setCell ⟨xb, 4, none⟩ (.slice Al xs.length cl) = w3 at hX3 hRS3 o3 hown3
  have HW3 := hide hw3; clear hw3
  have hO3 : Hid (Only [f, g, rb, xb] w w3) := (hO1.out.trans (n2.out.more (by simp))).trans (o3.more (by simp))
  clear o3
  have HN4 := hide (number_step rb g f c A bs r2 fl fr tu at2 e2 32 w3 hRS3 (by omega) (by omega) hl (by omega) (by omega) h4)
  go_wp2_with fail
  rw [HW3.out]
  refine HN4.out.mono ?_; rintro en w4 ⟨v4, r4, at4, e4, rfl, j1, j2, j3, j4, j5, j6, j7, j8, j9⟩
  have hX4 := hide (hX3.out.keep j2.out HNE.out)
  have d1 := cell_blk hX4.out 1
  simp at d1
  have z1 := frozen_blk hX4.out 1
  have hown4 := hide (own_only3 hown3.out j2.out (fun q hq => by have := own_ge hown3.out q hq; have := h.out.lt; have := h.out.cu.lt; simp; omega))
  go_wp2_with fail
  go_end0
  have o5 := iv_only w4 xb 1 (.int .u64 (v4 : Int))
  refine ⟨v4, 0, 0, Al, cl, xs, r4, at4, e4, rfl, j1.out.keep o5 (by simp <;> omega) (by have := h.out.lt; simp; omega) (by have := h.out.lt; have := h.out.cu.lt; simp; omega) (by have := h.out.lt; have := h.out.cu.lt; simp; omega), hX4.out.set.1 v4, own_only3 hown4.out o5 (fun q hq => by have := own_ge hown4.out q hq; simp; omega), (hO3.out.trans (j2.out.more (by simp))).trans (o5.more (by simp)), by omega, by omega, by omega, j6, n7, ?_⟩
  obtain ⟨q1, q2, q3⟩ := tableR_q l _ rfl
  refine n9.out.bind (fun x => q1 x) (by omega) (fun x => j9.out.held x) ?_
  rintro ⟨p1, p2⟩ p3 p4
  have hle := labsR_le' l
  have hp : partB bs at2 (tu - at2) = l.drop (labsR l).2.1 := by rw [p1, partB_drop bs at_ tu _ h1 (by omega), HL.out]
  have j9' := j9.out
  rw [hp, p3] at j9'
  refine j9'.bind (fun x => q2 p4) (by omega) (fun _ => rfl) ?_
  rintro ⟨s1, s2⟩ s3 s4
  rw [s3, q3 p4 s4]
  exact Out.ok rfl ⟨by simp only; omega, s1, rfl, rfl, p2⟩

set_option maxHeartbeats 3200000 in
theorem numbers_mem (rb g f c xb : Nat) (A : Option Addr) (bs : List UInt8) (r fl fr tu at_ : Int) (code : Nat) (w : World) (h : Hid (RS w rb g f c A bs r fl fr tu at_ 0)) (hx : Hid (IV w xb (code : Int) 0 0 0 (.slice none 0 0))) (hxb : rb < xb)
    (hr1 : 0 ≤ r) (hr2 : r ≤ 880000) (hl : bs.length ≤ 1000) (h1 : 0 ≤ at_) (h2 : at_ ≤ tu) (h4 : tu ≤ (bs.length : Int)) (hcode : code ≤ 200000) (hk : refForm (code : Int) = 8) (hsome : (opRow (code : Int)).isSome = true) :
    Calls Try.prog 56 #[.pointer (some ⟨rb, 0, none⟩), .pointer (some ⟨xb, 0, none⟩)] w (FormStep w rb g f c xb A bs r fl fr tu at_ (code : Int) (memR (partB bs at_ (tu - at_))) 1300) := by
  have HF := hide (fun W => form_any (code : Int) 0 0 0 none 0 0 W (by omega) (by omega))
  rw [formV_ref hsome] at HF
  have hpl := part_len bs at_ (tu - at_) h1 (by omega) (by omega)
  obtain ⟨l, hll⟩ : ∃ l, partB bs at_ (tu - at_) = l := ⟨_, rfl⟩
  have HL := hide hll
  rw [hll] at hpl ⊢
  clear hll
  have hne : xb ∉ [f, g, rb] := by have := h.out.lt; have := h.out.cu.lt; simp; omega
  have HNE := hide hne; clear hne
  have hrbw := blk_lt h.out.blk
  have hxw := blk_lt hx.out
  have c0 := cell_blk hx.out 0
  have c1 := cell_blk hx.out 1
  have c2 := cell_blk hx.out 2
  have c3 := cell_blk hx.out 3
  have c4 := cell_blk hx.out 4
  simp at c0 c1 c2 c3 c4

  rw [hk] at HF
  clear hk hsome
  go_enter Try.func56, Try.ntmps56
  go_wp2_with fail
  refine (HF.out _).mono ?_; rintro e w1 ⟨rfl, hb1⟩
  have hRS1 := hide (h.out.below hb1.out hrbw)
  have hX1 : Hid (IV w1 xb (code : Int) 0 0 0 (.slice none 0 0)) := (hb1.out.block xb hxw).trans hx.out
  have hO1 : Hid (Only [f, g, rb, xb] w w1) := Only.of_below hb1.out
  clear c0 c1 c2 c3 c4
  have HN2 := hide (mem_step rb g f c xb A bs r fl fr tu at_ (code : Int) w1 hRS1 hX1 hxb hr1 (by omega) hl h1 h2 h4)
  rw [HL.out] at HN2
  go_wp2_with fail
  refine HN2.out.mono ?_; rintro en w2 ⟨a, b, al, Al, cl, xs, r2, at2, e2, rfl, n1, n2, n3, n4, n5, n6, n7, n8, n9, n10⟩
  go_wp2_with fail
  go_end0
  have hs1 := hb1.out.size
  exact ⟨a, b, al, Al, cl, xs, r2, at2, e2, rfl, n1, n2, own_base n3.out (fun q hq => by have := own_ge n3.out q hq; omega), hO1.out.trans n4.out, n5, by omega, n7, n8, n9, n10⟩

set_option maxHeartbeats 3200000 in
theorem numbers_const (rb g f c xb : Nat) (A : Option Addr) (bs : List UInt8) (r fl fr tu at_ : Int) (code : Nat) (w : World) (h : Hid (RS w rb g f c A bs r fl fr tu at_ 0)) (hx : Hid (IV w xb (code : Int) 0 0 0 (.slice none 0 0))) (hxb : rb < xb)
    (hr1 : 0 ≤ r) (hr2 : r ≤ 880000) (hl : bs.length ≤ 1000) (h1 : 0 ≤ at_) (h2 : at_ ≤ tu) (h4 : tu ≤ (bs.length : Int)) (hcode : code ≤ 200000) (hk : refForm (code : Int) = 11) (hsome : (opRow (code : Int)).isSome = true) :
    Calls Try.prog 56 #[.pointer (some ⟨rb, 0, none⟩), .pointer (some ⟨xb, 0, none⟩)] w (FormStep w rb g f c xb A bs r fl fr tu at_ (code : Int) (constR code (partB bs at_ (tu - at_))) 1300) := by
  have HF := hide (fun W => form_any (code : Int) 0 0 0 none 0 0 W (by omega) (by omega))
  rw [formV_ref hsome] at HF
  have hpl := part_len bs at_ (tu - at_) h1 (by omega) (by omega)
  obtain ⟨l, hll⟩ : ∃ l, partB bs at_ (tu - at_) = l := ⟨_, rfl⟩
  have HL := hide hll
  rw [hll] at hpl ⊢
  clear hll
  have hne : xb ∉ [f, g, rb] := by have := h.out.lt; have := h.out.cu.lt; simp; omega
  have HNE := hide hne; clear hne
  have hrbw := blk_lt h.out.blk
  have hxw := blk_lt hx.out
  have c0 := cell_blk hx.out 0
  have c1 := cell_blk hx.out 1
  have c2 := cell_blk hx.out 2
  have c3 := cell_blk hx.out 3
  have c4 := cell_blk hx.out 4
  simp at c0 c1 c2 c3 c4

  rw [hk] at HF
  clear hk hsome
  go_enter Try.func56, Try.ntmps56
  go_wp2_with fail
  refine (HF.out _).mono ?_; rintro e w1 ⟨rfl, hb1⟩
  have hRS1 := hide (h.out.below hb1.out hrbw)
  have hX1 : Hid (IV w1 xb (code : Int) 0 0 0 (.slice none 0 0)) := (hb1.out.block xb hxw).trans hx.out
  have hO1 : Hid (Only [f, g, rb, xb] w w1) := Only.of_below hb1.out
  clear c0 c1 c2 c3 c4
  obtain ⟨q, hq⟩ : ∃ q, signedL l (if code = 66 then 64 else 32) = q := ⟨_, rfl⟩
  have HN2 := hide (word_step rb g f c A bs r fl fr tu at_ code w1 hRS1 hr1 (by omega) hl h1 h2 h4 q (by show _ = _; rw [HL.out]; exact hq))
  have HQ := hide hq; clear hq
  have d0 := cell_blk hX1.out 0
  simp at d0
  go_wp2_with fail
  refine HN2.out.mono ?_; rintro en w2 ⟨v2, r2, at2, e2, rfl, n1, n2, n3, n4, n5, n6, n7, n8, n9⟩
  have hX2 := hide (hX1.out.keep n2.out HNE.out)
  have d1 := cell_blk hX2.out 1
  simp at d1
  have z1 := frozen_blk hX2.out 1
  go_wp2_with fail
  go_end0
  have o3 := iv_only w2 xb 1 (.int .u64 (v2 : Int))
  refine ⟨v2, 0, 0, none, 0, [], r2, at2, e2, rfl, n1.out.keep o3 (by simp <;> omega) (by have := h.out.lt; simp; omega) (by have := h.out.lt; have := h.out.cu.lt; simp; omega) (by have := h.out.lt; have := h.out.cu.lt; simp; omega), hX2.out.set.1 v2, own_nil _ _ _ _, (hO1.out.trans (n2.out.more (by simp))).trans (o3.more (by simp)), by omega, by omega, by omega, n6, by simp, ?_⟩
  obtain ⟨q1, q2⟩ := constR_q code l q HQ.out
  refine n9.out.bind (fun x => q1 x) (by omega) (fun _ => rfl) ?_
  rintro ⟨p1, p2⟩ p3 p4
  rw [p3, q2 p4]
  exact Out.ok rfl ⟨p2, p1, rfl, rfl, rfl⟩

theorem refForm_cases (c : Int) : refForm c = 0 ∨ refForm c = 1 ∨ refForm c = 2 ∨ refForm c = 3 ∨ refForm c = 4 ∨ refForm c = 5 ∨ refForm c = 6 ∨ refForm c = 7 ∨ refForm c = 8 ∨ refForm c = 9 ∨ refForm c = 10 ∨ refForm c = 11 := by
  unfold refForm
  repeat' split
  all_goals omega

theorem numbers_step (rb g f c xb : Nat) (A : Option Addr) (bs : List UInt8) (r fl fr tu at_ : Int) (code : Nat) (w : World) (h : Hid (RS w rb g f c A bs r fl fr tu at_ 0)) (hx : Hid (IV w xb (code : Int) 0 0 0 (.slice none 0 0))) (hxb : rb < xb)
    (hr1 : 0 ≤ r) (hr2 : r ≤ 880000) (hl : bs.length ≤ 1000) (h1 : 0 ≤ at_) (h2 : at_ ≤ tu) (h4 : tu ≤ (bs.length : Int)) (hcode : code ≤ 200000) (hsome : (opRow (code : Int)).isSome = true) :
    Calls Try.prog 56 #[.pointer (some ⟨rb, 0, none⟩), .pointer (some ⟨xb, 0, none⟩)] w (FormStep w rb g f c xb A bs r fl fr tu at_ (code : Int) (numbersR code (partB bs at_ (tu - at_))) 1300) := by
  rcases refForm_cases (code : Int) with hk | hk | hk | hk | hk | hk | hk | hk | hk | hk | hk | hk

  · have e : numbersR code (partB bs at_ (tu - at_)) = ⟨0, 0, 0, 0, 0, []⟩ := by unfold numbersR; rw [hk]; simp
    rw [e]
    exact numbers_none rb g f c xb A bs r fl fr tu at_ code w h hx hxb hr1 hr2 hl h1 h2 h4 hcode (by omega) hsome
  · have e : numbersR code (partB bs at_ (tu - at_)) = blockR (partB bs at_ (tu - at_)) := by unfold numbersR; rw [hk]; simp
    rw [e]
    exact numbers_block rb g f c xb A bs r fl fr tu at_ code w h hx hxb hr1 hr2 hl h1 h2 h4 hcode (by omega) hsome
  · have e : numbersR code (partB bs at_ (tu - at_)) = oneR (partB bs at_ (tu - at_)) := by unfold numbersR; rw [hk]; simp
    rw [e]
    exact numbers_one rb g f c xb A bs r fl fr tu at_ code w h hx hxb hr1 hr2 hl h1 h2 h4 hcode (by omega) hsome
  · have e : numbersR code (partB bs at_ (tu - at_)) = tableR (partB bs at_ (tu - at_)) := by unfold numbersR; rw [hk]; simp
    rw [e]
    exact numbers_table rb g f c xb A bs r fl fr tu at_ code w h hx hxb hr1 hr2 hl h1 h2 h4 hcode (by omega) hsome
  · have e : numbersR code (partB bs at_ (tu - at_)) = oneR (partB bs at_ (tu - at_)) := by unfold numbersR; rw [hk]; simp
    rw [e]
    exact numbers_one rb g f c xb A bs r fl fr tu at_ code w h hx hxb hr1 hr2 hl h1 h2 h4 hcode (by omega) hsome
  · have e : numbersR code (partB bs at_ (tu - at_)) = twoR (partB bs at_ (tu - at_)) := by unfold numbersR; rw [hk]; simp
    rw [e]
    exact numbers_two rb g f c xb A bs r fl fr tu at_ code w h hx hxb hr1 hr2 hl h1 h2 h4 hcode (by omega) hsome
  · have e : numbersR code (partB bs at_ (tu - at_)) = oneR (partB bs at_ (tu - at_)) := by unfold numbersR; rw [hk]; simp
    rw [e]
    exact numbers_one rb g f c xb A bs r fl fr tu at_ code w h hx hxb hr1 hr2 hl h1 h2 h4 hcode (by omega) hsome
  · have e : numbersR code (partB bs at_ (tu - at_)) = oneR (partB bs at_ (tu - at_)) := by unfold numbersR; rw [hk]; simp
    rw [e]
    exact numbers_one rb g f c xb A bs r fl fr tu at_ code w h hx hxb hr1 hr2 hl h1 h2 h4 hcode (by omega) hsome
  · have e : numbersR code (partB bs at_ (tu - at_)) = memR (partB bs at_ (tu - at_)) := by unfold numbersR; rw [hk]; simp
    rw [e]
    exact numbers_mem rb g f c xb A bs r fl fr tu at_ code w h hx hxb hr1 hr2 hl h1 h2 h4 hcode (by omega) hsome
  · have e : numbersR code (partB bs at_ (tu - at_)) = oneR (partB bs at_ (tu - at_)) := by unfold numbersR; rw [hk]; simp
    rw [e]
    exact numbers_one rb g f c xb A bs r fl fr tu at_ code w h hx hxb hr1 hr2 hl h1 h2 h4 hcode (by omega) hsome
  · have e : numbersR code (partB bs at_ (tu - at_)) = twoR (partB bs at_ (tu - at_)) := by unfold numbersR; rw [hk]; simp
    rw [e]
    exact numbers_two rb g f c xb A bs r fl fr tu at_ code w h hx hxb hr1 hr2 hl h1 h2 h4 hcode (by omega) hsome
  · have e : numbersR code (partB bs at_ (tu - at_)) = constR code (partB bs at_ (tu - at_)) := by unfold numbersR; rw [hk]; simp
    rw [e]
    exact numbers_const rb g f c xb A bs r fl fr tu at_ code w h hx hxb hr1 hr2 hl h1 h2 h4 hcode (by omega) hsome
end Go.Proofs.Ytdhmkapknaphpaa

namespace Go.Proofs.Ytdhmkapknaphpaa
open Go.RowKit
set_option linter.unusedVariables false

theorem Only.shrink {S S' : List Nat} {a b d : World} (h : Only S a b) (k : Only S' b d) (hS : ∀ x, x ∈ S' → x ∈ S ∨ a.heap.size ≤ x) : Only S a d :=
  ⟨k.os.trans h.os, k.tape.trans h.tape, k.output.trans h.output, Nat.le_trans h.size k.size, fun i hi hn => (k.block i (Nat.lt_of_lt_of_le hi h.size) (fun hx => by
    rcases hS i hx with x | x
    · exact hn x
    · omega)).trans (h.block i hi hn)⟩

def DecOk (fl at_ : Int) (res : Nat × DR) (r' at' e' : Int) (code a b al : Nat) (xs : List Nat) : Prop :=
  (e' = 0 ∧ res.2.e = 0 ∧ at' = at_ + res.2.k ∧ code = res.1 ∧ a = res.2.a ∧ b = res.2.b ∧ al = res.2.al ∧ xs = res.2.l) ∨
  (e' ≠ 0 ∧ at' = at_ ∧ code = 0 ∧ a = 0 ∧ b = 0 ∧ al = 0 ∧ xs = [] ∧ ((res.2.e ≠ 0 ∧ e' = res.2.e) ∨ (e' = 9 ∧ 0 ≤ fl ∧ fl < r')))

/-- what Decode leaves -/
structure DecStep (w : World) (g f c : Nat) (A : Option Addr) (bs : List UInt8) (r fl fr tu at_ : Int) (res : Nat × DR) (en : Ending) (w' : World) : Prop where
  out : ∃ (code a b al : Nat) (Al : Option Addr) (cl : Nat) (xs : List Nat) (r' at' e' : Int), en = .returned (.tuple #[.agg #[.int .i64 (code : Int), .int .u64 (a : Int), .int .u64 (b : Int), .int .i64 (al : Int), .slice Al xs.length cl], .int .i64 e']) ∧
    Hid (FL w' f A c bs r' fl) ∧ Hid (CU w' g f fr tu at') ∧ Hid (Only [f, g] w w') ∧ Hid (w'.ownsRow w.heap.size 24 1 (.slice Al xs.length cl) xs.length (xs.map U)) ∧ r ≤ r' ∧ r' ≤ r + 1330 ∧ at_ ≤ at' ∧ at' ≤ tu ∧ xs.length ≤ 100 ∧ code ≤ 200000 ∧
    Hid (DecOk fl at_ res r' at' e' code a b al xs)

theorem dec_err {w w4 : World} {g f c gd : Nat} {A : Option Addr} {bs : List UInt8} {r fl fr tu at_ r' e' : Int} {res : Nat × DR} (hgd : w.heap.size = gd) (hg : g < gd) (hfg : f < g) (hO : Only [f, g] w w4) (hf : FL w4 f A c bs r' fl) (hc : CU w4 g f fr tu at_) (hb : gd < w4.heap.size)
    (h1 : r ≤ r') (h2 : r' ≤ r + 1330) (h3 : at_ ≤ tu) (hne : e' ≠ 0) (hE : (res.2.e ≠ 0 ∧ e' = res.2.e) ∨ (e' = 9 ∧ 0 ≤ fl ∧ fl < r')) :
    DecStep w g f c A bs r fl fr tu at_ res (.returned (.tuple #[.agg #[.int .i64 0, .int .u64 0, .int .u64 0, .int .i64 0, .slice none 0 0], .int .i64 e'])) (((((w4.setCell ⟨gd, 0, none⟩ (.int .i64 0)).setCell ⟨gd, 1, none⟩ (.int .u64 0)).setCell ⟨gd, 2, none⟩ (.int .u64 0)).setCell ⟨gd, 3, none⟩ (.int .i64 0)).setCell ⟨gd, 4, none⟩ (.slice none 0 0)).drew := by
  have hs : ∀ (V : World) (i : Nat) (x : Value), Only [gd] V (V.setCell ⟨gd, i, none⟩ x) := fun V i x => Only.setCell V (p := ⟨gd, i, none⟩) (by simp) x
  have ho := (((((hs w4 0 (.int .i64 0)).trans (hs _ 1 (.int .u64 0))).trans (hs _ 2 (.int .u64 0))).trans (hs _ 3 (.int .i64 0))).trans (hs _ 4 (.slice none 0 0))).trans (Only.drew [gd] _)
  exact ⟨0, 0, 0, 0, none, 0, [], r', at_, e', rfl, hf.keep ho (by simp <;> omega) (by simp <;> omega), hc.keep ho (by simp <;> omega), hO.shrink ho (by rw [hgd]; simp), own_nil _ _ _ _, h1, h2, by omega, h3, by simp, by omega, .inr ⟨hne, rfl, rfl, rfl, rfl, rfl, rfl, hE⟩⟩

theorem codeL0_k (l : List UInt8) (h : (codeL0 l).2.2 = 0) : 1 ≤ (codeL0 l).2.1 ∧ (codeL0 l).2.1 ≤ l.length := by
  cases l with
  | nil => simp [codeL0] at h
  | cons b r =>
    unfold codeL0 at h ⊢
    simp only at h ⊢
    have := unsigned_cases r 32
    split
    · rename_i hb
      rw [if_pos hb] at h
      simp only at h ⊢
      simp only [List.length_cons]
      omega
    · simp

set_option maxRecDepth 100000 in
set_option maxHeartbeats 3200000 in
theorem decode_step (g f c : Nat) (A : Option Addr) (bs : List UInt8) (r fl fr tu at_ : Int) (w : World) (hf : Hid (FL w f A c bs r fl)) (hc : Hid (CU w g f fr tu at_))
    (hr1 : 0 ≤ r) (hr2 : r ≤ 870000) (hl : bs.length ≤ 1000) (h0 : fr ≤ at_) (h1 : 0 ≤ at_) (h2 : at_ ≤ tu) (h4 : tu ≤ (bs.length : Int)) :
    Calls Try.prog 34 #[.pointer (some ⟨g, 0, none⟩)] w (DecStep w g f c A bs r fl fr tu at_ (decodeR (partB bs at_ (tu - at_)))) := by
  obtain ⟨gd, hgd⟩ : ∃ gd, w.heap.size = gd := ⟨_, rfl⟩
  have hgl : g < gd := by rw [← hgd]; exact blk_lt hc.out.blk
  have hfl := hc.out.lt
  obtain ⟨W, hW⟩ : ∃ W, (w.alloc (.cells #[.int .i64 0, .int .u64 0, .int .u64 0, .int .i64 0, .slice none 0 0] 27)) = W := ⟨_, rfl⟩
  have hblkW : W.heap[gd]? = some (.cells #[.int .i64 0, .int .u64 0, .int .u64 0, .int .i64 0, .slice none 0 0] 27 (0, 0)) := by rw [← hW, ← hgd]; exact heap_alloc_new w _
  have hszW : W.heap.size = gd + 1 := by rw [← hW, ← hgd]; simp
  have hbW : Below gd w W := by rw [← hW, ← hgd]; exact (Below.refl _ _).alloc (Nat.le_refl _) _
  obtain ⟨W1, hW1⟩ : ∃ W1, W.alloc (.cells #[.pointer (some ⟨g, 0, none⟩), .int .i64 0] 132) = W1 := ⟨_, rfl⟩
  have hbW1 : Below (gd + 1) W W1 := by rw [← hW1, ← hszW]; exact (Below.refl _ _).alloc (Nat.le_refl _) _
  have hrs : Hid (RS W1 (gd + 1) g f c A bs r fl fr tu at_ 0) := by
    have hb1 : W1.heap[gd + 1]? = some (.cells #[.pointer (some ⟨g, 0, none⟩), .int .i64 0] 132 (0, 0)) := by rw [← hW1, ← hszW]; exact heap_alloc_new W _
    have hb2 : Below gd w W1 := hbW.trans (hbW1.mono (by omega))
    exact ⟨hb1, hf.out.below hb2 (by omega), hc.out.below hb2 (by omega), by omega⟩
  have hat : Hid (CU W g f fr tu at_) := hc.out.below hbW hgl
  have hblk1 : Hid (W1.heap[gd]? = some (.cells #[.int .i64 0, .int .u64 0, .int .u64 0, .int .i64 0, .slice none 0 0] 27 (0, 0))) := (hbW1.block gd (by omega)).trans hblkW
  have hO1 : Hid (Only [f, g] w W1) := Only.of_below (by rw [hgd]; exact hbW.trans (hbW1.mono (by omega)))
  have HCO := hide (code_step (gd + 1) g f c A bs r fl fr tu at_ W1 hrs hr1 (by omega) hl h1 h2 h4)
  have HAT := hide (at_any g f fr tu at_ W hat)
  have hpl := part_len bs at_ (tu - at_) h1 (by omega) (by omega)
  obtain ⟨l, hll⟩ : ∃ l, partB bs at_ (tu - at_) = l := ⟨_, rfl⟩
  have HL := hide hll
  rw [hll] at hpl HCO ⊢
  have HGD := hide hgd; have HW := hide hW; have HW1 := hide hW1; have HSZ := hide hszW
  clear hll hgd hW hW1 hbW hbW1 hblkW hszW
  go_enter Try.func34, Try.ntmps34
  go_wp2_with fail
  rw [HW.out, HGD.out]
  refine HAT.out.mono ?_; rintro e w' ⟨rfl, rfl⟩
  go_wp2_with fail
  rw [HW1.out, HSZ.out]
  refine HCO.out.mono ?_; rintro en w2 ⟨v, r2, at2, e2, rfl, n1, n2, n3, n4, n5, n6, n7, n8⟩
  obtain ⟨xb, hxb⟩ : ∃ xb, w2.heap.size = xb := ⟨_, rfl⟩
  obtain ⟨W3, hW3⟩ : ∃ W3, w2.alloc (.cells #[.int .i64 (v : Int), .int .u64 0, .int .u64 0, .int .i64 0, .slice none 0 0] 27) = W3 := ⟨_, rfl⟩
  have hb3 : Below xb w2 W3 := by rw [← hW3, ← hxb]; exact (Below.refl _ _).alloc (Nat.le_refl _) _
  have hrb2 := blk_lt n1.out.blk
  rw [hxb] at hrb2
  have hRS3 := hide (n1.out.below hb3 hrb2)
  have hX3 : Hid (IV W3 xb (v : Int) 0 0 0 (.slice none 0 0)) := by show W3.heap[xb]? = _; rw [← hW3, ← hxb]; exact heap_alloc_new w2 _
  have hO3 : Hid (Only [f, g] w W3) := (hO1.out.shrink n2.out (by rw [HGD.out]; simp <;> omega)).trans (Only.of_below (by rw [hxb]; exact hb3))
  have hblk3 : Hid (W3.heap[gd]? = some (.cells #[.int .i64 0, .int .u64 0, .int .u64 0, .int .i64 0, .slice none 0 0] 27 (0, 0))) := (hb3.block gd (by omega)).trans ((n2.out.block gd (by have := blk_lt hblk1.out; omega) (by simp; omega)).trans hblk1.out)
  have HXB := hide hxb; have HW3 := hide hW3
  clear hxb hW3 hb3
  have d1 := cell_blk hRS3.out.blk 1
  simp at d1
  go_upto_region 4 with fail
  rw [HW3.out, HXB.out]
  by_cases he : e2 = 0
  · subst he
    obtain ⟨p1, p2, p3⟩ : codeE (codeL0 l).1 (codeL0 l).2.2 = 0 ∧ v = (codeL0 l).1 ∧ at2 = at_ + (codeL0 l).2.1 := by
      rcases n8.out with ⟨_, _, a, b, d⟩ | ⟨a, _⟩
      · exact ⟨a, b, d⟩
      · exact absurd rfl a
    have hce : (codeL0 l).2.2 = 0 := by
      apply Decidable.byContradiction
      intro hn
      unfold codeE at p1
      rw [if_pos hn] at p1
      exact hn p1
    have hsome : (opRow (v : Int)).isSome = true := by
      unfold codeE at p1
      rw [if_neg (fun x => x hce)] at p1
      split at p1
      · cases p1
      · split at p1
        · cases p1
        · rename_i hx
          rw [p2]
          cases h : opRow ((codeL0 l).1 : Int) with
          | none => rw [h] at hx; exact absurd rfl hx
          | some _ => rfl
    have hdec : decodeR l = if (numbersR v (l.drop (codeL0 l).2.1)).e ≠ 0 then (0, failR (numbersR v (l.drop (codeL0 l).2.1)).e) else (v, { numbersR v (l.drop (codeL0 l).2.1) with k := (codeL0 l).2.1 + (numbersR v (l.drop (codeL0 l).2.1)).k }) := by
      unfold decodeR
      simp only
      rw [if_neg (fun x => x p1), ← p2]
    obtain ⟨hk1, hk2⟩ := codeL0_k l hce
    have hp : partB bs at2 (tu - at2) = l.drop (codeL0 l).2.1 := by rw [p3, partB_drop bs at_ tu _ h1 (by omega), HL.out]
    have HNU := hide (numbers_step (gd + 1) g f c xb A bs r2 fl fr tu at2 v W3 hRS3 hX3 hrb2 (by omega) (by omega) hl (by omega) n6 h4 n7 hsome)
    rw [hp] at HNU
    obtain ⟨nr, hnr⟩ : ∃ nr, numbersR v (l.drop (codeL0 l).2.1) = nr := ⟨_, rfl⟩
    rw [hnr] at HNU hdec
    have HDEC := hide hdec
    have P3 := hide p3
    clear hdec hnr p1 p2 p3 hce hp
    go_wp2_with fail
    refine HNU.out.mono ?_; rintro en w4 ⟨a, b, al, Al, cl, xs, r4, at4, e4, rfl, j1, j2, j3, j4, j5, j6, j7, j8, j9, j10⟩
    have hO4 : Hid (Only [f, g] w w4) := hO3.out.shrink j4.out (by rw [HGD.out]; simp <;> omega)
    have hblk4 := hide ((j4.out.block gd (blk_lt hblk3.out) (by simp <;> omega)).trans hblk3.out)
    have hsz3 : gd < W3.heap.size := blk_lt hblk3.out
    have hown4 : Hid (w4.ownsRow (W3.heap.size) 24 1 (.slice Al xs.length cl) xs.length (xs.map U)) := j3.out
    clear d1
    have d0 := cell_blk j1.out.blk 0
    have d1 := cell_blk j1.out.blk 1
    simp at d0 d1
    by_cases he4 : e4 = 0
    · subst he4
      have g0 := cell_blk j2.out 0
      have g1 := cell_blk j2.out 1
      have g2 := cell_blk j2.out 2
      have g3 := cell_blk j2.out 3
      have g4 := cell_blk j2.out 4
      simp at g0 g1 g2 g3 g4
      have HSI : Hid ((Try.prog.info? 27).map (·.size) = some 5) := by show _ = _; kernel_rfl
      go_wp2_with (refine wpList_store_row rfl 27 _ _ rfl gd #[.int .i64 (v : Int), .int .u64 (a : Int), .int .u64 (b : Int), .int .i64 (al : Int), .slice Al xs.length cl] rfl rfl 27 _ hblk4.out HSI.out rfl (by simp [Value.oneCell']) ?_)
      have k1 := setRow_blk (cs := #[.int .i64 (v : Int), .int .u64 (a : Int), .int .u64 (b : Int), .int .i64 (al : Int), .slice Al xs.length cl]) hblk4.out
      have k3 := setRow_only w4 gd #[.int .i64 (v : Int), .int .u64 (a : Int), .int .u64 (b : Int), .int .i64 (al : Int), .slice Al xs.length cl]
      generalize w4.setRow gd #[.int .i64 (v : Int), .int .u64 (a : Int), .int .u64 (b : Int), .int .i64 (al : Int), .slice Al xs.length cl] = W5 at k1 k3 ⊢
      have f0 : W5.cell? ⟨gd, 0, none⟩ = some (.int .i64 (v : Int)) := cell_blk k1 0
      have f1 : W5.cell? ⟨gd, 1, none⟩ = some (.int .u64 (a : Int)) := cell_blk k1 1
      have f2 : W5.cell? ⟨gd, 2, none⟩ = some (.int .u64 (b : Int)) := cell_blk k1 2
      have f3 : W5.cell? ⟨gd, 3, none⟩ = some (.int .i64 (al : Int)) := cell_blk k1 3
      have f4 : W5.cell? ⟨gd, 4, none⟩ = some (.slice Al xs.length cl) := cell_blk k1 4
      refine bodyPost_ret (v := .tuple #[.agg #[.int .i64 (v : Int), .int .u64 (a : Int), .int .u64 (b : Int), .int .i64 (al : Int), .slice Al xs.length cl], .int .i64 0]) (by simp [results, Try.results34, go_sem, f0, f1, f2, f3, f4]) rfl ?_
      refine ⟨v, a, b, al, Al, cl, xs, r4, at4, 0, rfl, j1.out.fl_.keep k3 (by simp <;> omega) (by simp <;> omega), j1.out.cu.keep k3 (by simp <;> omega), hO4.out.shrink k3 (by rw [HGD.out]; simp), ?_, by omega, by omega, by omega, j8, j9, n7, ?_⟩
      · exact own_base (own_only3 hown4.out k3 (fun q hq => by have := own_ge hown4.out q hq; simp; omega)) (fun q hq => by have := own_ge hown4.out q hq; rw [HGD.out]; omega)
      · rcases j10.out with ⟨_, _, q3, q4, q5, q6, q7, q8⟩ | ⟨q1, _⟩
        · rw [HDEC.out, if_neg (fun x => x q3)]
          have := P3.out
          exact .inl ⟨rfl, q3, by simp only; omega, rfl, q5, q6, q7, q8⟩
        · exact absurd rfl q1
    · have f1 : (e4 == 0) = false := by simpa using he4
      have f2 : (e4 != 0) = true := by simpa using he4
      have HGO := hide (go_ok g f fr tu at4 at_ w4 (hide j1.out.cu) h0 h2)
      have HE := hide he4; clear he4
      go_wp2_with fail
      refine HGO.out.mono ?_; rintro e w5 ⟨rfl, m1, m2⟩
      have hRS5 := hide ((m2.out.block (gd + 1) (blk_lt j1.out.blk) (by simp; omega)).trans j1.out.blk)
      have d0' := cell_blk hRS5.out 0
      have d1' := cell_blk hRS5.out 1
      simp at d0' d1'
      have hblk5 := hide ((m2.out.block gd (blk_lt hblk4.out) (by simp; omega)).trans hblk4.out)
      have e0 : w5.cell? ⟨gd, 0, none⟩ = some (.int .i64 0) := cell_blk hblk5.out 0
      have e1 : w5.cell? ⟨gd, 1, none⟩ = some (.int .u64 0) := cell_blk hblk5.out 1
      have e2' : w5.cell? ⟨gd, 2, none⟩ = some (.int .u64 0) := cell_blk hblk5.out 2
      have e3 : w5.cell? ⟨gd, 3, none⟩ = some (.int .i64 0) := cell_blk hblk5.out 3
      have e4' : w5.cell? ⟨gd, 4, none⟩ = some (.slice none 0 0) := cell_blk hblk5.out 4
      have z0 := frozen_blk hblk5.out 0
      have z1 := frozen_blk hblk5.out 1
      have z2 := frozen_blk hblk5.out 2
      have z3 := frozen_blk hblk5.out 3
      have z4 := frozen_blk hblk5.out 4
      clear d0 d1
      go_upto_region 8 with fail
      go_region
      go_wp2_with fail
      refine bodyPost_ret (v := .tuple #[.agg #[.int .i64 0, .int .u64 0, .int .u64 0, .int .i64 0, .slice none 0 0], .int .i64 e4]) (by simp [results, Try.results34, go_sem, e0, e1, e2', e3, e4']) rfl ?_
      refine dec_err HGD.out hgl hfl (hO4.out.trans (m2.out.more (by simp))) (j1.out.fl_.keep m2.out (by simp; omega) (by simp; omega)) m1.out (blk_lt hblk5.out) (by omega) (by omega) h2 HE.out ?_
      rw [HDEC.out]
      rcases j10.out with ⟨_, q2, _⟩ | ⟨_, ⟨q2, _⟩ | ⟨_, q2, q3⟩ | ⟨_, q2, q3, q4⟩⟩
      · exact absurd q2 HE.out
      · exact absurd rfl q2
      · rw [if_pos q2]
        exact .inl ⟨q2, q3⟩
      · exact .inr ⟨q2, q3, q4⟩
  · have f1 : (e2 == 0) = false := by simpa using he
    have f2 : (e2 != 0) = true := by simpa using he
    have HGO := hide (go_ok g f fr tu at2 at_ W3 (hide hRS3.out.cu) h0 h2)
    have HE := hide he; clear he
    go_wp2_with fail
    refine HGO.out.mono ?_; rintro e w4 ⟨rfl, m1, m2⟩
    have hRS4 := hide ((m2.out.block (gd + 1) (by have := blk_lt hRS3.out.blk; omega) (by simp; omega)).trans hRS3.out.blk)
    have d0' := cell_blk hRS4.out 0
    have d1' := cell_blk hRS4.out 1
    simp at d0' d1'
    have hblk4 := hide ((m2.out.block gd (blk_lt hblk3.out) (by simp; omega)).trans hblk3.out)
    have e0 : w4.cell? ⟨gd, 0, none⟩ = some (.int .i64 0) := cell_blk hblk4.out 0
    have e1 : w4.cell? ⟨gd, 1, none⟩ = some (.int .u64 0) := cell_blk hblk4.out 1
    have e2' : w4.cell? ⟨gd, 2, none⟩ = some (.int .u64 0) := cell_blk hblk4.out 2
    have e3 : w4.cell? ⟨gd, 3, none⟩ = some (.int .i64 0) := cell_blk hblk4.out 3
    have e4 : w4.cell? ⟨gd, 4, none⟩ = some (.slice none 0 0) := cell_blk hblk4.out 4
    have z0 := frozen_blk hblk4.out 0
    have z1 := frozen_blk hblk4.out 1
    have z2 := frozen_blk hblk4.out 2
    have z3 := frozen_blk hblk4.out 3
    have z4 := frozen_blk hblk4.out 4
    clear d1
    go_upto_region 8 with fail
    go_region
    go_wp2_with fail
    refine bodyPost_ret (v := .tuple #[.agg #[.int .i64 0, .int .u64 0, .int .u64 0, .int .i64 0, .slice none 0 0], .int .i64 e2]) (by simp [results, Try.results34, go_sem, e0, e1, e2', e3, e4]) rfl ?_
    refine dec_err HGD.out hgl hfl (hO3.out.trans (m2.out.more (by simp))) (hRS3.out.fl_.keep m2.out (by simp; omega) (by simp; omega)) m1.out (blk_lt hblk4.out) n3 (by omega) h2 HE.out ?_
    rcases n8.out with ⟨_, q2, _⟩ | ⟨_, ⟨q2, _⟩ | ⟨_, q2, q3⟩ | ⟨_, q2, q3, q4⟩⟩
    · exact absurd q2 HE.out
    · exact absurd rfl q2
    · have hd : decodeR l = (0, failR (codeE (codeL0 l).1 (codeL0 l).2.2)) := by unfold decodeR; simp only; rw [if_pos q2]
      rw [hd]
      exact .inl ⟨q2, q3⟩
    · exact .inr ⟨q2, q3, q4⟩
end Go.Proofs.Ytdhmkapknaphpaa
