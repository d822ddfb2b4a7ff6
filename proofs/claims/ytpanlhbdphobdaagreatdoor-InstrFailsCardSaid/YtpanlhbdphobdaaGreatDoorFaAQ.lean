/-
  instr: code: contract.
  instr: labels: contract.
-/
import Derived.Test.YtpanlhbdphobdaaGreatDoorFaAP
import Derived.Deep.DeepCutAuto
namespace Go.Proofs.YtpanlhbdphobdaaGreatDoor
open Go.RowKit
set_option linter.unusedVariables false

theorem unsignedL_lt (l : List UInt8) (n : Int) : (unsignedL l n).1 ≤ 18446744073709551615 := by
  unfold unsignedL
  rcases rawL_cases l n with ⟨v, size, c, hv, _, _, _, _, _, _, h⟩ | ⟨e, he, h⟩
  · rw [hv]
    simp only [ne_eq, not_true, if_false]
    split
    · simp
    · show v ≤ _; omega
  · rw [he]
    simp only
    rw [if_pos (by omega)]
    simp
theorem partB_drop (bs : List UInt8) (a tu : Int) (k : Nat) (h1 : 0 ≤ a) (h2 : a + k ≤ tu) : partB bs (a + k) (tu - (a + k)) = (partB bs a (tu - a)).drop k := by
  unfold partB
  rw [List.drop_take, List.drop_drop, show (a + k).toNat = k + a.toNat from by omega, Nat.add_comm k, show (tu - (a + k)).toNat = (tu - a).toNat - k from by omega]
theorem step_bd {fl e r' e' : Int} {v V E m : Nat} {Q : Prop} (h : Out fl e E r' e' (v = V ∧ Q)) (hz : e' ≠ 0 → v = 0) (hV : V ≤ m) : v ≤ m := by
  rcases h with ⟨_, _, _, h, _⟩ | ⟨h, _⟩
  · omega
  · rw [hz h]; omega
theorem Only.then_new {S : List Nat} {a b d : World} (h : Only S a b) (k : Below b.heap.size b d) : Only S a d :=
  h.trans (Only.of_below k)

/-- what code leaves -/
structure CodeStep (w : World) (rb g f c : Nat) (A : Option Addr) (bs : List UInt8) (r fl fr tu at_ : Int) (res : Nat × Nat × Nat) (en : Ending) (w' : World) : Prop where
  out : ∃ (v : Nat) (r' at' e' : Int), en = .returned (.int .i64 v) ∧ Hid (RS w' rb g f c A bs r' fl fr tu at' e') ∧ Hid (Only [f, g, rb] w w') ∧ r ≤ r' ∧ r' ≤ r + 22 ∧ at_ ≤ at' ∧ at' ≤ tu ∧ v ≤ 200000 ∧
    Hid (Out fl 0 (codeE res.1 res.2.2) r' e' (v = res.1 ∧ at' = at_ + res.2.1))

/-- the error that is told of a code -/
theorem code_fails (c : Nat) (e : Int) : failE (failE e (foreignL c) 6) (!(opRow (c : Int)).isSome) 4 = if e = 0 then (codeE c 0 : Int) else e := by
  unfold failE codeE
  rw [foreign_eq]
  by_cases h : e = 0
  · subst h
    cases hf : refForeign (c : Int) <;> cases hr : opRow (c : Int) <;> simp
  · simp [h]

/-- what stands behind the code's bytes: the code, how far, how it ended -/
structure Code0 (w : World) (rb g f c : Nat) (A : Option Addr) (bs : List UInt8) (r fl fr tu at_ : Int) (res : Nat × Nat × Nat) (v : Nat) (r' at' e' : Int) (w' : World) : Prop where
  rs : RS w' rb g f c A bs r' fl fr tu at' e'
  only : Only [f, g, rb] w w'
  r1 : r ≤ r'
  r2 : r' ≤ r + 22
  a1 : at_ ≤ at'
  a2 : at' ≤ tu
  vb : v ≤ 200000
  out : Out fl 0 res.2.2 r' e' (v = res.1 ∧ at' = at_ + res.2.1)

theorem byteL_lt (l : List UInt8) : (byteL l).1 ≤ 255 := by
  cases l with
  | nil => simp [byteL]
  | cons b r => have := b.toNat_lt; simp [byteL]; omega

set_option maxHeartbeats 3200000 in
theorem code_step (rb g f c : Nat) (A : Option Addr) (bs : List UInt8) (r fl fr tu at_ : Int) (w : World) (h : Hid (RS w rb g f c A bs r fl fr tu at_ 0))
    (hr1 : 0 ≤ r) (hr2 : r ≤ 890000) (hl : bs.length ≤ 1000) (h1 : 0 ≤ at_) (h2 : at_ ≤ tu) (h4 : tu ≤ (bs.length : Int)) :
    Calls Tryz.prog 49 #[.pointer (some ⟨rb, 0, none⟩)] w (CodeStep w rb g f c A bs r fl fr tu at_ (codeL0 (partB bs at_ (tu - at_)))) := by
  have HB := hide (byte_step rb g f c A bs r fl fr tu at_ 0 w h hr1 (by omega) hl h1 h2 h4)
  have hbl := byteL_lt (partB bs at_ (tu - at_))
  obtain ⟨l, hll⟩ : ∃ l, partB bs at_ (tu - at_) = l := ⟨_, rfl⟩
  rw [hll] at HB hbl ⊢
  have HL := hide hll; clear hll
  obtain ⟨res, hres⟩ : ∃ res, codeL0 l = res := ⟨_, rfl⟩
  rw [hres]
  have HR := hide hres; clear hres
  go_enter Tryz.func49, Tryz.ntmps49
  go_wp2_with fail
  refine HB.out.mono ?_; rintro en w1 ⟨v, r1, at1, e1, rfl, k1, k2, k3, k4, k5, k6, k7, k8, k9⟩
  have hv := step_bd k9.out k7.out hbl
  go_upto_if 10 with fail
  go_cut [3] (fun x wx => ∃ (v : Nat) (r' at' e' : Int), x = .int .i64 v ∧ Hid (Code0 w rb g f c A bs r fl fr tu at_ res v r' at' e' wx))
  case first =>
    by_cases h252 : v = 252
    · subst h252
      have he1 : e1 = 0 := by
        apply Decidable.byContradiction
        intro hn
        have := k7.out hn
        omega
      subst he1
      have HN := hide (number_step rb g f c A bs r1 fl fr tu at1 0 32 w1 k1 (by omega) (by omega) hl (by omega) k6 h4)
      have hul := unsignedL_lt (partB bs at1 (tu - at1)) 32
      have hpart : Hid (∃ b rest, l = b :: rest ∧ b.toNat = 252 ∧ at1 = at_ + 1 ∧ partB bs at1 (tu - at1) = rest) := by
        rcases k9.out with ⟨_, _, he, hv', ha⟩ | ⟨hne, _⟩
        · cases hL : l with
          | nil => rw [hL] at he; simp [byteL] at he
          | cons b rest =>
            rw [hL] at hv' ha
            simp only [byteL] at hv' ha
            have hk := partB_drop bs at_ tu 1 h1 (by omega)
            rw [HL.out, hL] at hk
            exact ⟨b, rest, rfl, hv'.symm, by omega, by rw [show at1 = at_ + ((1 : Nat) : Int) from by omega]; exact hk⟩
        · exact absurd rfl hne
      go_wp2_with fail
      refine HN.out.mono ?_; rintro en w2 ⟨v2, r2, at2, e2, rfl, j1, j2, j3, j4, j5, j6, j7, j8, j9⟩
      have hv2 := step_bd j9.out j7.out hul
      have hfin : ∀ x : Nat, x = 64512 + min v2 65535 → Code0 w rb g f c A bs r fl fr tu at_ res x r2 at2 e2 w2 := fun x hx => by
        obtain ⟨b, rest, hL, hb, ha1, hp⟩ := hpart.out
        have hR : res = (64512 + min (unsignedL rest 32).1 65535, 1 + (unsignedL rest 32).2.1, (unsignedL rest 32).2.2) := by
          rw [← HR.out, hL]; unfold codeL0; simp only; rw [if_pos hb]
        rw [hp] at j9
        refine ⟨j1.out, k2.out.trans j2.out, by omega, by omega, by omega, j6, by omega, ?_⟩
        rw [hR]
        rcases j9.out with ⟨_, q2, q3, q4, q5⟩ | ⟨q1, q2⟩
        · exact .inl ⟨rfl, q2, q3, by rw [hx, q4], by simp only; omega⟩
        · refine .inr ⟨q1, ?_⟩
          rcases q2 with ⟨q2, _⟩ | ⟨_, q2, q3⟩ | ⟨_, q2, q3, q4⟩
          · exact absurd rfl q2
          · exact .inr (.inl ⟨rfl, q2, q3⟩)
          · exact .inr (.inr ⟨rfl, q2, q3, q4⟩)
      have HF := hide hfin; clear hfin
      by_cases hm : v2 ≤ 65535
      · go_wp2_with fail
        go_meet
        exact ⟨64512 + v2, r2, at2, e2, by go_num, HF.out _ (by omega)⟩
      · have hm' : 65535 < v2 := by omega
        clear hm
        go_wp2_with fail
        go_meet
        exact ⟨130047, r2, at2, e2, by go_num, HF.out _ (by omega)⟩
    · have f252 : ((v : Int) == 252) = false := by simp; omega
      go_wp2_with fail
      go_meet
      refine ⟨v, r1, at1, e1, rfl, k1.out, k2.out, k3, by omega, k5, k6, by omega, ?_⟩
      rcases k9.out with ⟨_, q2, q3, q4, q5⟩ | ⟨q1, q2⟩
      · cases hL : l with
        | nil => rw [hL] at q3; simp [byteL] at q3
        | cons b rest =>
          rw [hL] at q4 q5
          simp only [byteL] at q4 q5
          have hR : res = (b.toNat, 1, 0) := by
            rw [← HR.out, hL]; unfold codeL0; simp only; rw [if_neg (by omega)]
          rw [hR]
          exact .inl ⟨rfl, q2, rfl, q4, q5⟩
      · refine .inr ⟨q1, ?_⟩
        rcases q2 with ⟨q2, _⟩ | ⟨_, q2, q3⟩ | ⟨_, q2, q3, q4⟩
        · exact absurd rfl q2
        · cases hL : l with
          | nil =>
            rw [hL] at q3
            have hR : res = (0, 0, 3) := by rw [← HR.out, hL]; rfl
            rw [hR]
            exact .inr (.inl ⟨rfl, by simp, q3⟩)
          | cons b rest => rw [hL] at q2; simp [byteL] at q2
        · exact .inr (.inr ⟨rfl, q2, q3, q4⟩)
  case rest =>
    clear k1 k2 k3 k4 k5 k6 k7 k8 k9 hv
    obtain ⟨v, r', at', e', rfl, k⟩ := hcut
    have hvb := k.out.vb
    obtain ⟨q, hq⟩ : ∃ q, (opRow (v : Int)).isSome = q := ⟨_, rfl⟩
    have HF : Hid (∀ W, Calls Tryz.prog 31 #[.int .i64 (v : Int)] W fun e W' => ∃ u0 u1 u2 A3 n3 c3 A4 n4 c4, e = .returned (.tuple #[.agg #[.int .i64 u0, .string u1, .int .i64 u2, .slice A3 n3 c3, .slice A4 n4 c4], .bool q]) ∧ Hid (Below W.heap.size W W')) := by
      show ∀ W, _
      intro W
      cases ho : opRow (v : Int) with
      | none =>
        rw [ho] at hq
        subst hq
        exact (find_none (v : Int) W (by omega) (by omega) ho).mono fun e W' ⟨he, hb⟩ => ⟨_, _, _, _, _, _, _, _, _, he, hb⟩
      | some row =>
        rw [ho] at hq
        subst hq
        exact (find_some (v : Int) row W (by omega) (by omega) ho).mono fun e W' ⟨A1, c1, A2, c2, he, _, _, hb⟩ => ⟨_, _, _, _, _, _, _, _, _, he, hb⟩
    have HFO := hide (fun W => foreign_any (v : Int) W (by omega) (by omega))
    have HQ := hide hq; clear hq
    have hrbw := blk_lt k.out.rs.blk
    go_wp2_with fail
    refine (HF.out _).mono ?_; rintro e w2 ⟨u0, u1, u2, A3, n3, c3, A4, n4, c4, rfl, hb2⟩
    obtain ⟨W2, hW2⟩ : ∃ W2, w2.alloc (.cells #[.int .i64 u0, .string u1, .int .i64 u2, .slice A3 n3 c3, .slice A4 n4 c4] 63) = W2 := ⟨_, rfl⟩
    have hB2 : Hid (Below wc.heap.size wc W2) := by rw [← hW2]; exact hb2.out.alloc hb2.out.size _
    have HW2 := hide hW2; clear hW2 hb2
    go_wp2_with fail
    rw [HW2.out]
    refine (HFO.out _).mono ?_; rintro e w3 ⟨rfl, hb3⟩
    have hB3 : Hid (Below wc.heap.size wc w3) := hB2.out.trans (hb3.out.mono hB2.out.size)
    have hRS3 := hide (k.out.rs.below hB3.out hrbw)
    have HF1 := hide (fail_step rb g f c A bs r' fl fr tu at' e' 6 (foreignL (v : Int)) w3 hRS3)
    go_wp2_with fail
    refine HF1.out.mono ?_; rintro e w4 ⟨rfl, m1, m2⟩
    have HF2 := hide (fail_step rb g f c A bs r' fl fr tu at' (failE e' (foreignL (v : Int)) 6) 4 (!q) w4 m1)
    go_wp2_with fail
    refine HF2.out.mono ?_; rintro e w5 ⟨rfl, m3, m4⟩
    go_wp2_with fail
    go_ret
    have hfe := code_fails v e'
    rw [HQ.out] at hfe
    rw [hfe] at m3
    have ho : Only [f, g, rb] w w5 := ((k.out.only.then_new hB3.out).trans (m2.out.more (by simp))).trans (m4.out.more (by simp))
    refine ⟨v, r', at', _, rfl, m3, ho, k.out.r1, k.out.r2, k.out.a1, k.out.a2, k.out.vb, ?_⟩
    show Out _ _ _ _ _ _
    rcases k.out.out with ⟨_, q2, q3, q4, q5⟩ | ⟨q1, q2⟩
    · rw [if_pos q2, q3, ← q4]
      by_cases hz : codeE v 0 = 0
      · exact .inl ⟨rfl, by omega, hz, rfl, q5⟩
      · exact .inr ⟨by omega, .inr (.inl ⟨rfl, hz, rfl⟩)⟩
    · rw [if_neg q1]
      refine .inr ⟨q1, ?_⟩
      rcases q2 with ⟨q2, _⟩ | ⟨_, q2, q3⟩ | ⟨_, q2, q3, q4⟩
      · exact absurd rfl q2
      · have : codeE res.1 res.2.2 = res.2.2 := by unfold codeE; rw [if_pos q2]
        exact .inr (.inl ⟨rfl, by omega, by omega⟩)
      · exact .inr (.inr ⟨rfl, q2, q3, q4⟩)
end Go.Proofs.YtpanlhbdphobdaaGreatDoor

namespace Go.Proofs.YtpanlhbdphobdaaGreatDoor
open Go.RowKit
set_option linter.unusedVariables false

theorem nat_elem : IsElem Tryz.prog 23 22 1 8 := IsElem.mk' Tryz.underlying23 (z := .int .u64 0) (by kernel_rfl) rfl (by omega)
def U (n : Nat) : Value := .int .u64 (n : Int)

/-- the labels, as they are read: the error, how many bytes, they -/
def labsR (l : List UInt8) : Nat × Nat × List Nat :=
  if (unsignedL l 32).2.2 ≠ 0 then ((unsignedL l 32).2.2, 0, []) else if 100 < (unsignedL l 32).1 then (15, 0, []) else
  if (labelsL (unsignedL l 32).1 (l.drop (unsignedL l 32).2.1)).1 ≠ 0 then ((labelsL (unsignedL l 32).1 (l.drop (unsignedL l 32).2.1)).1, 0, [])
  else (0, (unsignedL l 32).2.1 + (labelsL (unsignedL l 32).1 (l.drop (unsignedL l 32).2.1)).2.1, (labelsL (unsignedL l 32).1 (l.drop (unsignedL l 32).2.1)).2.2)

/-- labels ahead of others -/
def appL (xs : List Nat) (K : Nat) (p : Nat × Nat × List Nat) : Nat × Nat × List Nat := if p.1 ≠ 0 then (p.1, 0, []) else (0, K + p.2.1, xs ++ p.2.2)
theorem appL_step {n : Nat} {l : List UInt8} {xs : List Nat} {K : Nat} (h : (unsignedL l 32).2.2 = 0) : appL xs K (labelsL (n + 1) l) = appL (xs ++ [(unsignedL l 32).1]) (K + (unsignedL l 32).2.1) (labelsL n (l.drop (unsignedL l 32).2.1)) := by
  have e : labelsL (n + 1) l = if (labelsL n (l.drop (unsignedL l 32).2.1)).1 ≠ 0 then ((labelsL n (l.drop (unsignedL l 32).2.1)).1, 0, [])
    else (0, (unsignedL l 32).2.1 + (labelsL n (l.drop (unsignedL l 32).2.1)).2.1, (unsignedL l 32).1 :: (labelsL n (l.drop (unsignedL l 32).2.1)).2.2) := by
    rw [labelsL]; rw [if_neg (fun x => x h)]
  rw [e]
  unfold appL
  by_cases h2 : (labelsL n (l.drop (unsignedL l 32).2.1)).1 = 0
  · simp [h2, Nat.add_assoc]
  · simp [h2]
theorem appL_bad {n : Nat} {l : List UInt8} {xs : List Nat} {K : Nat} (h : (unsignedL l 32).2.2 ≠ 0) : (appL xs K (labelsL (n + 1) l)).1 = (unsignedL l 32).2.2 := by
  have e : labelsL (n + 1) l = ((unsignedL l 32).2.2, 0, []) := by rw [labelsL]; rw [if_pos h]
  rw [e]
  unfold appL
  simp [h]
theorem appL_zero (xs : List Nat) (K : Nat) (l : List UInt8) : appL xs K (labelsL 0 l) = (0, K, xs) := by simp [appL, labelsL]
theorem labsR_start {l : List UInt8} (h : (unsignedL l 32).2.2 = 0) (h2 : (unsignedL l 32).1 ≤ 100) : labsR l = appL [] (unsignedL l 32).2.1 (labelsL (unsignedL l 32).1 (l.drop (unsignedL l 32).2.1)) := by
  unfold labsR appL
  rw [if_neg (fun x => x h), if_neg (by omega)]
  simp

/-- how far the labels have been read: k of v -/
structure LabSt (w : World) (rb g f c base : Nat) (A : Option Addr) (bs : List UInt8) (r fl fr tu at_ : Int) (l : List UInt8) (v : Nat) (val : Value) (k : Nat) (w' : World) : Prop where
  out : ∃ (xs : List Nat) (K : Nat) (r' at' e' : Int), Hid (RS w' rb g f c A bs r' fl fr tu at' e') ∧ Hid (Only [f, g, rb] w w') ∧ base ≤ w'.heap.size ∧ r ≤ r' ∧ r' ≤ r + 11 + 11 * (k : Int) ∧ at_ ≤ at' ∧ at' ≤ tu ∧
    Hid (w'.ownsRow base 22 1 val xs.length (xs.map U)) ∧ xs.length = k ∧ (100 < v → e' ≠ 0 ∧ k = 0) ∧
    Hid ((e' = 0 ∧ at' = at_ + K ∧ K ≤ l.length ∧ labsR l = appL xs K (labelsL (v - k) (l.drop K))) ∨ (e' ≠ 0 ∧ ((labsR l).1 ≠ 0 ∧ e' = (labsR l).1 ∨ e' = 9 ∧ 0 ≤ fl ∧ fl < r')))

/-- what labels leaves -/
structure LabStep (w : World) (rb g f c : Nat) (A : Option Addr) (bs : List UInt8) (r fl fr tu at_ : Int) (res : Nat × Nat × List Nat) (en : Ending) (w' : World) : Prop where
  out : ∃ (Al : Option Addr) (cl : Nat) (xs : List Nat) (r' at' e' : Int), en = .returned (.slice Al xs.length cl) ∧ Hid (w'.ownsRow w.heap.size 22 1 (.slice Al xs.length cl) xs.length (xs.map U)) ∧ Hid (RS w' rb g f c A bs r' fl fr tu at' e') ∧ Hid (Only [f, g, rb] w w') ∧ r ≤ r' ∧ r' ≤ r + 1200 ∧ at_ ≤ at' ∧ at' ≤ tu ∧
    xs.length ≤ 100 ∧ Hid (Out fl 0 res.1 r' e' (at' = at_ + res.2.1 ∧ xs = res.2.2))

set_option maxHeartbeats 3200000 in
theorem labels_step (rb g f c : Nat) (A : Option Addr) (bs : List UInt8) (r fl fr tu at_ : Int) (w : World) (h : Hid (RS w rb g f c A bs r fl fr tu at_ 0))
    (hr1 : 0 ≤ r) (hr2 : r ≤ 890000) (hl : bs.length ≤ 1000) (h1 : 0 ≤ at_) (h2 : at_ ≤ tu) (h4 : tu ≤ (bs.length : Int)) :
    Calls Tryz.prog 85 #[.pointer (some ⟨rb, 0, none⟩)] w (LabStep w rb g f c A bs r fl fr tu at_ (labsR (partB bs at_ (tu - at_)))) := by
  have HN := hide (number_step rb g f c A bs r fl fr tu at_ 0 32 w h hr1 (by omega) hl h1 h2 h4)
  have hul := unsignedL_lt (partB bs at_ (tu - at_)) 32
  have hpl := part_len bs at_ (tu - at_) h1 (by omega) (by omega)
  have hcs := unsigned_cases (partB bs at_ (tu - at_)) 32
  obtain ⟨l, hll⟩ : ∃ l, partB bs at_ (tu - at_) = l := ⟨_, rfl⟩
  rw [hll] at HN hul hpl hcs ⊢
  have HL := hide hll; clear hll
  obtain ⟨base, hbase⟩ : ∃ b, w.heap.size = b := ⟨_, rfl⟩
  have HB := hide hbase; clear hbase
  go_enter Tryz.func85, Tryz.ntmps85
  go_wp2_with fail
  refine HN.out.mono ?_; rintro en w1 ⟨v, r1, at1, e1, rfl, k1, k2, k3, k4, k5, k6, k7, k8, k9⟩
  have hv := step_bd k9.out k7.out hul
  obtain ⟨big, hbig⟩ : ∃ b, decide (100 < v) = b := ⟨_, rfl⟩
  have hbig' : decide ((100 : Int) < (v : Int)) = big := by rw [← hbig]; simp <;> omega
  have HF := hide (fail_step rb g f c A bs r1 fl fr tu at1 e1 15 big w1 k1)
  have hsz1 := k2.out.size
  rw [HB.out] at hsz1
  have hst0 : ∀ w2, RS w2 rb g f c A bs r1 fl fr tu at1 (failE e1 big 15) → Only [rb] w1 w2 → LabSt w rb g f c base A bs r fl fr tu at_ l v (.slice none 0 0) 0 w2 := fun w2 m1 m2 => by
    have hs2 := m2.size
    have hko := k2.out.trans (m2.more (by simp))
    have hk9 := k9.out
    by_cases he : e1 = 0
    · subst he
      have hpure : (unsignedL l 32).2.2 = 0 ∧ v = (unsignedL l 32).1 ∧ at1 = at_ + (unsignedL l 32).2.1 := by
        rcases hk9 with ⟨_, _, a, b, d⟩ | ⟨a, _⟩
        · exact ⟨a, b, d⟩
        · exact absurd rfl a
      obtain ⟨p1, p2, p3⟩ := hpure
      by_cases h100 : 100 < v
      · have hb : big = true := by rw [← hbig]; simpa using h100
        subst hb
        have hf15 : failE 0 true 15 = 15 := rfl
        rw [hf15] at m1
        have hE : (labsR l).1 = 15 := by unfold labsR; rw [if_neg (fun x => x p1), if_pos (by omega)]
        exact ⟨[], 0, r1, at1, 15, m1, hko, by omega, by omega, by omega, k5, k6, own_nil _ _ _ _, rfl, fun _ => ⟨by omega, rfl⟩, .inr ⟨by omega, .inl ⟨by omega, by omega⟩⟩⟩
      · have hb : big = false := by rw [← hbig]; simpa using h100
        subst hb
        have hf0 : failE 0 false 15 = 0 := rfl
        rw [hf0] at m1
        refine ⟨[], (unsignedL l 32).2.1, r1, at1, 0, m1, hko, by omega, by omega, by omega, k5, k6, own_nil _ _ _ _, rfl, fun h => absurd h h100, .inl ⟨rfl, p3, by omega, ?_⟩⟩
        rw [labsR_start p1 (by omega), ← p2]
        rfl
    · have hv0 := k7.out he
      subst hv0
      have hf : failE e1 big 15 = e1 := by unfold failE; rw [if_neg (fun x => he x.1)]
      rw [hf] at m1
      refine ⟨[], 0, r1, at1, e1, m1, hko, by omega, by omega, by omega, k5, k6, own_nil _ _ _ _, rfl, fun h => by omega, .inr ⟨he, ?_⟩⟩
      rcases hk9 with ⟨_, a, _⟩ | ⟨_, ⟨a, _⟩ | ⟨_, a, b⟩ | ⟨_, a, b, d⟩⟩
      · exact absurd a he
      · exact absurd rfl a
      · have hE : (labsR l).1 = (unsignedL l 32).2.2 := by unfold labsR; rw [if_pos a]
        exact .inl ⟨by omega, by omega⟩
      · exact .inr ⟨a, b, d⟩
  have HST := hide hst0; clear hst0
  have HBIG := hide hbig; clear hbig hcs
  go_wp2_with fail
  refine HF.out.mono ?_; rintro en w2 ⟨rfl, m1, m2⟩
  have HS0 := hide (HST.out w2 m1.out m2.out)
  clear hbig'
  go_wp2_with fail
  go_loopw [4, 12] (fun val i w3 => ∃ k : Nat, i = .int .u64 k ∧ k ≤ v ∧ Hid (LabSt w rb g f c base A bs r fl fr tu at_ l v val k w3)) (fun _ i _ => v - (intOf i).toNat)
  case atStart => exact ⟨0, rfl, by omega, HS0⟩
  case round =>
    clear HS0
    obtain ⟨k, rfl, hk, hs⟩ := hrel
    obtain ⟨xs, K, r', at', e', s1, s2, s3, s4, s5, s6, s7, s8, rfl, s10, s11⟩ := hs.out
    have d1 := cell_blk s1.out.blk 1
    simp at d1
    obtain ⟨Al, cl, hval, hcl1, hcl2⟩ := own_form s8.out
    subst hval
    have hr' : r' ≤ r + 1200 := by
      by_cases h100 : 100 < v
      · have := (s10 h100).2; omega
      · omega
    have hx100 : xs.length ≤ 100 := by
      by_cases h100 : 100 < v
      · have := (s10 h100).2; omega
      · omega
    have hown : Hid (wr.ownsRow w.heap.size 22 1 (.slice Al xs.length cl) xs.length (xs.map U)) := by rw [HB.out]; exact s8.out
    by_cases hlt : xs.length < v
    · by_cases he : e' = 0
      · subst he
        have hv100 : v ≤ 100 := by
          apply Decidable.byContradiction
          intro hn
          exact (s10 (by omega)).1 rfl
        obtain ⟨t1, t2, t3⟩ : at' = at_ + K ∧ K ≤ l.length ∧ labsR l = appL xs K (labelsL (v - xs.length) (l.drop K)) := by
          rcases s11.out with ⟨_, a, b, d⟩ | ⟨a, _⟩
          · exact ⟨a, b, d⟩
          · exact absurd rfl a
        have hp : partB bs at' (tu - at') = l.drop K := by
          rw [t1, partB_drop bs at_ tu K h1 (by omega), HL.out]
        have HN2 := hide (number_step rb g f c A bs r' fl fr tu at' 0 32 wr s1 (by omega) (by omega) hl (by omega) s7 h4)
        rw [hp] at HN2
        have hcs2 := unsigned_cases (l.drop K) 32
        have T3 := hide t3
        have hroom : Room xs.length 1 8 := room_of (by omega) (by omega)
        have hsub : v - xs.length = (v - (xs.length + 1)) + 1 := by omega
        have HSUB := hide hsub
        have HP := hide hp
        have T1 := hide t1
        have HCS2 := hide hcs2
        clear t1 t3 hp s11 s10 hsub hcs2
        go_wp2_with fail
        refine HN2.out.mono ?_; rintro en w3 ⟨v3, r3, at3, e3, rfl, n1, n2, n3, n4, n5, n6, n7, n8, n9⟩
        have hown3 := hide (own_only3 s8.out n2.out (fun q hq => by have := own_ge s8.out q hq; have := blk_lt h.out.blk; have := h.out.lt; have := h.out.cu.lt; rw [HB.out] at *; simp; omega))
        have hsz3 : base ≤ w3.heap.size := Nat.le_trans s3 n2.out.size
        go_wp2_with (at_builtin; refine wpList_push rfl _ _ rfl base nat_elem _ xs.length (xs.map U) rfl w3 (.int .u64 (v3 : Int)) 22 rfl hown3.out rfl rfl hroom hsz3 ?_; intro v' w4 ho4 hg4)
        have hb4 := hg4.below hsz3 (own_ge hown3.out)
        have hown4 : Hid (w4.ownsRow base 22 1 v' (xs ++ [v3]).length ((xs ++ [v3]).map U)) := own_cast ho4 (by simp) (by simp [U])
        have hlt3 : rb < base := by have := blk_lt h.out.blk; rw [HB.out] at this; exact this
        have hRS4 := hide (n1.out.below hb4 hlt3)
        have honly4 : Hid (Only [f, g, rb] w w4) := by
          have o3 := s2.out.trans n2.out
          exact ⟨hb4.os.trans o3.os, hb4.tape.trans o3.tape, hb4.output.trans o3.output, Nat.le_trans o3.size hb4.size, fun i hi hn => (hb4.block i (by rw [HB.out] at hi; exact hi)).trans (o3.block i hi hn)⟩
        have hnext : Hid ((e3 = 0 ∧ at3 = at_ + ((K + (unsignedL (l.drop K) 32).2.1 : Nat) : Int) ∧ K + (unsignedL (l.drop K) 32).2.1 ≤ l.length ∧ labsR l = appL (xs ++ [v3]) (K + (unsignedL (l.drop K) 32).2.1) (labelsL (v - (xs.length + 1)) (l.drop (K + (unsignedL (l.drop K) 32).2.1)))) ∨ (e3 ≠ 0 ∧ ((labsR l).1 ≠ 0 ∧ e3 = (labsR l).1 ∨ e3 = 9 ∧ 0 ≤ fl ∧ fl < r3))) := by
          show _ ∨ _
          rcases n9.out with ⟨_, a, b, d, d2⟩ | ⟨a, ⟨b, _⟩ | ⟨_, b, d⟩ | ⟨_, b, d, d2⟩⟩
          · refine .inl ⟨a, by have := T1.out; omega, ?_, ?_⟩
            · have := HCS2.out
              rw [List.length_drop] at this
              omega
            · rw [T3.out, HSUB.out, appL_step b, ← d, List.drop_drop]
          · exact absurd rfl b
          · refine .inr ⟨a, .inl ?_⟩
            rw [T3.out, HSUB.out, appL_bad b]
            exact ⟨b, d⟩
          · exact .inr ⟨a, .inr ⟨b, d, d2⟩⟩
        go_roundw
        case rel =>
          refine ⟨xs.length + 1, by go_num, by omega, ⟨xs ++ [v3], K + (unsignedL (l.drop K) 32).2.1, r3, at3, e3, hRS4, honly4, Nat.le_trans hsz3 hb4.size, by omega, by omega, by omega, n6, hown4, by simp, fun h100 => by omega, hnext⟩⟩
        case measure => simp [intOf] <;> omega
      · have f2 : (e' != 0) = true := by simpa using he
        have HE := hide he
        clear he
        go_wp2_with fail
        go_ret
        refine ⟨Al, cl, xs, r', at', e', rfl, hown, s1, s2, s4, hr', s6, s7, hx100, ?_⟩
        rcases s11.out with ⟨a, _⟩ | ⟨a, b⟩
        · exact absurd a HE.out
        · refine .inr ⟨a, .inr ?_⟩
          rcases b with ⟨b1, b2⟩ | b
          · exact .inl ⟨rfl, b1, b2⟩
          · exact .inr ⟨rfl, b⟩
    · have hkv : xs.length = v := by omega
      subst hkv
      clear hlt
      go_wp2_with fail
      go_ret
      refine ⟨Al, cl, xs, r', at', e', rfl, hown, s1, s2, s4, hr', s6, s7, hx100, ?_⟩
      rcases s11.out with ⟨a, b, d, d2⟩ | ⟨a, b⟩
      · rw [Nat.sub_self, appL_zero] at d2
        rw [d2]
        exact .inl ⟨rfl, a, rfl, by simp only; omega, rfl⟩
      · refine .inr ⟨a, .inr ?_⟩
        rcases b with ⟨b1, b2⟩ | b
        · exact .inl ⟨rfl, b1, b2⟩
        · exact .inr ⟨rfl, b⟩
end Go.Proofs.YtpanlhbdphobdaaGreatDoor
