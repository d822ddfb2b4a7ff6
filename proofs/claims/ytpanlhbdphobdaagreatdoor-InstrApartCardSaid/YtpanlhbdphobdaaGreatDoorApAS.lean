/-
  instr: labels: contract.
  The reference's numbers as bytes: each function's contract.
-/
import Derived.Test.YtpanlhbdphobdaaGreatDoorApAR
import Derived.Test.YtpanlhbdphobdaaGreatDoorApAN
namespace Go.Proofs.YtpanlhbdphobdaaGreatDoor
open Go.RowKit
set_option linter.unusedVariables false

theorem nat_elem : IsElem Tryz.prog 23 22 1 8 := IsElem.mk' Tryz.underlying23 (z := .int .u64 0) (by kernel_rfl) rfl (by omega)
def U (n : Nat) : Value := .int .u64 (n : Int)

/-- the labels, as they are read: the error, how many bytes, they -/
def labsR (l : List UInt8) : Nat × Nat × List Nat :=
  if (unsignedL l 32).2.2 ≠ 0 then ((unsignedL l 32).2.2, 0, []) else if 100 < (unsignedL l 32).1 then (15, 0, []) else
  if (labelsL (unsignedL l 32).1 (l.drop (unsignedL l 32).2.1)).1 ≠ 0 then ((labelsL (unsignedL l 32).1 (l.drop (unsignedL l 32).2.1)).1, 0, [])
  else (0, (unsignedL l 32).2.1 + (labelsL (unsignedL l 32).1 (l.drop (unsignedL l 32).2.1)).2.1, (labelsL (unsignedL l 32).1 (l.drop (unsignedL l 32).2.1)).2.2)

/-- labels ahead of others -/
def appL (xs : List Nat) (K : Nat) (p : Nat × Nat × List Nat) : Nat × Nat × List Nat := if p.1 ≠ 0 then (p.1, 0, []) else (0, K + p.2.1, xs ++ p.2.2)
theorem appL_step {n : Nat} {l : List UInt8} {xs : List Nat} {K : Nat} (h : (unsignedL l 32).2.2 = 0) : appL xs K (labelsL (n + 1) l) = appL (xs ++ [(unsignedL l 32).1]) (K + (unsignedL l 32).2.1) (labelsL n (l.drop (unsignedL l 32).2.1)) := by
  have e : labelsL (n + 1) l = if (labelsL n (l.drop (unsignedL l 32).2.1)).1 ≠ 0 then ((labelsL n (l.drop (unsignedL l 32).2.1)).1, 0, [])
    else (0, (unsignedL l 32).2.1 + (labelsL n (l.drop (unsignedL l 32).2.1)).2.1, (unsignedL l 32).1 :: (labelsL n (l.drop (unsignedL l 32).2.1)).2.2) := by
    rw [labelsL]; rw [if_neg (fun x => x h)]
  rw [e]
  unfold appL
  by_cases h2 : (labelsL n (l.drop (unsignedL l 32).2.1)).1 = 0
  · simp [h2, Nat.add_assoc]
  · simp [h2]
theorem appL_bad {n : Nat} {l : List UInt8} {xs : List Nat} {K : Nat} (h : (unsignedL l 32).2.2 ≠ 0) : (appL xs K (labelsL (n + 1) l)).1 = (unsignedL l 32).2.2 := by
  have e : labelsL (n + 1) l = ((unsignedL l 32).2.2, 0, []) := by rw [labelsL]; rw [if_pos h]
  rw [e]
  unfold appL
  simp [h]
theorem appL_zero (xs : List Nat) (K : Nat) (l : List UInt8) : appL xs K (labelsL 0 l) = (0, K, xs) := by simp [appL, labelsL]
theorem labsR_start {l : List UInt8} (h : (unsignedL l 32).2.2 = 0) (h2 : (unsignedL l 32).1 ≤ 100) : labsR l = appL [] (unsignedL l 32).2.1 (labelsL (unsignedL l 32).1 (l.drop (unsignedL l 32).2.1)) := by
  unfold labsR appL
  rw [if_neg (fun x => x h), if_neg (by omega)]
  simp

/-- how far the labels have been read: k of v -/
structure LabSt (w : World) (rb g f c base : Nat) (A : Option Addr) (bs : List UInt8) (r fl fr tu at_ : Int) (l : List UInt8) (v : Nat) (val : Value) (k : Nat) (w' : World) : Prop where
  out : ∃ (xs : List Nat) (K : Nat) (r' at' e' : Int), Hid (RS w' rb g f c A bs r' fl fr tu at' e') ∧ Hid (Only [f, g, rb] w w') ∧ base ≤ w'.heap.size ∧ r ≤ r' ∧ r' ≤ r + 11 + 11 * (k : Int) ∧ at_ ≤ at' ∧ at' ≤ tu ∧
    Hid (w'.ownsRow base 22 1 val xs.length (xs.map U)) ∧ xs.length = k ∧ (100 < v → e' ≠ 0 ∧ k = 0) ∧
    Hid ((e' = 0 ∧ at' = at_ + K ∧ K ≤ l.length ∧ labsR l = appL xs K (labelsL (v - k) (l.drop K))) ∨ (e' ≠ 0 ∧ ((labsR l).1 ≠ 0 ∧ e' = (labsR l).1 ∨ e' = 9 ∧ 0 ≤ fl ∧ fl < r')))

/-- what labels leaves -/
structure LabStep (w : World) (rb g f c : Nat) (A : Option Addr) (bs : List UInt8) (r fl fr tu at_ : Int) (res : Nat × Nat × List Nat) (en : Ending) (w' : World) : Prop where
  out : ∃ (Al : Option Addr) (cl : Nat) (xs : List Nat) (r' at' e' : Int), en = .returned (.slice Al xs.length cl) ∧ Hid (w'.ownsRow w.heap.size 22 1 (.slice Al xs.length cl) xs.length (xs.map U)) ∧ Hid (RS w' rb g f c A bs r' fl fr tu at' e') ∧ Hid (Only [f, g, rb] w w') ∧ r ≤ r' ∧ r' ≤ r + 1200 ∧ at_ ≤ at' ∧ at' ≤ tu ∧
    xs.length ≤ 100 ∧ Hid (Out fl 0 res.1 r' e' (at' = at_ + res.2.1 ∧ xs = res.2.2))

set_option maxHeartbeats 3200000 in
theorem labels_step (rb g f c : Nat) (A : Option Addr) (bs : List UInt8) (r fl fr tu at_ : Int) (w : World) (h : Hid (RS w rb g f c A bs r fl fr tu at_ 0))
    (hr1 : 0 ≤ r) (hr2 : r ≤ 890000) (hl : bs.length ≤ 1000) (h1 : 0 ≤ at_) (h2 : at_ ≤ tu) (h4 : tu ≤ (bs.length : Int)) :
    Calls Tryz.prog 85 #[.pointer (some ⟨rb, 0, none⟩)] w (LabStep w rb g f c A bs r fl fr tu at_ (labsR (partB bs at_ (tu - at_)))) := by
  have HN := hide (number_step rb g f c A bs r fl fr tu at_ 0 32 w h hr1 (by omega) hl h1 h2 h4)
  have hul := unsignedL_lt (partB bs at_ (tu - at_)) 32
  have hpl := part_len bs at_ (tu - at_) h1 (by omega) (by omega)
  have hcs := unsigned_cases (partB bs at_ (tu - at_)) 32
  obtain ⟨l, hll⟩ : ∃ l, partB bs at_ (tu - at_) = l := ⟨_, rfl⟩
  rw [hll] at HN hul hpl hcs ⊢
  have HL := hide hll; clear hll
  obtain ⟨base, hbase⟩ : ∃ b, w.heap.size = b := ⟨_, rfl⟩
  have HB := hide hbase; clear hbase
  go_enter Tryz.func85, Tryz.ntmps85
  go_wp2_with fail
  refine HN.out.mono ?_; rintro en w1 ⟨v, r1, at1, e1, rfl, k1, k2, k3, k4, k5, k6, k7, k8, k9⟩
  have hv := step_bd k9.out k7.out hul
  obtain ⟨big, hbig⟩ : ∃ b, decide (100 < v) = b := ⟨_, rfl⟩
  have hbig' : decide ((100 : Int) < (v : Int)) = big := by rw [← hbig]; simp <;> omega
  have HF := hide (fail_step rb g f c A bs r1 fl fr tu at1 e1 15 big w1 k1)
  have hsz1 := k2.out.size
  rw [HB.out] at hsz1
  have hst0 : ∀ w2, RS w2 rb g f c A bs r1 fl fr tu at1 (failE e1 big 15) → Only [rb] w1 w2 → LabSt w rb g f c base A bs r fl fr tu at_ l v (.slice none 0 0) 0 w2 := fun w2 m1 m2 => by
    have hs2 := m2.size
    have hko := k2.out.trans (m2.more (by simp))
    have hk9 := k9.out
    by_cases he : e1 = 0
    · subst he
      have hpure : (unsignedL l 32).2.2 = 0 ∧ v = (unsignedL l 32).1 ∧ at1 = at_ + (unsignedL l 32).2.1 := by
        rcases hk9 with ⟨_, _, a, b, d⟩ | ⟨a, _⟩
        · exact ⟨a, b, d⟩
        · exact absurd rfl a
      obtain ⟨p1, p2, p3⟩ := hpure
      by_cases h100 : 100 < v
      · have hb : big = true := by rw [← hbig]; simpa using h100
        subst hb
        have hf15 : failE 0 true 15 = 15 := rfl
        rw [hf15] at m1
        have hE : (labsR l).1 = 15 := by unfold labsR; rw [if_neg (fun x => x p1), if_pos (by omega)]
        exact ⟨[], 0, r1, at1, 15, m1, hko, by omega, by omega, by omega, k5, k6, own_nil _ _ _ _, rfl, fun _ => ⟨by omega, rfl⟩, .inr ⟨by omega, .inl ⟨by omega, by omega⟩⟩⟩
      · have hb : big = false := by rw [← hbig]; simpa using h100
        subst hb
        have hf0 : failE 0 false 15 = 0 := rfl
        rw [hf0] at m1
        refine ⟨[], (unsignedL l 32).2.1, r1, at1, 0, m1, hko, by omega, by omega, by omega, k5, k6, own_nil _ _ _ _, rfl, fun h => absurd h h100, .inl ⟨rfl, p3, by omega, ?_⟩⟩
        rw [labsR_start p1 (by omega), ← p2]
        rfl
    · have hv0 := k7.out he
      subst hv0
      have hf : failE e1 big 15 = e1 := by unfold failE; rw [if_neg (fun x => he x.1)]
      rw [hf] at m1
      refine ⟨[], 0, r1, at1, e1, m1, hko, by omega, by omega, by omega, k5, k6, own_nil _ _ _ _, rfl, fun h => by omega, .inr ⟨he, ?_⟩⟩
      rcases hk9 with ⟨_, a, _⟩ | ⟨_, ⟨a, _⟩ | ⟨_, a, b⟩ | ⟨_, a, b, d⟩⟩
      · exact absurd a he
      · exact absurd rfl a
      · have hE : (labsR l).1 = (unsignedL l 32).2.2 := by unfold labsR; rw [if_pos a]
        exact .inl ⟨by omega, by omega⟩
      · exact .inr ⟨a, b, d⟩
  have HST := hide hst0; clear hst0
  have HBIG := hide hbig; clear hbig hcs
  go_wp2_with fail
  refine HF.out.mono ?_; rintro en w2 ⟨rfl, m1, m2⟩
  have HS0 := hide (HST.out w2 m1.out m2.out)
  clear hbig'
  go_wp2_with fail
  go_loopw [4, 12] (fun val i w3 => ∃ k : Nat, i = .int .u64 k ∧ k ≤ v ∧ Hid (LabSt w rb g f c base A bs r fl fr tu at_ l v val k w3)) (fun _ i _ => v - (intOf i).toNat)
  case atStart => exact ⟨0, rfl, by omega, HS0⟩
  case round =>
    clear HS0
    obtain ⟨k, rfl, hk, hs⟩ := hrel
    obtain ⟨xs, K, r', at', e', s1, s2, s3, s4, s5, s6, s7, s8, rfl, s10, s11⟩ := hs.out
    have d1 := cell_blk s1.out.blk 1
    simp at d1
    obtain ⟨Al, cl, hval, hcl1, hcl2⟩ := own_form s8.out
    subst hval
    have hr' : r' ≤ r + 1200 := by
      by_cases h100 : 100 < v
      · have := (s10 h100).2; omega
      · omega
    have hx100 : xs.length ≤ 100 := by
      by_cases h100 : 100 < v
      · have := (s10 h100).2; omega
      · omega
    have hown : Hid (wr.ownsRow w.heap.size 22 1 (.slice Al xs.length cl) xs.length (xs.map U)) := by rw [HB.out]; exact s8.out
    by_cases hlt : xs.length < v
    · by_cases he : e' = 0
      · subst he
        have hv100 : v ≤ 100 := by
          apply Decidable.byContradiction
          intro hn
          exact (s10 (by omega)).1 rfl
        obtain ⟨t1, t2, t3⟩ : at' = at_ + K ∧ K ≤ l.length ∧ labsR l = appL xs K (labelsL (v - xs.length) (l.drop K)) := by
          rcases s11.out with ⟨_, a, b, d⟩ | ⟨a, _⟩
          · exact ⟨a, b, d⟩
          · exact absurd rfl a
        have hp : partB bs at' (tu - at') = l.drop K := by
          rw [t1, partB_drop bs at_ tu K h1 (by omega), HL.out]
        have HN2 := hide (number_step rb g f c A bs r' fl fr tu at' 0 32 wr s1 (by omega) (by omega) hl (by omega) s7 h4)
        rw [hp] at HN2
        have hcs2 := unsigned_cases (l.drop K) 32
        have T3 := hide t3
        have hroom : Room xs.length 1 8 := room_of (by omega) (by omega)
        have hsub : v - xs.length = (v - (xs.length + 1)) + 1 := by omega
        have HSUB := hide hsub
        have HP := hide hp
        have T1 := hide t1
        have HCS2 := hide hcs2
        clear t1 t3 hp s11 s10 hsub hcs2
        go_wp2_with fail
        refine HN2.out.mono ?_; rintro en w3 ⟨v3, r3, at3, e3, rfl, n1, n2, n3, n4, n5, n6, n7, n8, n9⟩
        have hown3 := hide (own_only3 s8.out n2.out (fun q hq => by have := own_ge s8.out q hq; have := blk_lt h.out.blk; have := h.out.lt; have := h.out.cu.lt; rw [HB.out] at *; simp; omega))
        have hsz3 : base ≤ w3.heap.size := Nat.le_trans s3 n2.out.size
        go_wp2_with (at_builtin; refine wpList_push rfl _ _ rfl base nat_elem _ xs.length (xs.map U) rfl w3 (.int .u64 (v3 : Int)) 22 rfl hown3.out rfl rfl hroom hsz3 ?_; intro v' w4 ho4 hg4)
        have hb4 := hg4.below hsz3 (own_ge hown3.out)
        have hown4 : Hid (w4.ownsRow base 22 1 v' (xs ++ [v3]).length ((xs ++ [v3]).map U)) := own_cast ho4 (by simp) (by simp [U])
        have hlt3 : rb < base := by have := blk_lt h.out.blk; rw [HB.out] at this; exact this
        have hRS4 := hide (n1.out.below hb4 hlt3)
        have honly4 : Hid (Only [f, g, rb] w w4) := by
          have o3 := s2.out.trans n2.out
          exact ⟨hb4.os.trans o3.os, hb4.tape.trans o3.tape, hb4.output.trans o3.output, Nat.le_trans o3.size hb4.size, fun i hi hn => (hb4.block i (by rw [HB.out] at hi; exact hi)).trans (o3.block i hi hn)⟩
        have hnext : Hid ((e3 = 0 ∧ at3 = at_ + ((K + (unsignedL (l.drop K) 32).2.1 : Nat) : Int) ∧ K + (unsignedL (l.drop K) 32).2.1 ≤ l.length ∧ labsR l = appL (xs ++ [v3]) (K + (unsignedL (l.drop K) 32).2.1) (labelsL (v - (xs.length + 1)) (l.drop (K + (unsignedL (l.drop K) 32).2.1)))) ∨ (e3 ≠ 0 ∧ ((labsR l).1 ≠ 0 ∧ e3 = (labsR l).1 ∨ e3 = 9 ∧ 0 ≤ fl ∧ fl < r3))) := by
          show _ ∨ _
          rcases n9.out with ⟨_, a, b, d, d2⟩ | ⟨a, ⟨b, _⟩ | ⟨_, b, d⟩ | ⟨_, b, d, d2⟩⟩
          · refine .inl ⟨a, by have := T1.out; omega, ?_, ?_⟩
            · have := HCS2.out
              rw [List.length_drop] at this
              omega
            · rw [T3.out, HSUB.out, appL_step b, ← d, List.drop_drop]
          · exact absurd rfl b
          · refine .inr ⟨a, .inl ?_⟩
            rw [T3.out, HSUB.out, appL_bad b]
            exact ⟨b, d⟩
          · exact .inr ⟨a, .inr ⟨b, d, d2⟩⟩
        go_roundw
        case rel =>
          refine ⟨xs.length + 1, by go_num, by omega, ⟨xs ++ [v3], K + (unsignedL (l.drop K) 32).2.1, r3, at3, e3, hRS4, honly4, Nat.le_trans hsz3 hb4.size, by omega, by omega, by omega, n6, hown4, by simp, fun h100 => by omega, hnext⟩⟩
        case measure => simp [intOf] <;> omega
      · have f2 : (e' != 0) = true := by simpa using he
        have HE := hide he
        clear he
        go_wp2_with fail
        go_ret
        refine ⟨Al, cl, xs, r', at', e', rfl, hown, s1, s2, s4, hr', s6, s7, hx100, ?_⟩
        rcases s11.out with ⟨a, _⟩ | ⟨a, b⟩
        · exact absurd a HE.out
        · refine .inr ⟨a, .inr ?_⟩
          rcases b with ⟨b1, b2⟩ | b
          · exact .inl ⟨rfl, b1, b2⟩
          · exact .inr ⟨rfl, b⟩
    · have hkv : xs.length = v := by omega
      subst hkv
      clear hlt
      go_wp2_with fail
      go_ret
      refine ⟨Al, cl, xs, r', at', e', rfl, hown, s1, s2, s4, hr', s6, s7, hx100, ?_⟩
      rcases s11.out with ⟨a, b, d, d2⟩ | ⟨a, b⟩
      · rw [Nat.sub_self, appL_zero] at d2
        rw [d2]
        exact .inl ⟨rfl, a, rfl, by simp only; omega, rfl⟩
      · refine .inr ⟨a, .inr ?_⟩
        rcases b with ⟨b1, b2⟩ | b
        · exact .inl ⟨rfl, b1, b2⟩
        · exact .inr ⟨rfl, b⟩
end Go.Proofs.YtpanlhbdphobdaaGreatDoor

namespace Go.Proofs.YtpanlhbdphobdaaGreatDoor
open Go.RowKit
set_option linter.unusedVariables false

/-- a truth as the machine's value -/
def T (b : Bool) : Value := .bool b
theorem bool_elem : IsElem Tryz.prog 134 4 1 1 := IsElem.mk' Tryz.underlying134 (z := .bool false) (by kernel_rfl) rfl (by omega)
def OwnT (w : World) (base : Nat) (v : Value) (bs : List Bool) : Prop := w.ownsRow base 4 1 v bs.length (bs.map T)
theorem OwnT.push {w : World} {base : Nat} {v : Value} {bs : List Bool} {b : Bool} (h : w.ownsRow base 4 1 v (bs.length + 1) (bs.map T ++ [T b])) : OwnT w base v (bs ++ [b]) :=
  own_cast h (by simp) (by simp)
theorem OwnT.cast {w : World} {base : Nat} {v : Value} {bs bs' : List Bool} (h : OwnT w base v bs) (e : bs = bs') : OwnT w base v bs' := e ▸ h

def bitN (c k : Nat) : Bool := c / 2 ^ k % 2 == 1
/-- the lowest k bits -/
def bitsK (c : Nat) (k : Nat) : List Bool := (List.range k).map (bitN c)
def readGo (n : Int) : List UInt8 → Nat → List Bool → List Bool × Nat × Nat
  | [], _, _ => ([], 0, 3)
  | c :: r, i, acc =>
    if n ≤ 7 * ((i : Int) + 1) ∧ 128 ≤ c.toNat then ([], 0, 4)
    else if c.toNat < 128 then (acc ++ bitsK c.toNat 7, i + 1, 0)
    else readGo n r (i + 1) (acc ++ bitsK c.toNat 7)
def readL (bs : List UInt8) (n : Int) : List Bool × Nat × Nat :=
  if n < 1 ∨ 64 < n then ([], 0, 1) else readGo n bs 0 []

theorem bitsK_succ (c k : Nat) : bitsK c (k + 1) = bitsK c k ++ [bitN c k] := by
  unfold bitsK; rw [List.range_succ, List.map_append]; rfl

theorem readGo_bad {n : Int} {k : Nat} {acc : List Bool} {bs : List UInt8} {c : UInt8} (hc : bs[k]? = some c) (h1 : n ≤ 7 * ((k : Int) + 1)) (h2 : (128 : Int) ≤ (c.toNat : Int)) : readGo n (bs.drop k) k acc = ([], 0, 4) := by
  obtain ⟨hk, hv⟩ := List.getElem?_eq_some_iff.1 hc
  rw [List.drop_eq_getElem_cons hk, hv, readGo, if_pos ⟨h1, by omega⟩]
theorem readGo_end {n : Int} {k : Nat} {acc : List Bool} {bs : List UInt8} {c : UInt8} (hc : bs[k]? = some c) (h2 : (c.toNat : Int) < 128) : readGo n (bs.drop k) k acc = (acc ++ bitsK c.toNat 7, k + 1, 0) := by
  obtain ⟨hk, hv⟩ := List.getElem?_eq_some_iff.1 hc
  rw [List.drop_eq_getElem_cons hk, hv, readGo, if_neg (by omega), if_pos (by omega)]
theorem readGo_on {n : Int} {k : Nat} {acc : List Bool} {bs : List UInt8} {c : UInt8} (hc : bs[k]? = some c) (h1 : 7 * ((k : Int) + 1) < n) (h2 : (128 : Int) ≤ (c.toNat : Int)) : readGo n (bs.drop k) k acc = readGo n (bs.drop (k + 1)) (k + 1) (acc ++ bitsK c.toNat 7) := by
  obtain ⟨hk, hv⟩ := List.getElem?_eq_some_iff.1 hc
  rw [List.drop_eq_getElem_cons hk, hv, readGo, if_neg (by omega), if_neg (by omega)]
theorem readGo_nil {n : Int} {k : Nat} {acc : List Bool} {bs : List UInt8} (h : bs.length ≤ k) : readGo n (bs.drop k) k acc = ([], 0, 3) := by
  rw [List.drop_eq_nil_of_le h, readGo]

theorem bit_form (c q : Nat) : Value.bool ((((c : Int) / 2 ^ q).tmod 2) == 1) = T (bitN c q) := by
  unfold T bitN
  have h : (c : Int) / 2 ^ q = ((c / 2 ^ q : Nat) : Int) := by rw [Int.natCast_ediv, Int.natCast_pow]; rfl
  rw [h, Int.tmod_eq_emod_of_nonneg (Int.natCast_nonneg _)]
  generalize c / 2 ^ q = d
  congr 1
  rw [Bool.eq_iff_iff]
  simp
  omega

def ReadPost (w : World) (r : List Bool × Nat × Nat) (e : Ending) (w' : World) : Prop :=
  ∃ v, e = .returned (.tuple #[v, .int .i64 r.2.1, .int .i64 r.2.2]) ∧ OwnT w' w.heap.size v r.1 ∧ Below w.heap.size w w'

theorem ReadPost.of {w w' : World} {r : List Bool × Nat × Nat} {l : List Bool} {s e : Nat} {v : Value} (hr : r = (l, s, e)) (ho : OwnT w' w.heap.size v l) (hb : Below w.heap.size w w') :
    ReadPost w r (.returned (.tuple #[v, .int .i64 s, .int .i64 e])) w' := by subst hr; exact ⟨v, rfl, ho, hb⟩

set_option maxHeartbeats 1000000 in
set_option maxRecDepth 100000 in
theorem refRead_in (A : Option Addr) (cap : Nat) (bs : List UInt8) (n : Int) (w : World) (h0 : 1 ≤ n) (h1 : n ≤ 64) (hr : Hid (Reads w w.heap.size 1 A bs.length (bs.map B))) (hl : bs.length ≤ 400) :
    Calls Tryz.prog 91 #[.slice A bs.length cap, .int .i64 n] w (ReadPost w (readL bs n)) := by
  have hR : readL bs n = readGo n bs 0 [] := by unfold readL; rw [if_neg (by omega)]
  rw [hR]
  clear hR
  obtain ⟨base, hbase⟩ : ∃ b, w.heap.size = b := ⟨_, rfl⟩
  have HB := hide hbase; clear hbase
  go_enter Tryz.func91, Tryz.ntmps91
  go_wp2_with fail
  go_loopw [7, 8] (fun v i wr => ∃ (k : Nat) (acc : List Bool), k ≤ bs.length ∧ i = .int .i64 k ∧ Hid (OwnT wr base v acc) ∧ Hid (acc.length = 7 * k) ∧ Hid (readGo n bs 0 [] = readGo n (bs.drop k) k acc) ∧ Hid (Below base w wr) ∧ base ≤ wr.heap.size) (fun _ i _ => bs.length - (intOf i).toNat)
  case atStart => exact ⟨0, [], Nat.zero_le _, rfl, own_nil _ _ _ _, rfl, rfl, Below.refl _ _, by rw [HB.out]; omega⟩
  case round =>
    obtain ⟨k, acc, hk, rfl, ho, ha, hg, hb, hbs⟩ := hrel
    by_cases hlt : k < bs.length
    · obtain ⟨wo, rfl⟩ : ∃ wo : World, wo = wr := ⟨_, rfl⟩
      go_wp2_with fail
      have hl0 : acc.length ≤ 2800 := by have := ha.out; omega
      go_loopw [7, 9] (fun v j wr => ∃ (q : Nat), q ≤ 7 ∧ j = .int .i64 q ∧ (∀ c, bs[k]? = some c → Hid (OwnT wr base v (acc ++ bitsK c.toNat q))) ∧ Hid (Below base w wr) ∧ base ≤ wr.heap.size) (fun _ j _ => 7 - (intOf j).toNat)
      case atStart => exact ⟨0, by omega, rfl, fun c _ => by show OwnT _ _ _ _; simpa [bitsK] using ho.out, hb, hbs⟩
      case round =>
        obtain ⟨q, hq, rfl, ho1, hb1, hbs1⟩ := hrel
        obtain ⟨ad, c, rfl, Hc, hc, c0, c1⟩ := (hr.out.below (by rw [HB.out]; exact hb1.out)).byte hlt
        have Ho1 := hide (ho1 c Hc.out).out
        clear ho1
        by_cases hq7 : q < 7
        · have hroom : Room (acc ++ bitsK c.toNat q).length 1 1 := room_of (by simp [bitsK]; omega) (by omega)
          go_wp2_with (at_builtin; refine wpList_push rfl _ _ rfl base bool_elem _ (acc ++ bitsK c.toNat q).length ((acc ++ bitsK c.toNat q).map T) rfl wr _ _ rfl Ho1.out rfl rfl hroom hbs1 ?_; intro v' w' ho' hg')
          go_roundw
          case rel =>
            rw [bit_form] at ho'
            refine ⟨q + 1, by omega, by go_num, fun c' hc' => ?_, hb1.out.grown hg'.by_ hbs1 (own_ge Ho1.out), Nat.le_trans hbs1 hg'.by_.size⟩
            have e : c' = c := by have := Hc.out; rw [this] at hc'; injection hc' with e; exact e.symm
            subst e
            exact (OwnT.push ho').cast (by rw [bitsK_succ, List.append_assoc])
          case measure => simp [intOf]; omega
        · have hq8 : q = 7 := by omega
          clear hq7
          subst hq8
          go_wp2_with fail
          · go_ret3
            exact ReadPost.of (hg.out.trans (readGo_bad Hc.out (by assumption) (by assumption))) (own_nil _ _ _ _) (by rw [HB.out]; exact hb1.out)
          · go_ret3
            exact ReadPost.of (hg.out.trans (readGo_end Hc.out (by assumption))) (by rw [HB.out]; exact Ho1.out) (by rw [HB.out]; exact hb1.out)
          · go_ret3
            exact ReadPost.of (hg.out.trans (readGo_end Hc.out (by assumption))) (by rw [HB.out]; exact Ho1.out) (by rw [HB.out]; exact hb1.out)
          · go_roundw
            case rel =>
              exact ⟨k + 1, _, by omega, by go_num, Ho1, by show _ = _; rw [List.length_append, ha.out]; simp [bitsK]; omega, hg.out.trans (readGo_on Hc.out (by omega) (by assumption)), hb1, hbs1⟩
            case measure => simp [intOf]; omega
    · go_wp2_with fail
      go_ret3
      exact ReadPost.of (hg.out.trans (readGo_nil (by omega))) (own_nil _ _ _ _) (by rw [HB.out]; exact hb.out)

set_option maxHeartbeats 400000 in
theorem refRead_arg (A : Option Addr) (l cap : Nat) (bs : List UInt8) (n : Int) (w : World) (h0 : n < 1 ∨ 64 < n) :
    Calls Tryz.prog 91 #[.slice A l cap, .int .i64 n] w (ReadPost w (readL bs n)) := by
  have hR : readL bs n = ([], 0, 1) := by unfold readL; rw [if_pos h0]
  rw [hR]
  clear hR
  rcases h0 with h0 | h0
  · go_enter Tryz.func91, Tryz.ntmps91
    go_wp2
    go_ret3
    exact ReadPost.of rfl (own_nil _ _ _ _) (Below.refl _ _)
  · by_cases h1 : n < 1
    · omega
    · go_enter Tryz.func91, Tryz.ntmps91
      go_wp2
      go_ret3
      exact ReadPost.of rfl (own_nil _ _ _ _) (Below.refl _ _)

theorem refRead_any (A : Option Addr) (cap : Nat) (bs : List UInt8) (n : Int) (w : World) (hr : Hid (Reads w w.heap.size 1 A bs.length (bs.map B))) (hl : bs.length ≤ 400) :
    Calls Tryz.prog 91 #[.slice A bs.length cap, .int .i64 n] w (ReadPost w (readL bs n)) := by
  by_cases h : n < 1 ∨ 64 < n
  · exact refRead_arg A bs.length cap bs n w h
  · exact refRead_in A cap bs n w (by omega) (by omega) hr hl
end Go.Proofs.YtpanlhbdphobdaaGreatDoor
