/-
  The reference's numbers with a sign: its contract.
  Numbers with a sign as bytes: the program's answer is the reference's, in plain Lean.
  Numbers' fewest bytes, read again; in plain Lean.
-/
import Derived.Test.YtpanlhbdphobdaaGreatDoorDeAR
import Derived.Deep.QuietTactic
import Derived.BigQuiet
namespace Go.Proofs.YtpanlhbdphobdaaGreatDoor
open Go.RowKit
set_option linter.unusedVariables false

theorem Reads.bool {w : World} {Bk : Nat} {A : Option Addr} {bs : List Bool} {k : Nat} (h : Reads w Bk 1 A bs.length (bs.map T)) (hk : k < bs.length) :
    ∃ (ad : Addr) (c : Bool), A = some ad ∧ Hid (bs[k]? = some c) ∧ w.cell? (ad.add k) = some (.bool c) := h.elem hk

/-- bits, the highest one counting for less than nothing -/
def sval : List Bool → Int
  | [] => 0
  | [b] => if b then -1 else 0
  | b :: r => (if b then 1 else 0) + 2 * sval r

theorem sval_cons (b : Bool) (r : List Bool) (hr : r ≠ []) : sval (b :: r) = (if b then 1 else 0) + 2 * sval r := by
  cases r with
  | nil => exact absurd rfl hr
  | cons c r => rfl

theorem sval_bd : ∀ (l : List Bool), l.length ≤ 64 → -(2 ^ 63) ≤ sval l ∧ sval l < 2 ^ 63 ∧ (l.length ≤ 63 → -(2 ^ 62) ≤ sval l ∧ sval l < 2 ^ 62) := by
  have h : ∀ (l : List Bool) (k : Nat), l.length ≤ k + 1 → -(2 ^ k) ≤ sval l ∧ sval l < 2 ^ k := by
    intro l
    induction l with
    | nil => intro k _; have := Int.pow_pos (n := 2) (m := k) (by omega); simp only [sval]; omega
    | cons b r ih =>
      intro k hk
      cases r with
      | nil => have := Int.pow_pos (n := 2) (m := k) (by omega); simp only [sval]; split <;> omega
      | cons c r =>
        obtain _ | k := k
        · simp at hk
        · have := ih k (by simp at hk ⊢; omega)
          rw [sval_cons _ _ (by simp), Int.pow_succ]
          split <;> omega
  intro l hl
  have h1 := h l 63 (by omega)
  exact ⟨h1.1, h1.2, fun h2 => h l 62 (by omega)⟩

def refSignedL (bs : List UInt8) (n : Int) : Int × Nat × Nat :=
  let r := readL bs n
  if r.2.2 ≠ 0 then (0, 0, r.2.2)
  else
    let h := min n.toNat r.1.length - 1
    if (r.1.drop h).all (fun b => b == r.1.getD h false) then (sval (r.1.take (h + 1)), r.2.1, 0) else (0, 0, 4)

def S3Post (w : World) (v : Int) (s : Nat) (e' : Nat) (e : Ending) (w' : World) : Prop := e = .returned (.tuple #[.int .i64 v, .int .i64 s, .int .i64 e']) ∧ Below w.heap.size w w'
theorem S3Post.of {w w' : World} {v : Int} {s e' : Nat} (hb : Below w.heap.size w w') {a b c : Value} (ha : a = .int .i64 v) (hb' : b = .int .i64 s) (hc : c = .int .i64 e') : S3Post w v s e' (.returned (.tuple #[a, b, c])) w' := by
  subst ha hb' hc; exact ⟨rfl, hb⟩

theorem all_drop {l : List Bool} {p : Bool → Bool} {k : Nat} {b : Bool} (h : l[k]? = some b) : (l.drop k).all p = (p b && (l.drop (k + 1)).all p) := by
  obtain ⟨hk, hv⟩ := List.getElem?_eq_some_iff.1 h
  rw [List.drop_eq_getElem_cons hk, hv, List.all_cons]

theorem read_ok_pos (bs : List UInt8) (n : Int) (h : (readL bs n).2.2 = 0) : 1 ≤ (readL bs n).2.1 ∧ 1 ≤ n ∧ n ≤ 64 := by
  unfold readL at h ⊢
  by_cases hn : n < 1 ∨ 64 < n
  · rw [if_pos hn] at h; cases h
  · rw [if_neg hn] at h ⊢
    refine ⟨?_, by omega, by omega⟩
    have g : ∀ (bs : List UInt8) (i : Nat) (acc : List Bool), (readGo n bs i acc).2.2 = 0 → 1 ≤ (readGo n bs i acc).2.1 := by
      intro bs
      induction bs with
      | nil => intro i acc h; cases h
      | cons c r ih =>
        intro i acc h
        rw [readGo] at h ⊢
        split at h
        · cases h
        · rename_i h1
          rw [if_neg h1]
          split at h
          · rename_i h2; rw [if_pos h2]; exact Nat.succ_le_succ (Nat.zero_le _)
          · rename_i h2; rw [if_neg h2]; exact ih _ _ h
    exact g bs 0 [] h

theorem sv_step {l : List Bool} {h j : Nat} {b : Bool} {x : Int} (hb : l[j]? = some b) (hj : j < h) (hl : h < l.length) (hh : h ≤ 63) (hx : x = sval ((l.take (h + 1)).drop (((j : Int) + 1).toNat))) :
    wrap64 (2 * x) = 2 * x ∧ wrap64 (wrap64 (2 * x) + 1) = 2 * x + 1 ∧ sval ((l.take (h + 1)).drop j) = (if b then 1 else 0) + 2 * x := by
  have hbd := (sval_bd ((l.take (h + 1)).drop (((j : Int) + 1).toNat)) (by simp; omega)).2.2 (by simp; omega)
  rw [← hx] at hbd
  simp only [Int.reducePow, Int.reduceNeg] at hbd
  have h1 : wrap64 (2 * x) = 2 * x := by unfold wrap64; omega
  refine ⟨h1, by rw [h1]; unfold wrap64; omega, ?_⟩
  obtain ⟨hk, hv⟩ := List.getElem?_eq_some_iff.1 hb
  have hlt : j < (l.take (h + 1)).length := by rw [List.length_take]; omega
  rw [List.drop_eq_getElem_cons hlt, sval_cons _ _ (by intro e; have := congrArg List.length e; simp at this; omega), hx]
  have e1 : (l.take (h + 1))[j] = b := by rw [List.getElem_take]; exact hv
  rw [e1, show ((j : Int) + 1).toNat = j + 1 from by omega]

theorem sv_top {l : List Bool} {h : Nat} {b : Bool} {x : Int} (hb : l[h]? = some b) (hx : x = sval ((l.take (h + 1)).drop (((h : Int) + 1).toNat))) :
    wrap64 (2 * x) = 0 ∧ sval ((l.take (h + 1)).drop h) = if b then -1 else 0 := by
  obtain ⟨hk, hv⟩ := List.getElem?_eq_some_iff.1 hb
  have hlt : h < (l.take (h + 1)).length := by rw [List.length_take]; omega
  rw [show ((h : Int) + 1).toNat = h + 1 from by omega, List.drop_eq_nil_of_le (by rw [List.length_take]; omega)] at hx
  refine ⟨by rw [hx]; simp [sval, wrap64], ?_⟩
  have e1 : (l.take (h + 1))[h] = b := by rw [List.getElem_take]; exact hv
  rw [List.drop_eq_getElem_cons hlt, List.drop_eq_nil_of_le (by rw [List.length_take]; omega), e1]
  rfl

theorem below_drewN' {B : Nat} {a w : World} (h : Below B a w) (n : Nat) : Below B a (w.drewN n) := ⟨h.os, h.tape, h.output, h.size, h.block⟩

set_option maxHeartbeats 1000000 in
set_option maxRecDepth 100000 in
theorem refSigned_any (A : Option Addr) (cap : Nat) (bs : List UInt8) (n : Int) (w : World) (hr : Hid (Reads w w.heap.size 1 A bs.length (bs.map B))) (hl : bs.length ≤ 400)
    (v : Int) (s e : Nat) (hR : Hid (refSignedL bs n = (v, s, e))) :
    Calls Tryz.prog 61 #[.slice A bs.length cap, .int .i64 n] w (S3Post w v s e) := by
  have hread := hide (refRead_any A cap bs n w hr hl)
  have hlen := readL_len bs n
  have hpos := read_ok_pos bs n
  have hR' := hR.out
  unfold refSignedL at hR'
  revert hread hlen hR' hpos
  generalize readL bs n = r
  obtain ⟨l, size, e1⟩ := r
  intro hread hlen hpos hR'
  simp only at hlen hR' hpos
  have hll : l.length ≤ 2800 := by omega
  by_cases he : e1 = 0
  · subst he
    obtain ⟨hp1, hp2, hp3⟩ := hpos rfl
    simp only [ne_eq, not_true_eq_false, if_false] at hR'
    obtain ⟨h, hh⟩ : ∃ h, min n.toNat l.length - 1 = h := ⟨_, rfl⟩
    rw [hh] at hR'
    have hmin : Hid (min n (l.length : Int) = (h : Int) + 1) := by show min n (l.length : Int) = _; omega
    have hhl : h < l.length := by omega
    have hh63 : h ≤ 63 := by omega
    have HR := hide hR'; clear hR' hlen hpos hp1 hp2 hp3 hh
    go_enter Tryz.func61, Tryz.ntmps61
    go_wp2_with fail
    refine hread.out.mono ?_; rintro e w1 ⟨v', rfl, ho, hb⟩
    obtain ⟨A', c', rfl, hc1, hc2⟩ := own_form ho
    have HO := hide (Reads.of_own ho); clear ho
    have HB := hide hb; clear hb
    clear hc1 hc2
    have hmn := hmin.out
    go_wp2_with fail
    go_loopw [11] (fun i wr => ∃ k : Nat, h ≤ k ∧ k ≤ l.length ∧ i = .int .i64 k ∧ Hid (Reads wr w1.heap.size 1 A' l.length (l.map T)) ∧ Hid (Below w.heap.size w wr) ∧ Hid ((l.drop h).all (fun b => b == l.getD h false) = (l.drop k).all (fun b => b == l.getD h false))) (fun i _ => l.length - (intOf i).toNat)
    case atStart => exact ⟨h, by omega, by omega, int_congr (by omega), HO, HB, rfl⟩
    case round =>
      obtain ⟨k, hk1, hk2, rfl, HO1, HB1, ha⟩ := hrel
      by_cases hlt : k < l.length
      · obtain ⟨ad, b, rfl, Hb, hc⟩ := HO1.out.bool hlt
        obtain ⟨ad', b0, e0, Hb0, hc0⟩ := HO1.out.bool hhl
        injection e0 with e0
        subst e0
        have hg0 : Hid (l.getD h false = b0) := by show l.getD h false = b0; rw [List.getD_eq_getElem?_getD, Hb0.out]; rfl
        have hb1 : (0 : Int) ≤ (k : Int) := by omega
        have hb2 : (k : Int) < (l.length : Int) := by omega
        have hb3 : (0 : Int) ≤ (h : Int) := by omega
        have hb4 : (h : Int) < (l.length : Int) := by omega
        go_wp2_with fail
        go_quiet (fail)
        go_wp2_with fail
        · have ht : (!b == b0) = true := by assumption
          have hR' := HR.out
          rw [ha.out, all_drop Hb.out, hg0.out, if_neg (by cases b <;> cases b0 <;> simp_all)] at hR'
          injection hR' with h1 h2
          injection h2 with h2 h3
          subst h1 h2 h3
          go_ret3
          exact S3Post.of (below_drewN' HB1.out _) rfl rfl rfl
        · have ht : (!b == b0) = false := by assumption
          go_roundw
          case rel =>
            refine ⟨k + 1, by omega, by omega, by go_num, HO1, below_drewN' HB1.out _, ?_⟩
            refine ha.out.trans (by rw [all_drop Hb.out, hg0.out]; cases b <;> cases b0 <;> simp_all)
          case measure => simp [intOf] <;> omega
      · have hR' := HR.out
        rw [ha.out, List.drop_eq_nil_of_le (by omega), List.all_nil, if_pos rfl] at hR'
        injection hR' with h1 h2
        injection h2 with h2 h3
        subst h1 h2 h3
        go_wp2_with fail
        go_loop [12, 13] (fun v i => ∃ (m x : Int), i = .int .i64 m ∧ v = .int .i64 x ∧ -1 ≤ m ∧ m ≤ (h : Int) ∧ Hid (x = sval ((l.take (h + 1)).drop (m + 1).toNat))) (fun _ i => (intOf i + 1).toNat)
        case atStart => exact ⟨(h : Int), 0, by first | rfl | go_num, rfl, by omega, by omega, by show _ = _; rw [show ((h : Int) + 1).toNat = h + 1 from by omega, List.drop_eq_nil_of_le (by rw [List.length_take]; omega)]; rfl⟩
        case round =>
          obtain ⟨m, x, rfl, rfl, hm1, hm2, hx⟩ := hrel
          by_cases hm0 : 0 ≤ m
          · obtain ⟨j, rfl⟩ : ∃ j : Nat, m = j := ⟨m.toNat, by omega⟩
            obtain ⟨ad, b, rfl, Hb, hc⟩ := HO1.out.bool (show j < l.length by omega)
            clear hm0 hm1
            by_cases hjh : j = h
            · subst hjh
              have hst := hide (sv_top Hb.out hx.out)
              cases b with
              | true =>
                go_wp2_with fail
                go_round
                case rel => exact ⟨(j : Int) - 1, _, rfl, rfl, by omega, by omega, by show _ = _; rw [show ((j : Int) - 1 + 1).toNat = j from by omega, hst.out.2]; rfl⟩
                case measure => simp [intOf] <;> omega
              | false =>
                go_wp2_with fail
                go_round
                case rel => exact ⟨(j : Int) - 1, _, rfl, rfl, by omega, by omega, by show _ = _; rw [show ((j : Int) - 1 + 1).toNat = j from by omega, hst.out.2]; exact hst.out.1⟩
                case measure => simp [intOf] <;> omega
            · have hjh2 : (j : Int) < (h : Int) := by omega
              clear hjh
              have hst := hide (sv_step Hb.out (by omega) hhl hh63 hx.out)
              cases b with
              | true =>
                go_wp2_with fail
                go_round
                case rel => exact ⟨(j : Int) - 1, _, rfl, rfl, by omega, by omega, by show _ = _; rw [show ((j : Int) - 1 + 1).toNat = j from by omega, hst.out.2.2, hst.out.2.1]; simp only [if_true]; omega⟩
                case measure => simp [intOf] <;> omega
              | false =>
                go_wp2_with fail
                go_round
                case rel => exact ⟨(j : Int) - 1, _, rfl, rfl, by omega, by omega, by show _ = _; rw [show ((j : Int) - 1 + 1).toNat = j from by omega, hst.out.2.2, hst.out.1]; simp⟩
                case measure => simp [intOf] <;> omega
          · go_wp2_with fail
            go_ret3
            have hx' := hx.out
            rw [show (m + 1).toNat = 0 from by omega, List.drop_zero] at hx'
            exact S3Post.of HB1.out (int_congr hx') rfl rfl
  · simp only [ne_eq, he, not_false_eq_true, if_true] at hR'
    injection hR' with h1 h2
    injection h2 with h2 h3
    subst h1 h2 h3
    have he2 : 0 < e1 := by omega
    clear he hpos
    go_enter Tryz.func61, Tryz.ntmps61
    go_wp2_with fail
    refine hread.out.mono ?_; rintro e w1 ⟨v', rfl, ho, hb⟩
    have HB := hide hb; clear hb ho
    go_wp2_with fail
    go_ret3
    exact ⟨rfl, HB.out⟩
end Go.Proofs.YtpanlhbdphobdaaGreatDoor

namespace Go.Proofs.YtpanlhbdphobdaaGreatDoor

theorem sval_val : ∀ (l : List Bool), l ≠ [] → sval l = if valB l < 2 ^ (l.length - 1) then (valB l : Int) else (valB l : Int) - (2 ^ l.length : Nat) := by
  intro l
  induction l with
  | nil => intro h; exact absurd rfl h
  | cons b r ih =>
    intro _
    cases r with
    | nil => cases b <;> simp [sval, valB]
    | cons c r =>
      have hv : valB (b :: c :: r) = (if b then 1 else 0) + 2 * valB (c :: r) := rfl
      rw [sval_cons _ _ (by simp), ih (by simp), hv]
      generalize valB (c :: r) = v
      simp only [List.length_cons, Nat.add_sub_cancel]
      have e1 : (2 : Nat) ^ (r.length + 1) = 2 * 2 ^ r.length := by rw [Nat.pow_succ]; omega
      have e2 : (2 : Nat) ^ (r.length + 1 + 1) = 4 * 2 ^ r.length := by rw [Nat.pow_succ, Nat.pow_succ]; omega
      rw [e1, e2]
      generalize (2 : Nat) ^ r.length = q
      cases b <;> simp only [if_true, Bool.false_eq_true, if_false] <;> split <;> split <;> omega

theorem valB_take (l : List Bool) (m : Nat) (h : m ≤ l.length) : valB (l.take m) = valB l % 2 ^ m := by
  have e := valB_append (l.take m) (l.drop m)
  rw [List.take_append_drop, List.length_take, Nat.min_eq_left h] at e
  have hl := valB_lt (l.take m)
  rw [List.length_take, Nat.min_eq_left h] at hl
  rw [e, Nat.add_mul_mod_self_left, Nat.mod_eq_of_lt hl]

theorem top_bit (l : List Bool) (h : Nat) (hl : h < l.length) : (2 ^ h ≤ valB (l.take (h + 1))) ↔ l.getD h false = true := by
  have hh : l[h]? = some l[h] := List.getElem?_eq_getElem hl
  rw [List.take_succ_eq_append_getElem hl, valB_append, List.length_take, Nat.min_eq_left (by omega), List.getD_eq_getElem?_getD, hh]
  have hlt := valB_lt (l.take h)
  rw [List.length_take, Nat.min_eq_left (by omega)] at hlt
  simp only [Option.getD_some, valB]
  cases l[h] <;> simp <;> omega

theorem same_bits : ∀ (c : Fin 128) (u : Fin 7) (b : Bool), ((bitsK c.val 7).drop u.val).all (fun x => x == b) = decide (c.val / 2 ^ u.val = if b then 2 ^ (7 - u.val) - 1 else 0) := by decide +kernel

theorem signed_law (bs : List UInt8) (n : Int) : signedL bs n = refSignedL bs n := by
  unfold signedL refSignedL rawL readL
  by_cases hn : n < 1 ∨ 64 < n
  · rw [if_pos hn, if_pos hn]; rfl
  · rw [if_neg hn, if_neg hn]
    obtain ⟨N, rfl⟩ : ∃ N : Nat, n = N := ⟨n.toNat, by omega⟩
    rw [show (N : Int).toNat = N from rfl]
    rcases raw_read N (by omega) (by omega) bs 0 0 [] (by unfold cntN; omega) rfl rfl with ⟨l', size, c, e1, e2, e3, e4, e5, e6⟩ | ⟨e, e1, e2, e3⟩
    · rw [e1, e2]
      simp only [ne_eq, not_true_eq_false, if_false]
      have hcn : cntN N = (N + 6) / 7 := rfl
      have hlen : (l' ++ bitsK c 7).length = 7 * size := by rw [List.length_append]; simp [bitsK]; omega
      have hdrop : ∀ k, l'.length ≤ k → (l' ++ bitsK c 7).drop k = (bitsK c 7).drop (k - l'.length) := fun k hk => by
        rw [List.drop_append, List.drop_eq_nil_of_le hk, List.nil_append]
      rw [hlen]
      obtain ⟨m, hm⟩ : ∃ m, min (7 * size) N = m := ⟨_, rfl⟩
      have hm2 : min N (7 * size) = m := by omega
      rw [hm, hm2]
      generalize hL : l' ++ bitsK c 7 = L at *
      have hm1 : 1 ≤ m := by omega
      have hml : m ≤ L.length := by omega
      have hne : L.take m ≠ [] := fun h => by
        have := congrArg List.length h
        rw [List.length_take, Nat.min_eq_left hml] at this
        simp at this
        omega
      have hne' : L.take (m - 1 + 1) ≠ [] := by rw [show m - 1 + 1 = m from by omega]; exact hne
      have hout : extendL (valB L % 2 ^ 64) m = sval (L.take (m - 1 + 1)) := by
        rw [show m - 1 + 1 = m from by omega, sval_val _ hne, List.length_take, Nat.min_eq_left hml, valB_take L m hml]
        unfold extendL
        rw [Nat.mod_mod_of_dvd _ (Nat.pow_dvd_pow 2 (show m ≤ 64 by omega))]
      have hneg : sval (L.take (m - 1 + 1)) < 0 ↔ L.getD (m - 1) false = true := by
        rw [← top_bit L (m - 1) (by omega), sval_val _ hne', List.length_take, Nat.min_eq_left (by omega)]
        have hlt := valB_lt (L.take (m - 1 + 1))
        rw [List.length_take, Nat.min_eq_left (by omega)] at hlt
        simp only [Nat.add_sub_cancel]
        split <;> omega
      have htop : L[m - 1]? = some (L.getD (m - 1) false) := by
        rw [List.getD_eq_getElem?_getD, List.getElem?_eq_getElem (by omega)]; rfl
      rw [hout, all_drop htop]
      simp only [beq_self_eq_true, Bool.true_and]
      rw [show m - 1 + 1 = m from by omega] at hneg ⊢
      by_cases h7 : 7 * size ≤ N
      · have hb : beyondL c size N = (0, 0) := by unfold beyondL; rw [if_pos h7]
        rw [hb, List.drop_eq_nil_of_le (by omega)]
        simp
      · have hb : beyondL c size N = (c / 2 ^ (N - l'.length), 7 - (N - l'.length)) := by
          unfold beyondL
          rw [if_neg h7, Nat.mod_eq_of_lt e4, show N + 7 - 7 * size = N - l'.length from by omega, show 7 * size - N = 7 - (N - l'.length) from by omega]
        have hmN : m = N := by omega
        subst hmN
        rw [hb, hdrop m (by omega)]
        have hs := same_bits ⟨c, e4⟩ ⟨m - l'.length, by omega⟩ (L.getD (m - 1) false)
        simp only at hs
        rw [hs]
        have hif : (if sval (L.take m) < 0 then 2 ^ (7 - (m - l'.length)) - 1 else 0) = (if L.getD (m - 1) false = true then 2 ^ (7 - (m - l'.length)) - 1 else 0) := by
          by_cases hg : L.getD (m - 1) false = true
          · rw [if_pos (hneg.2 hg), if_pos hg]
          · rw [if_neg (fun h => hg (hneg.1 h)), if_neg hg]
        rw [hif]
        have hpos : 0 < 7 - (m - l'.length) := by omega
        by_cases hq : c / 2 ^ (m - l'.length) = (if L.getD (m - 1) false = true then 2 ^ (7 - (m - l'.length)) - 1 else 0)
        · rw [if_neg (fun h => h.2 hq), if_pos (by simpa using hq)]
        · rw [if_pos ⟨hpos, hq⟩, if_neg (by simpa using hq)]
    · rw [e1, e2]
      simp [e3]
end Go.Proofs.YtpanlhbdphobdaaGreatDoor

namespace Go.Proofs.YtpanlhbdphobdaaGreatDoor

theorem ofNat_lt (n : Nat) (h : n < 256) : (UInt8.ofNat n).toNat = n := by simp [UInt8.toNat_ofNat']; omega

theorem putN_ge (n : Nat) (h : 128 ≤ n) (h2 : n < 2 ^ 64) : (putN n).length = (putN (n / 128)).length + 1 := by
  rw [putN_step n h h2, List.length_cons]

/-- raw over a number's bytes, from byte i on -/
theorem raw_putN (cnt : Nat) (hcnt : cnt ≤ 10) : ∀ (f m i acc : Nat), m < 128 ^ f → m < 2 ^ 64 → i < cnt → acc < 2 ^ (7 * i) →
    rawGo cnt (putN m) i acc = if m < 2 ^ (7 * (cnt - i)) then ((acc + 2 ^ (7 * i) * m) % 2 ^ 64, i + (putN m).length, m / 128 ^ ((putN m).length - 1), 0) else (0, 0, 0, 4) := by
  intro f
  induction f with
  | zero =>
    intro m i acc hm h64 hi ha
    have hm0 : m = 0 := by simpa using hm
    subst hm0
    rw [if_pos (Nat.two_pow_pos _), putN_small 0 (by omega), rawGo, if_neg (by rintro ⟨_, h⟩; revert h; decide), if_pos (by decide)]
    have := or_add acc 0 i (by omega) ha
    simp only [Nat.zero_mod, Nat.zero_mul, Nat.mul_zero, Nat.add_zero] at this ⊢
    simp [this]
  | succ f ih =>
    intro m i acc hm h64 hi ha
    by_cases hs : m < 128
    · have hlt : m < 2 ^ (7 * (cnt - i)) := Nat.lt_of_lt_of_le hs (by
        calc 128 = 2 ^ 7 := rfl
          _ ≤ 2 ^ (7 * (cnt - i)) := Nat.pow_le_pow_right (by omega) (by omega))
      rw [if_pos hlt, putN_small m hs, rawGo, ofNat_lt m (by omega), if_neg (by omega), if_pos hs, or_add acc m i (by omega) ha, Nat.mod_eq_of_lt hs]
      simp
    · have hge : 128 ≤ m := by omega
      have hc : (UInt8.ofNat (m % 128 + 128)).toNat = m % 128 + 128 := ofNat_lt _ (by omega)
      rw [putN_step m hge h64, rawGo, hc]
      by_cases hl : i + 1 = cnt
      · rw [if_pos ⟨hl, by omega⟩, if_neg]
        rw [show cnt - i = 1 from by omega]
        simp only [Nat.mul_one, Nat.reducePow]
        omega
      · rw [if_neg (by omega), if_neg (by omega), or_add acc _ i (by omega) ha]
        have hmod : (m % 128 + 128) % 128 = m % 128 := by omega
        rw [hmod]
        have hp7 : 2 ^ (7 * (i + 1)) = 2 ^ (7 * i) * 128 := by rw [Nat.mul_add, Nat.pow_add]
        have hlt2 : acc + 2 ^ (7 * i) * (m % 128) < 2 ^ (7 * (i + 1)) := by
          have h1 : 2 ^ (7 * i) * (m % 128 + 1) ≤ 2 ^ (7 * i) * 128 := Nat.mul_le_mul_left _ (by omega)
          rw [Nat.mul_add, Nat.mul_one] at h1
          omega
        have hle : 2 ^ (7 * (i + 1)) ≤ 2 ^ 64 := Nat.pow_le_pow_right (by omega) (by omega)
        rw [Nat.mod_eq_of_lt (by omega), ih (m / 128) (i + 1) _ (by rw [Nat.div_lt_iff_lt_mul (by omega)]; rw [Nat.pow_succ] at hm; exact hm) (Nat.lt_of_le_of_lt (Nat.div_le_self _ _) h64) (by omega) hlt2]
        have hcond : m / 128 < 2 ^ (7 * (cnt - (i + 1))) ↔ m < 2 ^ (7 * (cnt - i)) := by
          rw [show 7 * (cnt - i) = 7 * (cnt - (i + 1)) + 7 from by omega, Nat.pow_add, Nat.div_lt_iff_lt_mul (by omega)]
        by_cases hx : m < 2 ^ (7 * (cnt - i))
        · rw [if_pos (hcond.2 hx), if_pos hx]
          have hv : acc + 2 ^ (7 * i) * (m % 128) + 2 ^ (7 * (i + 1)) * (m / 128) = acc + 2 ^ (7 * i) * m := by
            rw [hp7, Nat.mul_assoc, Nat.add_assoc, ← Nat.mul_add, show m % 128 + 128 * (m / 128) = m from by omega]
          have hlen := (putN_length (m / 128)).1
          rw [hv, List.length_cons, show i + 1 + (putN (m / 128)).length = i + ((putN (m / 128)).length + 1) from by omega]
          congr 3
          rw [Nat.add_sub_cancel]
          obtain ⟨k, hk⟩ : ∃ k, (putN (m / 128)).length = k + 1 := ⟨_, (Nat.succ_pred_eq_of_pos hlen).symm⟩
          rw [hk, Nat.add_sub_cancel, Nat.pow_succ, Nat.mul_comm, Nat.div_div_eq_div_mul]
        · rw [if_neg (fun h => hx (hcond.1 h)), if_neg hx]

/-- how many bytes: the least number of groups of seven bits -/
theorem putN_len_lt : ∀ (f m : Nat), m < 128 ^ f → m < 2 ^ 64 → m < 128 ^ (putN m).length ∧ (1 < (putN m).length → 128 ^ ((putN m).length - 1) ≤ m) := by
  intro f
  induction f with
  | zero =>
    intro m hm h64
    have hm0 : m = 0 := by simpa using hm
    subst hm0
    rw [putN_small 0 (by omega)]
    simp
  | succ f ih =>
    intro m hm h64
    by_cases hs : m < 128
    · rw [putN_small m hs]; simp [hs]
    · have hge : 128 ≤ m := by omega
      have := ih (m / 128) (by rw [Nat.div_lt_iff_lt_mul (by omega)]; rw [Nat.pow_succ] at hm; exact hm) (Nat.lt_of_le_of_lt (Nat.div_le_self _ _) h64)
      have hlen := (putN_length (m / 128)).1
      rw [putN_ge m hge h64]
      obtain ⟨k, hk⟩ : ∃ k, (putN (m / 128)).length = k + 1 := ⟨_, (Nat.succ_pred_eq_of_pos hlen).symm⟩
      rw [hk] at this ⊢
      obtain ⟨h1, h2⟩ := this
      simp only [Nat.add_sub_cancel] at h2 ⊢
      refine ⟨by rw [Nat.pow_succ, ← Nat.div_lt_iff_lt_mul (by omega)]; exact h1, fun _ => ?_⟩
      rcases Nat.eq_zero_or_pos k with h0 | h0
      · subst h0; simpa using hge
      · rw [Nat.pow_succ, ← Nat.le_div_iff_mul_le (by omega)]
        exact h2 (by omega)

theorem pow128 (k : Nat) : 128 ^ k = 2 ^ (7 * k) := by rw [show (128 : Nat) = 2 ^ 7 from rfl, ← Nat.pow_mul]

theorem unsigned_put (n k : Nat) (h64 : n < 2 ^ 64) (hk1 : 1 ≤ k) (hk2 : k ≤ 64) : unsignedL (putN n) (k : Int) = if n < 2 ^ k then (n, (putN n).length, 0) else (0, 0, 4) := by
  have hcn : cntN k = (k + 6) / 7 := rfl
  have hraw : rawL (putN n) (k : Int) = if n < 2 ^ (7 * cntN k) then (n, (putN n).length, n / 128 ^ ((putN n).length - 1), 0) else (0, 0, 0, 4) := by
    unfold rawL
    rw [if_neg (by omega), show ((k : Int)).toNat = k from rfl, raw_putN (cntN k) (by omega) 10 n 0 0 (Nat.lt_of_lt_of_le h64 (by decide)) h64 (by omega) (by omega)]
    simp only [Nat.sub_zero, Nat.zero_add, Nat.mul_zero, Nat.pow_zero, Nat.one_mul, Nat.mod_eq_of_lt h64]
  obtain ⟨hl1, hl2⟩ := putN_len_lt 10 n (Nat.lt_of_lt_of_le h64 (by decide)) h64
  have hlen := putN_length n
  unfold unsignedL
  rw [hraw]
  by_cases hc : n < 2 ^ (7 * cntN k)
  · rw [if_pos hc]
    simp only [ne_eq, not_true_eq_false, if_false, show ((k : Int)).toNat = k from rfl]
    generalize (putN n).length = L at *
    rw [pow128] at hl1 hl2
    unfold beyondL
    by_cases h7 : 7 * L ≤ k
    · rw [if_pos h7, if_pos (Nat.lt_of_lt_of_le hl1 (Nat.pow_le_pow_right (by omega) h7))]
      simp
    · rw [if_neg h7]
      have hLc : L ≤ cntN k := by
        rcases Nat.lt_or_ge 1 L with h1 | h1
        · have h3 := Nat.lt_of_le_of_lt (hl2 h1) hc
          have := (Nat.pow_lt_pow_iff_right (a := 2) (by omega)).1 h3
          omega
        · omega
      have hdiv : n / 128 ^ (L - 1) % 128 / 2 ^ (k + 7 - 7 * L) = n / 2 ^ k := by
        have hlt : n / 128 ^ (L - 1) < 128 := by
          rw [Nat.div_lt_iff_lt_mul (by rw [pow128]; exact Nat.two_pow_pos _), pow128]
          rw [show 7 * L = 7 + 7 * (L - 1) from by omega, Nat.pow_add] at hl1
          exact hl1
        rw [Nat.mod_eq_of_lt hlt, Nat.div_div_eq_div_mul, pow128, ← Nat.pow_add, show 7 * (L - 1) + (k + 7 - 7 * L) = k from by omega]
      simp only [hdiv]
      by_cases hn : n < 2 ^ k
      · rw [if_pos hn, Nat.div_eq_of_lt hn]; simp
      · rw [if_neg hn]
        have : n / 2 ^ k ≠ 0 := by
          have := Nat.div_pos (Nat.le_of_not_lt hn) (Nat.two_pow_pos k)
          omega
        simp [this]
  · have hnk : ¬ n < 2 ^ k := fun h => hc (Nat.lt_of_lt_of_le h (Nat.pow_le_pow_right (by omega) (by omega)))
    rw [if_neg hc, if_neg hnk]
    simp

/-- how many bytes, by the bits that a number needs -/
theorem bitLen_iff : ∀ (f n k : Nat), n < 2 ^ f → f ≤ 64 → (Lib.bitLen n ≤ k ↔ n < 2 ^ k) := by
  intro f
  induction f with
  | zero =>
    intro n k h _
    have : n = 0 := by simpa using h
    subst this
    have h0 : Lib.bitLen 0 = 0 := by decide
    rw [h0]
    simp [Nat.two_pow_pos]
  | succ f ih =>
    intro n k h hf
    by_cases h0 : n = 0
    · subst h0
      have h0 : Lib.bitLen 0 = 0 := by decide
      rw [h0]
      simp [Nat.two_pow_pos]
    · rw [Lib.bitLen_half n h0 (Nat.lt_of_lt_of_le h (Nat.pow_le_pow_right (by omega) hf))]
      have := ih (n / 2)
      rcases Nat.eq_zero_or_pos k with hk | hk
      · subst hk; simp; omega
      · obtain ⟨k, rfl⟩ : ∃ j, k = j + 1 := ⟨k - 1, by omega⟩
        rw [Nat.pow_succ] at h ⊢
        have h2 := ih (n / 2) k (by omega) (by omega)
        constructor
        · intro hh; have := h2.1 (by omega); omega
        · intro hh; have := h2.2 (by omega); omega

theorem sizeL_eq (n : Nat) (h64 : n < 2 ^ 64) : sizeL n = (putN n).length := by
  obtain ⟨hl1, hl2⟩ := putN_len_lt 10 n (Nat.lt_of_lt_of_le h64 (by decide)) h64
  have hlen := putN_length n
  unfold sizeL cntN
  generalize (putN n).length = L at *
  rw [pow128] at hl1 hl2
  have hb1 := (bitLen_iff 64 n (7 * L) h64 (by omega)).2 hl1
  rcases Nat.lt_or_ge 1 L with h1 | h1
  · have h2 := hl2 h1
    have hb2 : ¬ Lib.bitLen n ≤ 7 * (L - 1) := fun h => by
      have := (bitLen_iff 64 n (7 * (L - 1)) h64 (by omega)).1 h
      omega
    omega
  · omega
end Go.Proofs.YtpanlhbdphobdaaGreatDoor
