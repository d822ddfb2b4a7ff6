/-
  The reference's numbers as bytes: each function's contract.
  The reference's numbers as bytes: each function's contract, the second half.
  Numbers as bytes: the program's answer is the reference's, in plain Lean.
-/
import Derived.Test.YtpanlhbdphobdaaGreatDoorDeAM
namespace Go.Proofs.YtpanlhbdphobdaaGreatDoor
open Go.RowKit
set_option linter.unusedVariables false

/-- a truth as the machine's value -/
def T (b : Bool) : Value := .bool b
theorem bool_elem : IsElem Tryz.prog 134 4 1 1 := IsElem.mk' Tryz.underlying134 (z := .bool false) (by kernel_rfl) rfl (by omega)
def OwnT (w : World) (base : Nat) (v : Value) (bs : List Bool) : Prop := w.ownsRow base 4 1 v bs.length (bs.map T)
theorem OwnT.push {w : World} {base : Nat} {v : Value} {bs : List Bool} {b : Bool} (h : w.ownsRow base 4 1 v (bs.length + 1) (bs.map T ++ [T b])) : OwnT w base v (bs ++ [b]) :=
  own_cast h (by simp) (by simp)
theorem OwnT.cast {w : World} {base : Nat} {v : Value} {bs bs' : List Bool} (h : OwnT w base v bs) (e : bs = bs') : OwnT w base v bs' := e ▸ h

def bitN (c k : Nat) : Bool := c / 2 ^ k % 2 == 1
/-- the lowest k bits -/
def bitsK (c : Nat) (k : Nat) : List Bool := (List.range k).map (bitN c)
def readGo (n : Int) : List UInt8 → Nat → List Bool → List Bool × Nat × Nat
  | [], _, _ => ([], 0, 3)
  | c :: r, i, acc =>
    if n ≤ 7 * ((i : Int) + 1) ∧ 128 ≤ c.toNat then ([], 0, 4)
    else if c.toNat < 128 then (acc ++ bitsK c.toNat 7, i + 1, 0)
    else readGo n r (i + 1) (acc ++ bitsK c.toNat 7)
def readL (bs : List UInt8) (n : Int) : List Bool × Nat × Nat :=
  if n < 1 ∨ 64 < n then ([], 0, 1) else readGo n bs 0 []

theorem bitsK_succ (c k : Nat) : bitsK c (k + 1) = bitsK c k ++ [bitN c k] := by
  unfold bitsK; rw [List.range_succ, List.map_append]; rfl

theorem readGo_bad {n : Int} {k : Nat} {acc : List Bool} {bs : List UInt8} {c : UInt8} (hc : bs[k]? = some c) (h1 : n ≤ 7 * ((k : Int) + 1)) (h2 : (128 : Int) ≤ (c.toNat : Int)) : readGo n (bs.drop k) k acc = ([], 0, 4) := by
  obtain ⟨hk, hv⟩ := List.getElem?_eq_some_iff.1 hc
  rw [List.drop_eq_getElem_cons hk, hv, readGo, if_pos ⟨h1, by omega⟩]
theorem readGo_end {n : Int} {k : Nat} {acc : List Bool} {bs : List UInt8} {c : UInt8} (hc : bs[k]? = some c) (h2 : (c.toNat : Int) < 128) : readGo n (bs.drop k) k acc = (acc ++ bitsK c.toNat 7, k + 1, 0) := by
  obtain ⟨hk, hv⟩ := List.getElem?_eq_some_iff.1 hc
  rw [List.drop_eq_getElem_cons hk, hv, readGo, if_neg (by omega), if_pos (by omega)]
theorem readGo_on {n : Int} {k : Nat} {acc : List Bool} {bs : List UInt8} {c : UInt8} (hc : bs[k]? = some c) (h1 : 7 * ((k : Int) + 1) < n) (h2 : (128 : Int) ≤ (c.toNat : Int)) : readGo n (bs.drop k) k acc = readGo n (bs.drop (k + 1)) (k + 1) (acc ++ bitsK c.toNat 7) := by
  obtain ⟨hk, hv⟩ := List.getElem?_eq_some_iff.1 hc
  rw [List.drop_eq_getElem_cons hk, hv, readGo, if_neg (by omega), if_neg (by omega)]
theorem readGo_nil {n : Int} {k : Nat} {acc : List Bool} {bs : List UInt8} (h : bs.length ≤ k) : readGo n (bs.drop k) k acc = ([], 0, 3) := by
  rw [List.drop_eq_nil_of_le h, readGo]

theorem bit_form (c q : Nat) : Value.bool ((((c : Int) / 2 ^ q).tmod 2) == 1) = T (bitN c q) := by
  unfold T bitN
  have h : (c : Int) / 2 ^ q = ((c / 2 ^ q : Nat) : Int) := by rw [Int.natCast_ediv, Int.natCast_pow]; rfl
  rw [h, Int.tmod_eq_emod_of_nonneg (Int.natCast_nonneg _)]
  generalize c / 2 ^ q = d
  congr 1
  rw [Bool.eq_iff_iff]
  simp
  omega

def ReadPost (w : World) (r : List Bool × Nat × Nat) (e : Ending) (w' : World) : Prop :=
  ∃ v, e = .returned (.tuple #[v, .int .i64 r.2.1, .int .i64 r.2.2]) ∧ OwnT w' w.heap.size v r.1 ∧ Below w.heap.size w w'

theorem ReadPost.of {w w' : World} {r : List Bool × Nat × Nat} {l : List Bool} {s e : Nat} {v : Value} (hr : r = (l, s, e)) (ho : OwnT w' w.heap.size v l) (hb : Below w.heap.size w w') :
    ReadPost w r (.returned (.tuple #[v, .int .i64 s, .int .i64 e])) w' := by subst hr; exact ⟨v, rfl, ho, hb⟩

set_option maxHeartbeats 1000000 in
set_option maxRecDepth 100000 in
theorem refRead_in (A : Option Addr) (cap : Nat) (bs : List UInt8) (n : Int) (w : World) (h0 : 1 ≤ n) (h1 : n ≤ 64) (hr : Hid (Reads w w.heap.size 1 A bs.length (bs.map B))) (hl : bs.length ≤ 400) :
    Calls Tryz.prog 91 #[.slice A bs.length cap, .int .i64 n] w (ReadPost w (readL bs n)) := by
  have hR : readL bs n = readGo n bs 0 [] := by unfold readL; rw [if_neg (by omega)]
  rw [hR]
  clear hR
  obtain ⟨base, hbase⟩ : ∃ b, w.heap.size = b := ⟨_, rfl⟩
  have HB := hide hbase; clear hbase
  go_enter Tryz.func91, Tryz.ntmps91
  go_wp2_with fail
  go_loopw [7, 8] (fun v i wr => ∃ (k : Nat) (acc : List Bool), k ≤ bs.length ∧ i = .int .i64 k ∧ Hid (OwnT wr base v acc) ∧ Hid (acc.length = 7 * k) ∧ Hid (readGo n bs 0 [] = readGo n (bs.drop k) k acc) ∧ Hid (Below base w wr) ∧ base ≤ wr.heap.size) (fun _ i _ => bs.length - (intOf i).toNat)
  case atStart => exact ⟨0, [], Nat.zero_le _, rfl, own_nil _ _ _ _, rfl, rfl, Below.refl _ _, by rw [HB.out]; omega⟩
  case round =>
    obtain ⟨k, acc, hk, rfl, ho, ha, hg, hb, hbs⟩ := hrel
    by_cases hlt : k < bs.length
    · obtain ⟨wo, rfl⟩ : ∃ wo : World, wo = wr := ⟨_, rfl⟩
      go_wp2_with fail
      have hl0 : acc.length ≤ 2800 := by have := ha.out; omega
      go_loopw [7, 9] (fun v j wr => ∃ (q : Nat), q ≤ 7 ∧ j = .int .i64 q ∧ (∀ c, bs[k]? = some c → Hid (OwnT wr base v (acc ++ bitsK c.toNat q))) ∧ Hid (Below base w wr) ∧ base ≤ wr.heap.size) (fun _ j _ => 7 - (intOf j).toNat)
      case atStart => exact ⟨0, by omega, rfl, fun c _ => by show OwnT _ _ _ _; simpa [bitsK] using ho.out, hb, hbs⟩
      case round =>
        obtain ⟨q, hq, rfl, ho1, hb1, hbs1⟩ := hrel
        obtain ⟨ad, c, rfl, Hc, hc, c0, c1⟩ := (hr.out.below (by rw [HB.out]; exact hb1.out)).byte hlt
        have Ho1 := hide (ho1 c Hc.out).out
        clear ho1
        by_cases hq7 : q < 7
        · have hroom : Room (acc ++ bitsK c.toNat q).length 1 1 := room_of (by simp [bitsK]; omega) (by omega)
          go_wp2_with (at_builtin; refine wpList_push rfl _ _ rfl base bool_elem _ (acc ++ bitsK c.toNat q).length ((acc ++ bitsK c.toNat q).map T) rfl wr _ _ rfl Ho1.out rfl rfl hroom hbs1 ?_; intro v' w' ho' hg')
          go_roundw
          case rel =>
            rw [bit_form] at ho'
            refine ⟨q + 1, by omega, by go_num, fun c' hc' => ?_, hb1.out.grown hg'.by_ hbs1 (own_ge Ho1.out), Nat.le_trans hbs1 hg'.by_.size⟩
            have e : c' = c := by have := Hc.out; rw [this] at hc'; injection hc' with e; exact e.symm
            subst e
            exact (OwnT.push ho').cast (by rw [bitsK_succ, List.append_assoc])
          case measure => simp [intOf]; omega
        · have hq8 : q = 7 := by omega
          clear hq7
          subst hq8
          go_wp2_with fail
          · go_ret3
            exact ReadPost.of (hg.out.trans (readGo_bad Hc.out (by assumption) (by assumption))) (own_nil _ _ _ _) (by rw [HB.out]; exact hb1.out)
          · go_ret3
            exact ReadPost.of (hg.out.trans (readGo_end Hc.out (by assumption))) (by rw [HB.out]; exact Ho1.out) (by rw [HB.out]; exact hb1.out)
          · go_ret3
            exact ReadPost.of (hg.out.trans (readGo_end Hc.out (by assumption))) (by rw [HB.out]; exact Ho1.out) (by rw [HB.out]; exact hb1.out)
          · go_roundw
            case rel =>
              exact ⟨k + 1, _, by omega, by go_num, Ho1, by show _ = _; rw [List.length_append, ha.out]; simp [bitsK]; omega, hg.out.trans (readGo_on Hc.out (by omega) (by assumption)), hb1, hbs1⟩
            case measure => simp [intOf]; omega
    · go_wp2_with fail
      go_ret3
      exact ReadPost.of (hg.out.trans (readGo_nil (by omega))) (own_nil _ _ _ _) (by rw [HB.out]; exact hb.out)

set_option maxHeartbeats 400000 in
theorem refRead_arg (A : Option Addr) (l cap : Nat) (bs : List UInt8) (n : Int) (w : World) (h0 : n < 1 ∨ 64 < n) :
    Calls Tryz.prog 91 #[.slice A l cap, .int .i64 n] w (ReadPost w (readL bs n)) := by
  have hR : readL bs n = ([], 0, 1) := by unfold readL; rw [if_pos h0]
  rw [hR]
  clear hR
  rcases h0 with h0 | h0
  · go_enter Tryz.func91, Tryz.ntmps91
    go_wp2
    go_ret3
    exact ReadPost.of rfl (own_nil _ _ _ _) (Below.refl _ _)
  · by_cases h1 : n < 1
    · omega
    · go_enter Tryz.func91, Tryz.ntmps91
      go_wp2
      go_ret3
      exact ReadPost.of rfl (own_nil _ _ _ _) (Below.refl _ _)

theorem refRead_any (A : Option Addr) (cap : Nat) (bs : List UInt8) (n : Int) (w : World) (hr : Hid (Reads w w.heap.size 1 A bs.length (bs.map B))) (hl : bs.length ≤ 400) :
    Calls Tryz.prog 91 #[.slice A bs.length cap, .int .i64 n] w (ReadPost w (readL bs n)) := by
  by_cases h : n < 1 ∨ 64 < n
  · exact refRead_arg A bs.length cap bs n w h
  · exact refRead_in A cap bs n w (by omega) (by omega) hr hl
end Go.Proofs.YtpanlhbdphobdaaGreatDoor

namespace Go.Proofs.YtpanlhbdphobdaaGreatDoor
open Go.RowKit
set_option linter.unusedVariables false

def sumGo (n : Int) : List Bool → Nat → Nat → Nat → Option Nat
  | [], _, v, _ => some v
  | b :: r, i, v, p => if n ≤ (i : Int) ∧ b = true then none else sumGo n r (i + 1) (if b then (v + p) % 18446744073709551616 else v) (2 * p % 18446744073709551616)

def refUnsignedL (bs : List UInt8) (n : Int) : Nat × Nat × Nat :=
  let r := readL bs n
  if r.2.2 ≠ 0 then (0, 0, r.2.2)
  else match sumGo n r.1 0 0 1 with
    | none => (0, 0, 4)
    | some v => (v, r.2.1, 0)

theorem sumGo_bad {n : Int} {k v p : Nat} {l : List Bool} (hc : l[k]? = some true) (h : n ≤ (k : Int)) : sumGo n (l.drop k) k v p = none := by
  obtain ⟨hk, hv⟩ := List.getElem?_eq_some_iff.1 hc
  rw [List.drop_eq_getElem_cons hk, hv, sumGo, if_pos ⟨h, rfl⟩]
theorem sumGo_one {n : Int} {k v p : Nat} {l : List Bool} (hc : l[k]? = some true) (h : (k : Int) < n) : sumGo n (l.drop k) k v p = sumGo n (l.drop (k + 1)) (k + 1) ((v + p) % 18446744073709551616) (2 * p % 18446744073709551616) := by
  obtain ⟨hk, hv⟩ := List.getElem?_eq_some_iff.1 hc
  rw [List.drop_eq_getElem_cons hk, hv, sumGo, if_neg (by omega)]; rfl
theorem sumGo_zero {n : Int} {k v p : Nat} {l : List Bool} (hc : l[k]? = some false) : sumGo n (l.drop k) k v p = sumGo n (l.drop (k + 1)) (k + 1) v (2 * p % 18446744073709551616) := by
  obtain ⟨hk, hv⟩ := List.getElem?_eq_some_iff.1 hc
  rw [List.drop_eq_getElem_cons hk, hv, sumGo, if_neg (by simp)]; rfl
theorem sumGo_nil {n : Int} {k v p : Nat} {l : List Bool} (h : l.length ≤ k) : sumGo n (l.drop k) k v p = some v := by
  rw [List.drop_eq_nil_of_le h, sumGo]

theorem readGo_len (n : Int) : ∀ (bs : List UInt8) (i : Nat) (acc : List Bool), acc.length = 7 * i → (readGo n bs i acc).1.length ≤ 7 * (i + bs.length) ∧ (readGo n bs i acc).1.length = 7 * (readGo n bs i acc).2.1 := by
  intro bs
  induction bs with
  | nil => intro i acc h; simp [readGo]
  | cons c r ih =>
    intro i acc h
    have hl : (acc ++ bitsK c.toNat 7).length = 7 * (i + 1) := by rw [List.length_append, h]; simp [bitsK]; omega
    rw [readGo]
    split
    · simp
    · split
      · show (acc ++ bitsK c.toNat 7).length ≤ _ ∧ (acc ++ bitsK c.toNat 7).length = 7 * (i + 1)
        rw [hl, List.length_cons]; omega
      · have := ih (i + 1) _ hl
        simp only [List.length_cons]; omega
theorem readL_len (bs : List UInt8) (n : Int) : (readL bs n).1.length ≤ 7 * bs.length ∧ (readL bs n).1.length = 7 * (readL bs n).2.1 := by
  unfold readL
  split
  · simp
  · have := readGo_len n bs 0 [] rfl
    simpa using this

def U3Post (w : World) (v s : Nat) (e' : Nat) (e : Ending) (w' : World) : Prop := e = .returned (.tuple #[.int .u64 v, .int .i64 s, .int .i64 e']) ∧ Below w.heap.size w w'

set_option maxHeartbeats 1000000 in
set_option maxRecDepth 100000 in
theorem refUnsigned_any (A : Option Addr) (cap : Nat) (bs : List UInt8) (n : Int) (w : World) (hr : Hid (Reads w w.heap.size 1 A bs.length (bs.map B))) (hl : bs.length ≤ 400)
    (v s e : Nat) (hR : Hid (refUnsignedL bs n = (v, s, e))) :
    Calls Tryz.prog 90 #[.slice A bs.length cap, .int .i64 n] w (U3Post w v s e) := by
  have hread := hide (refRead_any A cap bs n w hr hl)
  have hlen := readL_len bs n
  have hR' := hR.out
  unfold refUnsignedL at hR'
  revert hread hlen hR'
  generalize readL bs n = r
  obtain ⟨l, size, e1⟩ := r
  intro hread hlen hR'
  simp only at hlen hR'
  have hll : l.length ≤ 2800 := by omega
  clear hlen
  by_cases he : e1 = 0
  · subst he
    simp only [ne_eq, not_true_eq_false, if_false] at hR'
    have HR := hide hR'; clear hR'
    go_enter Tryz.func90, Tryz.ntmps90
    go_wp2_with fail
    refine hread.out.mono ?_; rintro e w1 ⟨v', rfl, ho, hb⟩
    obtain ⟨A', c', rfl, hc1, hc2⟩ := own_form ho
    have HO := hide (Reads.of_own ho); clear ho
    have HB := hide hb; clear hb
    clear hc1 hc2
    go_wp2_with fail
    go_loop [10, 11, 12] (fun v1 p1 i => ∃ (k v2 p : Nat), k ≤ l.length ∧ i = .int .i64 k ∧ v1 = .int .u64 v2 ∧ p1 = .int .u64 p ∧ Hid (sumGo n l 0 0 1 = sumGo n (l.drop k) k v2 p)) (fun _ _ i => l.length - (intOf i).toNat)
    case atStart => exact ⟨0, 0, 1, Nat.zero_le _, rfl, rfl, rfl, rfl⟩
    case round =>
      obtain ⟨k, v2, p, hk, rfl, rfl, rfl, hs⟩ := hrel
      by_cases hlt : k < l.length
      · obtain ⟨ad, b, rfl, Hb, hc⟩ := HO.out.elem hlt
        cases b with
        | true =>
          have hc' : w1.cell? (ad.add k) = some (.bool true) := hc
          clear hc
          go_wp2_with fail
          · have hR' := HR.out
            rw [hs.out, sumGo_bad Hb.out (by assumption)] at hR'
            injection hR' with h1 h2
            injection h2 with h2 h3
            subst h1 h2 h3
            go_ret3
            exact ⟨rfl, HB.out⟩
          · go_round
            case rel => exact ⟨k + 1, (v2 + p) % 18446744073709551616, 2 * p % 18446744073709551616, by omega, by go_num, int_congr (by rw [IntKind.wrap_u64]; omega), int_congr (by rw [IntKind.wrap_u64]; omega), hs.out.trans (sumGo_one Hb.out (by assumption))⟩
            case measure => simp [intOf]; omega
        | false =>
          have hc' : w1.cell? (ad.add k) = some (.bool false) := hc
          clear hc
          go_wp2_with fail
          all_goals
            go_round
            case rel => exact ⟨k + 1, v2, 2 * p % 18446744073709551616, by omega, by go_num, rfl, int_congr (by rw [IntKind.wrap_u64]; omega), hs.out.trans (sumGo_zero Hb.out)⟩
            case measure => simp [intOf]; omega
      · go_wp2_with fail
        have hR' := HR.out
        rw [hs.out, sumGo_nil (by omega)] at hR'
        injection hR' with h1 h2
        injection h2 with h2 h3
        subst h1 h2 h3
        go_ret3
        exact ⟨rfl, HB.out⟩
  · simp only [ne_eq, he, not_false_eq_true, if_true] at hR'
    injection hR' with h1 h2
    injection h2 with h2 h3
    subst h1 h2 h3
    have he2 : 0 < e1 := by omega
    clear he
    go_enter Tryz.func90, Tryz.ntmps90
    go_wp2_with fail
    refine hread.out.mono ?_; rintro e w1 ⟨v', rfl, ho, hb⟩
    have HB := hide hb; clear hb ho
    go_wp2_with fail
    go_ret3
    exact ⟨rfl, HB.out⟩
end Go.Proofs.YtpanlhbdphobdaaGreatDoor

namespace Go.Proofs.YtpanlhbdphobdaaGreatDoor

def valB : List Bool → Nat
  | [] => 0
  | b :: r => (if b then 1 else 0) + 2 * valB r

theorem valB_append : ∀ (a b : List Bool), valB (a ++ b) = valB a + 2 ^ a.length * valB b := by
  intro a
  induction a with
  | nil => intro b; simp [valB]
  | cons x a ih =>
    intro b
    rw [List.cons_append, valB, ih, valB, List.length_cons, Nat.pow_succ]
    have : 2 * (valB a + 2 ^ a.length * valB b) = 2 * valB a + 2 ^ a.length * 2 * valB b := by
      rw [Nat.mul_add, ← Nat.mul_assoc, Nat.mul_comm 2 (2 ^ a.length)]
    omega

theorem valB_lt : ∀ (a : List Bool), valB a < 2 ^ a.length := by
  intro a
  induction a with
  | nil => simp [valB]
  | cons x a ih => rw [valB, List.length_cons, Nat.pow_succ]; split <;> omega

theorem valB_bitsK (c : Nat) : ∀ k, valB (bitsK c k) = c % 2 ^ k := by
  intro k
  induction k with
  | zero => simp [bitsK, valB, Nat.mod_one]
  | succ k ih =>
    rw [bitsK_succ, valB_append, ih, Nat.mod_pow_succ]
    have hl : (bitsK c k).length = k := by simp [bitsK]
    rw [hl]
    congr 2
    unfold bitN
    have : c / 2 ^ k % 2 = 0 ∨ c / 2 ^ k % 2 = 1 := by omega
    rcases this with h | h <;> rw [h] <;> rfl

/-- is a bit set at place n or behind? -/
def over (n : Nat) : List Bool → Nat → Bool
  | [], _ => false
  | b :: r, i => (decide (n ≤ i) && b) || over n r (i + 1)

theorem over_append (n : Nat) : ∀ (a b : List Bool) (i : Nat), over n (a ++ b) i = (over n a i || over n b (i + a.length)) := by
  intro a
  induction a with
  | nil => intro b i; simp [over]
  | cons x a ih => intro b i; rw [List.cons_append, over, ih, over, List.length_cons, Bool.or_assoc, show i + 1 + a.length = i + (a.length + 1) from by omega]

theorem over_short (n : Nat) : ∀ (a : List Bool) (i : Nat), i + a.length ≤ n → over n a i = false := by
  intro a
  induction a with
  | nil => intro i _; rfl
  | cons x a ih =>
    intro i h
    rw [List.length_cons] at h
    rw [over, ih (i + 1) (by omega)]
    simp
    omega

theorem over_shift (n : Nat) : ∀ (a : List Bool) (i j : Nat), over (n + j) a (i + j) = over n a i := by
  intro a
  induction a with
  | nil => intro i j; rfl
  | cons x a ih =>
    intro i j
    rw [over, over, show i + j + 1 = (i + 1) + j from by omega, ih]
    simp

theorem over_bits : ∀ (c : Fin 128) (u : Fin 7), over u.val (bitsK c.val 7) 0 = decide (c.val / 2 ^ u.val ≠ 0) := by decide +kernel

theorem over_bits' (n m c : Nat) (hm : m ≤ n) (hc : c < 128) : over n (bitsK c 7) m = decide (n < m + 7 ∧ c / 2 ^ (n - m) ≠ 0) := by
  have h : over n (bitsK c 7) m = over (n - m) (bitsK c 7) 0 := by
    have := over_shift (n - m) (bitsK c 7) 0 m
    rw [show n - m + m = n from by omega, Nat.zero_add] at this
    exact this
  rw [h]
  by_cases hu : n < m + 7
  · have := over_bits ⟨c, hc⟩ ⟨n - m, by omega⟩
    simp only at this
    rw [this]
    simp [hu]
  · rw [over_short _ _ _ (by simp [bitsK]; omega)]
    simp [hu]

theorem sumGo_eq (n : Nat) : ∀ (l : List Bool) (i v p : Nat), p = 2 ^ i % 18446744073709551616 → v < 18446744073709551616 →
    sumGo (n : Int) l i v p = if over n l i = true then none else some ((v + 2 ^ i * valB l) % 18446744073709551616) := by
  intro l
  induction l with
  | nil => intro i v p hp hv; simp [sumGo, over, valB, Nat.mod_eq_of_lt hv]
  | cons b r ih =>
    intro i v p hp hv
    rw [sumGo, over]
    have hp' : 2 * p % 18446744073709551616 = 2 ^ (i + 1) % 18446744073709551616 := by
      rw [hp, Nat.mul_mod_mod, Nat.pow_succ, Nat.mul_comm]
    cases b with
    | false =>
      rw [if_neg (by simp), ih (i + 1) _ _ hp' (by simpa using hv)]
      simp only [Bool.and_false, Bool.false_or, valB, Bool.false_eq_true, if_false, Nat.zero_add]
      rw [Nat.pow_succ, Nat.mul_assoc]
    | true =>
      by_cases h : n ≤ i
      · rw [if_pos ⟨by omega, rfl⟩, if_pos (by simp [h])]
      · rw [if_neg (by omega), ih (i + 1) _ _ hp' (by simp only [if_true]; exact Nat.mod_lt _ (by omega))]
        simp only [h, decide_false, Bool.false_and, Bool.false_or, valB, if_true]
        have : ((v + p) % 18446744073709551616 + 2 ^ (i + 1) * valB r) % 18446744073709551616 = (v + 2 ^ i * (1 + 2 * valB r)) % 18446744073709551616 := by
          rw [Nat.mod_add_mod, hp, Nat.mul_add, Nat.mul_one, ← Nat.mul_assoc, ← Nat.pow_succ, Nat.succ_eq_add_one]
          rw [show v + 2 ^ i % 18446744073709551616 + 2 ^ (i + 1) * valB r = v + 2 ^ (i + 1) * valB r + 2 ^ i % 18446744073709551616 from by omega, Nat.add_mod_mod]
          congr 1
          omega
        rw [this]

theorem or_add (acc c i : Nat) (hi : i ≤ 9) (ha : acc < 2 ^ (7 * i)) : acc ||| (c % 128 * 2 ^ (7 * i) % 2 ^ 64) = (acc + 2 ^ (7 * i) * (c % 128)) % 2 ^ 64 := by
  have h64 : (2 : Nat) ^ 64 = 2 ^ (7 * i) * 2 ^ (64 - 7 * i) := by rw [← Nat.pow_add, show 7 * i + (64 - 7 * i) = 64 from by omega]
  have h0 : c % 128 * 2 ^ (7 * i) % 2 ^ 64 = 2 ^ (7 * i) * (c % 128 % 2 ^ (64 - 7 * i)) := by
    rw [h64, Nat.mul_comm (c % 128), Nat.mul_mod_mul_left]
  rw [h0, Nat.or_comm, nat_join (7 * i) _ acc (by simp) ha]
  generalize c % 128 = d
  have h1 : (acc + 2 ^ (7 * i) * d) % 2 ^ 64 = acc + 2 ^ (7 * i) * (d % 2 ^ (64 - 7 * i)) := by
    rw [← Nat.div_add_mod d (2 ^ (64 - 7 * i))]
    have e : acc + 2 ^ (7 * i) * (2 ^ (64 - 7 * i) * (d / 2 ^ (64 - 7 * i)) + d % 2 ^ (64 - 7 * i)) = acc + 2 ^ (7 * i) * (d % 2 ^ (64 - 7 * i)) + 2 ^ 64 * (d / 2 ^ (64 - 7 * i)) := by
      rw [Nat.mul_add, ← Nat.mul_assoc, ← h64]; omega
    rw [e, Nat.add_mul_mod_self_left]
    have hlt : d % 2 ^ (64 - 7 * i) < 2 ^ (64 - 7 * i) := Nat.mod_lt _ (Nat.two_pow_pos _)
    have hle : 2 ^ (7 * i) * (d % 2 ^ (64 - 7 * i) + 1) ≤ 2 ^ 64 := by rw [h64]; exact Nat.mul_le_mul_left _ hlt
    rw [Nat.mul_add, Nat.mul_one] at hle
    rw [Nat.mod_eq_of_lt (by omega)]
    congr 2
    rw [Nat.mul_add_mod, Nat.mod_mod]
  rw [h1]
  omega

/-- the two readings, byte by byte -/
theorem raw_read (n : Nat) (h1 : 1 ≤ n) (h2 : n ≤ 64) : ∀ (bs : List UInt8) (i acc : Nat) (l : List Bool), i < cntN n → l.length = 7 * i → acc = valB l →
    (∃ (l' : List Bool) (size c : Nat), rawGo (cntN n) bs i acc = (valB (l' ++ bitsK c 7) % 2 ^ 64, size, c, 0) ∧ readGo (n : Int) bs i l = (l' ++ bitsK c 7, size, 0) ∧ l'.length + 7 = 7 * size ∧ c < 128 ∧ 1 ≤ size ∧ size ≤ cntN n) ∨
    (∃ e, rawGo (cntN n) bs i acc = (0, 0, 0, e) ∧ readGo (n : Int) bs i l = ([], 0, e) ∧ e ≠ 0) := by
  have hcn : cntN n = (n + 6) / 7 := rfl
  intro bs
  induction bs with
  | nil => intro i acc l hi hl ha; exact .inr ⟨3, rfl, rfl, by omega⟩
  | cons c r ih =>
    intro i acc l hi hl ha
    rw [rawGo, readGo]
    have hlt := valB_lt l
    rw [hl] at hlt
    have hor := or_add acc c.toNat i (by omega) (by omega)
    have hval : valB (l ++ bitsK c.toNat 7) = acc + 2 ^ (7 * i) * (c.toNat % 128) := by rw [valB_append, valB_bitsK, hl, ha]
    by_cases hbig : 128 ≤ c.toNat
    · by_cases hlast : i + 1 = cntN n
      · rw [if_pos ⟨hlast, hbig⟩, if_pos ⟨by omega, hbig⟩]
        exact .inr ⟨4, rfl, rfl, by omega⟩
      · rw [if_neg (by omega), if_neg (by omega), if_neg (by omega), if_neg (by omega)]
        refine ih (i + 1) _ _ (by omega) (by rw [List.length_append, hl]; simp [bitsK]; omega) ?_
        rw [hor, hval, Nat.mod_eq_of_lt]
        have := valB_lt (l ++ bitsK c.toNat 7)
        rw [hval, List.length_append, hl] at this
        refine Nat.lt_of_lt_of_le this (Nat.pow_le_pow_right (by omega) ?_)
        simp [bitsK]
        omega
    · rw [if_neg (by omega), if_pos (by omega), if_neg (by omega), if_pos (by omega)]
      exact .inl ⟨l, i + 1, c.toNat, by rw [hor, hval], rfl, by omega, by omega, by omega, by omega⟩

theorem unsigned_law (bs : List UInt8) (n : Int) : unsignedL bs n = refUnsignedL bs n := by
  unfold unsignedL refUnsignedL rawL readL
  by_cases h : n < 1 ∨ 64 < n
  · rw [if_pos h, if_pos h]; rfl
  · rw [if_neg h, if_neg h]
    obtain ⟨N, rfl⟩ : ∃ N : Nat, n = N := ⟨n.toNat, by omega⟩
    rw [show (N : Int).toNat = N from rfl]
    rcases raw_read N (by omega) (by omega) bs 0 0 [] (by unfold cntN; omega) rfl rfl with ⟨l', size, c, e1, e2, e3, e4, e5, e6⟩ | ⟨e, e1, e2, e3⟩
    · rw [e1, e2]
      simp only [ne_eq, not_true_eq_false, if_false]
      rw [sumGo_eq N _ 0 0 1 rfl (by omega), over_append, over_short N l' 0 (by unfold cntN at e6; omega), Bool.false_or, Nat.zero_add, over_bits' N l'.length c (by unfold cntN at e6; omega) e4]
      have hb : (beyondL c size N).1 ≠ 0 ↔ (N < l'.length + 7 ∧ c / 2 ^ (N - l'.length) ≠ 0) := by
        unfold beyondL
        by_cases h7 : 7 * size ≤ N
        · rw [if_pos h7]; simp; omega
        · rw [if_neg h7, Nat.mod_eq_of_lt e4, show N + 7 - 7 * size = N - l'.length from by omega]
          simp only
          constructor
          · intro hx; exact ⟨by omega, hx⟩
          · intro hx; exact hx.2
      by_cases hx : (beyondL c size N).1 ≠ 0
      · simp only [hx, not_false_eq_true, if_true]
        rw [if_pos (by simpa using hb.1 hx)]
      · rw [if_neg hx, if_neg (by simpa using fun a b => hx (hb.2 ⟨a, b⟩))]
        simp
    · rw [e1, e2]
      simp [e3]
end Go.Proofs.YtpanlhbdphobdaaGreatDoor
