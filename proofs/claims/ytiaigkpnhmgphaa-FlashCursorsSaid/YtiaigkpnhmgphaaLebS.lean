/-
  The reference's numbers as bytes: each function's contract, the second half.
-/
import Derived.Test.YtiaigkpnhmgphaaLebR
namespace Go.Proofs.Ytiaigkpnhmgphaa
open Go.RowKit
set_option linter.unusedVariables false

def sumGo (n : Int) : List Bool → Nat → Nat → Nat → Option Nat
  | [], _, v, _ => some v
  | b :: r, i, v, p => if n ≤ (i : Int) ∧ b = true then none else sumGo n r (i + 1) (if b then (v + p) % 18446744073709551616 else v) (2 * p % 18446744073709551616)

def refUnsignedL (bs : List UInt8) (n : Int) : Nat × Nat × Nat :=
  let r := readL bs n
  if r.2.2 ≠ 0 then (0, 0, r.2.2)
  else match sumGo n r.1 0 0 1 with
    | none => (0, 0, 4)
    | some v => (v, r.2.1, 0)

theorem sumGo_bad {n : Int} {k v p : Nat} {l : List Bool} (hc : l[k]? = some true) (h : n ≤ (k : Int)) : sumGo n (l.drop k) k v p = none := by
  obtain ⟨hk, hv⟩ := List.getElem?_eq_some_iff.1 hc
  rw [List.drop_eq_getElem_cons hk, hv, sumGo, if_pos ⟨h, rfl⟩]
theorem sumGo_one {n : Int} {k v p : Nat} {l : List Bool} (hc : l[k]? = some true) (h : (k : Int) < n) : sumGo n (l.drop k) k v p = sumGo n (l.drop (k + 1)) (k + 1) ((v + p) % 18446744073709551616) (2 * p % 18446744073709551616) := by
  obtain ⟨hk, hv⟩ := List.getElem?_eq_some_iff.1 hc
  rw [List.drop_eq_getElem_cons hk, hv, sumGo, if_neg (by omega)]; rfl
theorem sumGo_zero {n : Int} {k v p : Nat} {l : List Bool} (hc : l[k]? = some false) : sumGo n (l.drop k) k v p = sumGo n (l.drop (k + 1)) (k + 1) v (2 * p % 18446744073709551616) := by
  obtain ⟨hk, hv⟩ := List.getElem?_eq_some_iff.1 hc
  rw [List.drop_eq_getElem_cons hk, hv, sumGo, if_neg (by simp)]; rfl
theorem sumGo_nil {n : Int} {k v p : Nat} {l : List Bool} (h : l.length ≤ k) : sumGo n (l.drop k) k v p = some v := by
  rw [List.drop_eq_nil_of_le h, sumGo]

theorem readGo_len (n : Int) : ∀ (bs : List UInt8) (i : Nat) (acc : List Bool), acc.length = 7 * i → (readGo n bs i acc).1.length ≤ 7 * (i + bs.length) ∧ (readGo n bs i acc).1.length = 7 * (readGo n bs i acc).2.1 := by
  intro bs
  induction bs with
  | nil => intro i acc h; simp [readGo]
  | cons c r ih =>
    intro i acc h
    have hl : (acc ++ bitsK c.toNat 7).length = 7 * (i + 1) := by rw [List.length_append, h]; simp [bitsK]; omega
    rw [readGo]
    split
    · simp
    · split
      · show (acc ++ bitsK c.toNat 7).length ≤ _ ∧ (acc ++ bitsK c.toNat 7).length = 7 * (i + 1)
        rw [hl, List.length_cons]; omega
      · have := ih (i + 1) _ hl
        simp only [List.length_cons]; omega
theorem readL_len (bs : List UInt8) (n : Int) : (readL bs n).1.length ≤ 7 * bs.length ∧ (readL bs n).1.length = 7 * (readL bs n).2.1 := by
  unfold readL
  split
  · simp
  · have := readGo_len n bs 0 [] rfl
    simpa using this

def U3Post (w : World) (v s : Nat) (e' : Nat) (e : Ending) (w' : World) : Prop := e = .returned (.tuple #[.int .u64 v, .int .i64 s, .int .i64 e']) ∧ Below w.heap.size w w'

set_option maxHeartbeats 1000000 in
set_option maxRecDepth 100000 in
theorem refUnsigned_any (A : Option Addr) (cap : Nat) (bs : List UInt8) (n : Int) (w : World) (hr : Hid (Reads w w.heap.size 1 A bs.length (bs.map B))) (hl : bs.length ≤ 400)
    (v s e : Nat) (hR : Hid (refUnsignedL bs n = (v, s, e))) :
    Calls Try.prog 21 #[.slice A bs.length cap, .int .i64 n] w (U3Post w v s e) := by
  have hread := hide (refRead_any A cap bs n w hr hl)
  have hlen := readL_len bs n
  have hR' := hR.out
  unfold refUnsignedL at hR'
  revert hread hlen hR'
  generalize readL bs n = r
  obtain ⟨l, size, e1⟩ := r
  intro hread hlen hR'
  simp only at hlen hR'
  have hll : l.length ≤ 2800 := by omega
  clear hlen
  by_cases he : e1 = 0
  · subst he
    simp only [ne_eq, not_true_eq_false, if_false] at hR'
    have HR := hide hR'; clear hR'
    go_enter Try.func21, Try.ntmps21
    go_wp2_with fail
    refine hread.out.mono ?_; rintro e w1 ⟨v', rfl, ho, hb⟩
    obtain ⟨A', c', rfl, hc1, hc2⟩ := own_form ho
    have HO := hide (Reads.of_own ho); clear ho
    have HB := hide hb; clear hb
    clear hc1 hc2
    go_wp2_with fail
    go_loop [10, 11, 12] (fun v1 p1 i => ∃ (k v2 p : Nat), k ≤ l.length ∧ i = .int .i64 k ∧ v1 = .int .u64 v2 ∧ p1 = .int .u64 p ∧ Hid (sumGo n l 0 0 1 = sumGo n (l.drop k) k v2 p)) (fun _ _ i => l.length - (intOf i).toNat)
    case atStart => exact ⟨0, 0, 1, Nat.zero_le _, rfl, rfl, rfl, rfl⟩
    case round =>
      obtain ⟨k, v2, p, hk, rfl, rfl, rfl, hs⟩ := hrel
      by_cases hlt : k < l.length
      · obtain ⟨ad, b, rfl, Hb, hc⟩ := HO.out.elem hlt
        cases b with
        | true =>
          have hc' : w1.cell? (ad.add k) = some (.bool true) := hc
          clear hc
          go_wp2_with fail
          · have hR' := HR.out
            rw [hs.out, sumGo_bad Hb.out (by assumption)] at hR'
            injection hR' with h1 h2
            injection h2 with h2 h3
            subst h1 h2 h3
            go_ret3
            exact ⟨rfl, HB.out⟩
          · go_round
            case rel => exact ⟨k + 1, (v2 + p) % 18446744073709551616, 2 * p % 18446744073709551616, by omega, by go_num, int_congr (by rw [IntKind.wrap_u64]; omega), int_congr (by rw [IntKind.wrap_u64]; omega), hs.out.trans (sumGo_one Hb.out (by assumption))⟩
            case measure => simp [intOf]; omega
        | false =>
          have hc' : w1.cell? (ad.add k) = some (.bool false) := hc
          clear hc
          go_wp2_with fail
          all_goals
            go_round
            case rel => exact ⟨k + 1, v2, 2 * p % 18446744073709551616, by omega, by go_num, rfl, int_congr (by rw [IntKind.wrap_u64]; omega), hs.out.trans (sumGo_zero Hb.out)⟩
            case measure => simp [intOf]; omega
      · go_wp2_with fail
        have hR' := HR.out
        rw [hs.out, sumGo_nil (by omega)] at hR'
        injection hR' with h1 h2
        injection h2 with h2 h3
        subst h1 h2 h3
        go_ret3
        exact ⟨rfl, HB.out⟩
  · simp only [ne_eq, he, not_false_eq_true, if_true] at hR'
    injection hR' with h1 h2
    injection h2 with h2 h3
    subst h1 h2 h3
    have he2 : 0 < e1 := by omega
    clear he
    go_enter Try.func21, Try.ntmps21
    go_wp2_with fail
    refine hread.out.mono ?_; rintro e w1 ⟨v', rfl, ho, hb⟩
    have HB := hide hb; clear hb ho
    go_wp2_with fail
    go_ret3
    exact ⟨rfl, HB.out⟩
end Go.Proofs.Ytiaigkpnhmgphaa
