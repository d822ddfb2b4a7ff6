/-
  The law LebApart: the walk.
-/
import Derived.Test.YtnjaookmgcfoiaaLebLawD
namespace Go.Proofs.Ytnjaookmgcfoiaa
open Go.RowKit
set_option linter.unusedVariables false

theorem below_cell {w1 w2 : World} {Bk : Nat} {A : Option Addr} {bs : List UInt8} (h : Reads w1 Bk 1 A bs.length (bs.map B)) (hB : Bk ≤ w1.heap.size) (hb : Below w1.heap.size w1 w2) : Reads w2 Bk 1 A bs.length (bs.map B) := h.below (hb.mono hB)

theorem wrap64_bd (n : Nat) : -9223372036854775808 ≤ wrap64 (n : Int) ∧ wrap64 (n : Int) ≤ 9223372036854775807 := by unfold wrap64; omega
theorem wrap64_inj (n m : Nat) (hn : n < 2 ^ 64) (hm : m < 2 ^ 64) (h : wrap64 (n : Int) = wrap64 (m : Int)) : n = m := by
  unfold wrap64 at h; simp only [Nat.reducePow] at hn hm; omega
theorem putSN_len (n : Int) (h : -9223372036854775808 ≤ n ∧ n ≤ 9223372036854775807) : (putSN n).length ≤ 10 := by unfold putSN; rw [putS_length]; have := sizeS_bd n h.1 h.2; omega

theorem begins_no (A1 A2 : Option Addr) (c1 c2 B1 B2 : Nat) (xs ys : List UInt8) (w : World) (r1 : Hid (Reads w B1 1 A1 xs.length (xs.map B))) (r2 : Hid (Reads w B2 1 A2 ys.length (ys.map B))) (hc : Hid (xs.length ≤ c1)) (hl1 : xs.length ≤ 1000000) (hl2 : ys.length ≤ 1000000) (hn : Hid (¬ ys <+: xs)) :
    Calls Try.prog 14 #[.slice A1 xs.length c1, .slice A2 ys.length c2] w fun e w' => e = .returned (.bool false) ∧ Hid (∀ B, Below B w w') := by
  have h := begins_any A1 A2 c1 c2 B1 B2 xs ys w r1 r2 hc.out hl1 hl2
  rw [decide_eq_false hn.out] at h
  refine h.mono ?_
  rintro e w' ⟨h1, n, rfl⟩
  exact ⟨h1, fun B => below_drewN' (Below.refl _ _) n⟩

theorem putNil' (n : Nat) (w : World) (hn : Hid (n < 2 ^ 64)) :
    Calls Try.prog 12 #[.slice none 0 0, .int .u64 n] w fun e w' => ∃ A c, e = .returned (.slice A (putN n).length c) ∧ Hid (Reads w' w'.heap.size 1 A (putN n).length ((putN n).map B)) ∧ Hid (Below w.heap.size w w') ∧ Hid ((putN n).length ≤ c) := by
  refine (put_any w.heap.size (.slice none 0 0) [] n w hn (own_nil _ _ _ _) (Nat.le_refl _) (by simp)).mono ?_
  rintro e w' ⟨v', rfl, ho, hg⟩
  have ho' : OwnB w' w.heap.size v' (putN n) := ho.cast (by simp)
  obtain ⟨A, c, rfl, h1, _⟩ := own_form ho'
  exact ⟨A, c, rfl, Reads.of_own ho', hg.below (Nat.le_refl _) (by intro g h; simp [Value.ownBlock] at h), h1⟩

theorem putSNil' (n : Int) (w : World) (hn : Hid (-9223372036854775808 ≤ n ∧ n ≤ 9223372036854775807)) :
    Calls Try.prog 13 #[.slice none 0 0, .int .i64 n] w fun e w' => ∃ A c, e = .returned (.slice A (putSN n).length c) ∧ Hid (Reads w' w'.heap.size 1 A (putSN n).length ((putSN n).map B)) ∧ Hid (Below w.heap.size w w') ∧ Hid ((putSN n).length ≤ c) := by
  refine (putSigned_any w.heap.size (.slice none 0 0) [] n w hn.out.1 hn.out.2 (own_nil _ _ _ _) (Nat.le_refl _) (by simp)).mono ?_
  rintro e w' ⟨v', rfl, ho, hg⟩
  have ho' : OwnB w' w.heap.size v' (putSN n) := ho.cast (by simp)
  obtain ⟨A, c, rfl, h1, _⟩ := own_form ho'
  exact ⟨A, c, rfl, Reads.of_own ho', hg.below (Nat.le_refl _) (by intro g h; simp [Value.ownBlock] at h), h1⟩

set_option maxHeartbeats 1600000 in
set_option maxRecDepth 100000 in
theorem LebApart_walk (n m : Int) (w : World) (wn : (Lit.int .u64 n).wf = true) (wm : (Lit.int .u64 m).wf = true) :
    Calls Try.prog 5 #[.int .u64 n, .int .u64 m] w fun e w' => e = .returned (.bool true) ∧ Below w.heap.size w w' := by
  obtain ⟨n, rfl, hn⟩ := u64_bd wn
  obtain ⟨m, rfl, hm⟩ := u64_bd wm
  have HN := hide hn; clear hn wn
  have HM := hide hm; clear hm wm
  obtain ⟨n', hn'⟩ : ∃ n', wrap64 (n : Int) = n' := ⟨_, rfl⟩
  obtain ⟨m', hm'⟩ : ∃ m', wrap64 (m : Int) = m' := ⟨_, rfl⟩
  have BN : Hid (-9223372036854775808 ≤ n' ∧ n' ≤ 9223372036854775807) := by rw [← hn']; exact wrap64_bd n
  have BM : Hid (-9223372036854775808 ≤ m' ∧ m' ≤ 9223372036854775807) := by rw [← hm']; exact wrap64_bd m
  have l1 : (putN n).length ≤ 1000000 := by have := putN_length n; omega
  have l2 : (putN m).length ≤ 1000000 := by have := putN_length m; omega
  have l3 : (putSN n').length ≤ 1000000 := by have := putSN_len n' BN.out; omega
  have l4 : (putSN m').length ≤ 1000000 := by have := putSN_len m' BM.out; omega
  have EN := hide hn'; have EM := hide hm'; clear hn' hm'
  go_enter Try.func5, Try.ntmps5
  go_wp2_with fail
  refine (putNil' n _ HN).mono ?_; rintro e w1 ⟨A1, c1, rfl, r1, b1, k1⟩
  go_wp2_with fail
  refine (putNil' m _ HM).mono ?_; rintro e w2 ⟨A2, c2, rfl, r2, b2, k2⟩
  go_wp2_with fail
  rw [EN.out]
  refine (putSNil' n' _ BN).mono ?_; rintro e w3 ⟨A3, c3, rfl, r3, b3, k3⟩
  go_wp2_with fail
  rw [EM.out]
  refine (putSNil' m' _ BM).mono ?_; rintro e w4 ⟨A4, c4, rfl, r4, b4, k4⟩
  have b34 := hide (b3.out.trans (b4.out.mono b3.out.size))
  have b24 := hide (b2.out.trans ((b34.out).mono b2.out.size))
  have b14 := hide (b1.out.trans ((b24.out).mono b1.out.size))
  have q1 := hide (r1.out.below b24.out)
  have q2 := hide (r2.out.below b34.out)
  have q3 := hide (r3.out.below b4.out)
  clear r1 r2 r3 b1 b2 b3 b4 b24 b34
  by_cases hnm : n = m
  · subst hnm
    have hmn : n' = m' := by rw [← EN.out, ← EM.out]
    subst hmn
    have s1 := str_reads c1 q1.out w4 (fun _ => rfl)
    have s2 := str_reads c2 q2.out w4 (fun _ => rfl)
    have s3 := str_reads c3 q3.out w4 (fun _ => rfl)
    have s4 := str_reads c4 r4.out w4 (fun _ => rfl)
    go_wp2_with fail
    refine (awake_any _).mono ?_; rintro e w5 ⟨rfl, hb⟩
    have HB := hide hb; clear hb
    go_wp2_with fail
    go_ret
    exact ⟨rfl, b14.out.trans (HB.out.mono b14.out.size)⟩
  · have hne : ((n : Int) == (m : Int)) = false := by simp; omega
    have p1 := hide (fun h => hnm (putN_apart 10 n m (Nat.lt_of_lt_of_le HN.out (by decide)) HN.out HM.out h))
    have p2 := hide (fun h => hnm (putN_apart 10 m n (Nat.lt_of_lt_of_le HM.out (by decide)) HM.out HN.out h).symm)
    have hnm' : n' ≠ m' := fun h => hnm (wrap64_inj n m HN.out HM.out (by rw [EN.out, EM.out, h]))
    have p3 := hide (fun h => hnm' (putSN_apart n' m' BN.out.1 BN.out.2 BM.out.1 BM.out.2 h))
    have p4 := hide (fun h => hnm' (putSN_apart m' n' BM.out.1 BM.out.2 BN.out.1 BN.out.2 h).symm)
    clear hnm hnm'
    go_wp2_with fail
    refine (begins_no A1 A2 c1 c2 _ _ (putN n) (putN m) _ q1 q2 k1 l1 l2 p2).mono ?_; rintro e w5 ⟨rfl, d1⟩
    have q1' := hide (q1.out.below (d1.out _)); have q2' := hide (q2.out.below (d1.out _)); have q3' := hide (q3.out.below (d1.out _)); have r4' := hide (r4.out.below (d1.out _))
    clear q1 q2 q3 r4
    go_wp2_with fail
    refine (begins_no A2 A1 c2 c1 _ _ (putN m) (putN n) _ q2' q1' k2 l2 l1 p1).mono ?_; rintro e w6 ⟨rfl, d2⟩
    have q3 := hide (q3'.out.below (d2.out _)); have r4 := hide (r4'.out.below (d2.out _))
    clear q1' q2' q3' r4'
    go_wp2_with fail
    refine (begins_no A3 A4 c3 c4 _ _ (putSN n') (putSN m') _ q3 r4 k3 l3 l4 p4).mono ?_; rintro e w7 ⟨rfl, d3⟩
    have q3' := hide (q3.out.below (d3.out _)); have r4' := hide (r4.out.below (d3.out _))
    clear q3 r4
    go_wp2_with fail
    refine (begins_no A4 A3 c4 c3 _ _ (putSN m') (putSN n') _ r4' q3' k4 l4 l3 p3).mono ?_; rintro e w8 ⟨rfl, d4⟩
    go_wp2_with fail
    refine (awake_any _).mono ?_; rintro e w9 ⟨rfl, hb⟩
    have HB := hide hb; clear hb
    go_wp2_with fail
    go_ret
    have h48 := (d1.out w.heap.size).trans ((d2.out w.heap.size).trans ((d3.out w.heap.size).trans (d4.out w.heap.size)))
    have h08 := b14.out.trans h48
    exact ⟨rfl, h08.trans (HB.out.mono h08.size)⟩
end Go.Proofs.Ytnjaookmgcfoiaa
