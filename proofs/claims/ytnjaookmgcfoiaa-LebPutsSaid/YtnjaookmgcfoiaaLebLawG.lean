/-
  The law LebPuts: the walk.
-/
import Derived.Test.YtnjaookmgcfoiaaLebLawF
import Derived.Test.YtnjaookmgcfoiaaRegion
import Derived.Maps.RangeWalk
namespace Go.Proofs.Ytnjaookmgcfoiaa
open Go.RowKit
set_option linter.unusedVariables false

theorem own_made0 (w : World) (base : Nat) (h : base ≤ w.heap.size) : OwnB (w.alloc (.cells #[] 5)) base (.slice (some ⟨w.heap.size, 0, none⟩) 0 0) [] :=
  World.ownsRow_made (e := 5) (size := 1) w #[] 0 h (by unfold maxLen; omega) rfl

/-- 'append([]byte{}, b...)' -/
theorem copy_reads {w : World} {base : Nat} {A : Option Addr} {bs : List UInt8} {W : World} (hr : Hid (Reads w base 1 A bs.length (bs.map B))) (hb : Hid (Below base w W)) (hs : base ≤ W.heap.size) : Reads (W.alloc (.cells #[] 5)) base 1 A bs.length (bs.map B) :=
  (hr.out.below hb.out).alloc hs _

theorem Reads.behind {w : World} {Bk : Nat} {A : Option Addr} {xs ys : List UInt8} {c : Nat} (h : Reads w Bk 1 A (xs ++ ys).length ((xs ++ ys).map B)) (hc : xs.length + ys.length ≤ c) (hx : xs.length < c) : Reads w Bk 1 (Option.map (fun x => x.add xs.length) A) ys.length (ys.map B) := by
  have := h.cut (k := xs.length) (cap := c) (by simp) (by simpa using hc)
  rw [if_neg (by omega)] at this
  have e1 : (xs ++ ys).length - xs.length = ys.length := by simp
  have e2 : ((xs ++ ys).map B).drop (xs.length * 1) = ys.map B := by
    rw [Nat.mul_one, List.map_append, List.drop_append_of_le_length (by simp), List.drop_eq_nil_of_le (by simp), List.nil_append]
  rw [e1, e2, Nat.mul_one] at this
  exact this

theorem str_cat (xs ys : List UInt8) : (⟨xs.toArray⟩ : ByteArray) ++ ⟨ys.toArray⟩ = ⟨(xs ++ ys).toArray⟩ := by
  apply ByteArray.ext
  simp [ByteArray.data_append]
theorem run_cat (xs ys : List UInt8) (t : TypeId) (W : World) (h : xs.length + ys.length ≤ 9223372036854775807) : (binOp .add t (.string ⟨xs.toArray⟩) (.string ⟨ys.toArray⟩)).run Try.prog W = .ok (.string ⟨(xs ++ ys).toArray⟩) W := by
  go_simp
  rw [if_neg (by omega), str_cat]
theorem run_neq_same (s : ByteArray) (W : World) : (binOp .neq 9 (.string s) (.string s)).run Try.prog W = .ok (.bool false) W := by
  go_simp

def factsOf (L : List (Value → World → Prop)) : Nat → Value → World → Prop := fun i => L.getD i (fun _ _ => True)

set_option maxHeartbeats 1600000 in
set_option maxRecDepth 100000 in
theorem LebPuts_in (A : Option Addr) (cap : Nat) (bs : List UInt8) (n : Nat) (m : Int) (w : World) (hr : Hid (Reads w w.heap.size 1 A bs.length (bs.map B))) (hl : bs.length ≤ 40) (HN : Hid (n < 2 ^ 64)) (HM : Hid (-9223372036854775808 ≤ m ∧ m ≤ 9223372036854775807)) :
    Calls Try.prog 8 #[.slice A bs.length cap, .int .u64 n, .int .i64 m] w fun e w' => e = .returned (.bool true) ∧ Below w.heap.size w w' := by
  have hroom : Room 0 bs.length 1 := room_of (by omega) (by omega)
  obtain ⟨base, hbase⟩ : ∃ b, w.heap.size = b := ⟨_, rfl⟩
  have HB := hide hbase; clear hbase
  have hbm := B_map_one bs
  go_enter Try.func8, Try.ntmps8
  have hr' : Hid (Reads w base 1 A bs.length (bs.map B)) := by rw [← HB.out]; exact hr
  have hbs : base ≤ w.heap.size := by rw [HB.out]; omega
  have hb0 : Hid (Below base w w) := Below.refl _ _
  go_wp2_with (at_builtin; refine wpList_append_any rfl _ _ rfl base u8_elem _ 0 [] rfl (own_made0 w base hbs) base A bs.length cap (bs.map B) rfl (copy_reads hr' hb0 hbs) hbm hroom (by simp; omega) ?_; intro v1 w1 ho1 hg1)
  have o1 : Hid (OwnB w1 base v1 bs) := by show OwnB _ _ _ _; exact own_cast ho1 (by simp) (by simp)
  have hb1 : Hid (Below base w w1) := hg1.alloc_first.below hbs (own_ge (own_made0 w base hbs))
  have hs1 : base ≤ w1.heap.size := by have := hb1.out.size; omega
  clear ho1 hg1
  refine (put_any base v1 bs n w1 HN o1 hs1 (by omega)).mono ?_; rintro e w2 ⟨v2, rfl, o2, g2⟩
  have hb2 : Hid (Below base w w2) := g2.below' hb1.out hs1 (own_ge o1.out)
  have hs2 : base ≤ w2.heap.size := by have := hb2.out.size; omega
  have O2 := hide o2; clear o2 g2 o1
  go_wp2_with (at_builtin; refine wpList_append_any rfl _ _ rfl w2.heap.size u8_elem _ 0 [] rfl (own_made0 w2 w2.heap.size (Nat.le_refl _)) base A bs.length cap (bs.map B) rfl (copy_reads hr' hb2 hs2) hbm hroom (by simp) ?_; intro v3 w3 ho3 hg3)
  have o3 : Hid (OwnB w3 w2.heap.size v3 bs) := by show OwnB _ _ _ _; exact own_cast ho3 (by simp) (by simp)
  have hb3 : Hid (Below w2.heap.size w2 w3) := hg3.alloc_first.below (Nat.le_refl _) (own_ge (own_made0 w2 w2.heap.size (Nat.le_refl _)))
  clear ho3 hg3
  refine (putSigned_any w2.heap.size v3 bs m w3 HM.out.1 HM.out.2 o3 hb3.out.size (by omega)).mono ?_; rintro e w4 ⟨v4, rfl, o4, g4⟩
  have hb4 : Hid (Below w2.heap.size w2 w4) := g4.below' hb3.out hb3.out.size (own_ge o3.out)
  have o2 : Hid (OwnB w4 base v2 (bs ++ putN n)) := own_below O2.out hb4.out (fun g hg => (O2.out.lt g hg).2)
  have b4 : Hid (Below base w w4) := hb2.out.trans (hb4.out.mono hs2)
  have hs4 : base ≤ w4.heap.size := by have := b4.out.size; omega
  have O4 := hide (own_base o4 (base' := base) (fun g hg => Nat.le_trans hs2 (own_ge o4 g hg)))
  clear O2 o4 g4 o3 hb3 hb4 hb2 hs2 hb1 hs1 hroom hbm
  obtain ⟨A2, c2, rfl, k2, _⟩ := own_form o2.out
  obtain ⟨A4, c4, rfl, k4, _⟩ := own_form O4.out
  have r2 := hide (Reads.of_own o2.out)
  have r4 := hide (Reads.of_own O4.out)
  clear o2 O4
  simp only [List.length_append] at k2 k4
  have hp1 := (putN_length n).1
  have hp2 : 1 ≤ (putSN m).length := by unfold putSN; rw [putS_length]; omega
  have hp3 := (putN_length n).2
  have hp4 := putSN_len m HM.out
  have kc2 : bs.length < c2 := by omega
  have kc4 : bs.length < c4 := by omega
  have hm1 : min (bs.length : Int) ((bs.length : Int) + ((putN n).length : Int)) = (bs.length : Int) := by omega
  have hm2 : min (bs.length : Int) ((bs.length : Int) + ((putSN m).length : Int)) = (bs.length : Int) := by omega
  have t2 := hide (r2.out.behind k2 kc2)
  have t4 := hide (r4.out.behind k4 kc4)
  have hu : Hid (unsignedL (putN n) 64 = (n, (putN n).length, 0)) := by
    show unsignedL (putN n) ((64 : Nat) : Int) = _
    rw [unsigned_put n 64 HN.out (by omega) (by omega), if_pos HN.out]
  have hv : Hid (signedL (putSN m) 64 = (m, (putSN m).length, 0)) := by
    show signedL (putSN m) ((64 : Nat) : Int) = _
    exact (signed_put m HM.out.1 HM.out.2 64 (by omega) (by omega)).1 (by have := HM.out; unfold fits; simp only [Nat.reduceSub, Nat.reducePow]; omega)
  go_wp2_with fail
  refine (unsigned_any _ (c2 - bs.length) (putN n) 64 w4 t2 (by omega) _ _ _ hu).mono ?_; rintro e w5 ⟨rfl, rfl⟩
  go_wp2_with fail
  refine (signed_any _ (c4 - bs.length) (putSN m) 64 w4 t4 (by omega) _ _ _ hv).mono ?_; rintro e w5 ⟨rfl, rfl⟩
  have hS : Hid (∀ W, Below w4.heap.size w4 W → ((convert 22 9 (.slice A2 (bs.length + (putN n).length) c2)).run Try.prog W = .ok (.string ⟨(bs ++ putN n).toArray⟩) W ∧
      (convert 22 9 (.slice A bs.length cap)).run Try.prog W = .ok (.string ⟨bs.toArray⟩) W ∧
      (convert 22 9 (.slice A4 (bs.length + (putSN m).length) c4)).run Try.prog W = .ok (.string ⟨(bs ++ putSN m).toArray⟩) W)) := fun W hW => by
    have h1 := str_reads c2 (r2.out.below hW) W (fun _ => rfl)
    have h2 := str_reads cap (hr'.out.below (b4.out.trans (hW.mono hs4))) W (fun _ => rfl)
    have h3 := str_reads c4 (r4.out.below hW) W (fun _ => rfl)
    rw [List.length_append] at h1 h3
    exact ⟨h1, h2, h3⟩
  go_wp2_with fail
  refine wp_region_facts (factsOf [fun v _ => v = .slice A2 (bs.length + (putN n).length) c2, fun v _ => v = .string ⟨(bs ++ putN n).toArray⟩, fun v _ => v = .slice A bs.length cap, fun v _ => v = .string ⟨bs.toArray⟩, fun v _ => v = .int .u64 n,
    fun v W => ∃ A c, v = .slice A (putN n).length c ∧ Hid (Reads W W.heap.size 1 A (putN n).length ((putN n).map B)), fun v _ => v = .string ⟨(putN n).toArray⟩, fun v _ => v = .string ⟨(bs ++ putN n).toArray⟩, fun v _ => v = .bool false, fun v _ => v = .bool false,
    fun v _ => v = .slice A4 (bs.length + (putSN m).length) c4, fun v _ => v = .string ⟨(bs ++ putSN m).toArray⟩, fun v _ => v = .slice A bs.length cap, fun v _ => v = .string ⟨bs.toArray⟩, fun v _ => v = .int .i64 m,
    fun v W => ∃ A c, v = .slice A (putSN m).length c ∧ Hid (Reads W W.heap.size 1 A (putSN m).length ((putSN m).map B)), fun v _ => v = .string ⟨(putSN m).toArray⟩, fun v _ => v = .string ⟨(bs ++ putSN m).toArray⟩, fun v _ => v = .bool false, fun v _ => v = .bool false]) (by kernel_rfl) (by kernel_rfl) ?_ ?_
  · refine ⟨?_, ?_, ?_, ?_, ?_, ?_, ?_, ?_, ?_, ?_, ?_, ?_, ?_, ?_, ?_, ?_, ?_, ?_, ?_, ?_, trivial⟩
    · refine ⟨fun ρ W hk => ?_⟩
      exact OpOut.move (.tmp 7) rfl ⟨Below.refl _ _, hk.old 7 (by decide)⟩
    · refine ⟨fun ρ W hk => ?_⟩
      have e0 := (hk.fact 0 53 (by decide) rfl).pure
      exact OpOut.conv (x := .tmp 53) rfl (by rw [e0]; exact (hS.out W hk.below).1) ⟨Below.refl _ _, rfl⟩
    · refine ⟨fun ρ W hk => ?_⟩
      exact OpOut.move (.tmp 0) rfl ⟨Below.refl _ _, hk.old 0 (by decide)⟩
    · refine ⟨fun ρ W hk => ?_⟩
      have e2 := (hk.fact 2 55 (by decide) rfl).pure
      exact OpOut.conv (x := .tmp 55) rfl (by rw [e2]; exact (hS.out W hk.below).2.1) ⟨Below.refl _ _, rfl⟩
    · refine ⟨fun ρ W hk => ?_⟩
      exact OpOut.move (.tmp 1) rfl ⟨Below.refl _ _, hk.old 1 (by decide)⟩
    · refine ⟨fun ρ W hk => ?_⟩
      have e4 := (hk.fact 4 57 (by decide) rfl).pure
      refine OpOut.fn (args := #[.int .u64 n]) rfl (hk.func _) (by simp [e4]) Try.func17 (by kernel_rfl) rfl ?_
      refine (refPut_any n _ HN).mono ?_; rintro e w5 ⟨A5, c5, rfl, r5, b5, k5⟩
      exact ⟨_, rfl, b5.out, A5, c5, rfl, r5⟩
    · refine ⟨fun ρ W hk => ?_⟩
      obtain ⟨w5, hw5, A5, c5, e5, r5⟩ := hk.fact 5 58 (by decide) rfl
      exact OpOut.conv (x := .tmp 58) rfl (by rw [e5]; exact str_reads c5 (r5.out.below hw5) W (fun _ => rfl)) ⟨Below.refl _ _, rfl⟩
    · refine ⟨fun ρ W hk => ?_⟩
      have e3 := (hk.fact 3 56 (by decide) rfl).pure
      have e6 := (hk.fact 6 59 (by decide) rfl).pure
      exact OpOut.bin (x := .tmp 56) (y := .tmp 59) (v := .string ⟨(bs ++ putN n).toArray⟩) rfl (by rw [e3, e6]; go_simp) (by rw [e3, e6]; exact run_cat _ _ _ _ (by omega)) ⟨Below.refl _ _, rfl⟩
    · refine ⟨fun ρ W hk => ?_⟩
      have e1 := (hk.fact 1 54 (by decide) rfl).pure
      have e7 := (hk.fact 7 60 (by decide) rfl).pure
      exact OpOut.bin (x := .tmp 54) (y := .tmp 60) (v := .bool false) rfl (by rw [e1, e7]; go_simp) (by rw [e1, e7]; exact run_neq_same _ _) ⟨Below.refl _ _, rfl⟩
    · refine ⟨fun ρ W hk => ?_⟩
      have e8 := (hk.fact 8 61 (by decide) rfl).pure
      exact OpOut.move (.tmp 61) rfl ⟨Below.refl _ _, e8⟩
    · refine ⟨fun ρ W hk => ?_⟩
      have e9 := (hk.fact 9 62 (by decide) rfl).pure
      refine ⟨62, false, rfl, e9, fun _ => ?_, fun h => absurd rfl h⟩
      exact OpOut.move (.tmp 8) rfl ⟨Below.refl _ _, hk.old 8 (by decide)⟩
    · refine ⟨fun ρ W hk => ?_⟩
      have e10 := (hk.fact 10 63 (by decide) rfl).pure
      have e9 := (hk.fact 9 62 (by decide) rfl).pure
      refine ⟨62, false, rfl, e9, fun _ => ?_, fun h => absurd rfl h⟩
      exact OpOut.conv (x := .tmp 63) rfl (by rw [e10]; exact (hS.out W hk.below).2.2) ⟨Below.refl _ _, rfl⟩
    · refine ⟨fun ρ W hk => ?_⟩
      have e9 := (hk.fact 9 62 (by decide) rfl).pure
      refine ⟨62, false, rfl, e9, fun _ => ?_, fun h => absurd rfl h⟩
      exact OpOut.move (.tmp 0) rfl ⟨Below.refl _ _, hk.old 0 (by decide)⟩
    · refine ⟨fun ρ W hk => ?_⟩
      have e12 := (hk.fact 12 65 (by decide) rfl).pure
      have e9 := (hk.fact 9 62 (by decide) rfl).pure
      refine ⟨62, false, rfl, e9, fun _ => ?_, fun h => absurd rfl h⟩
      exact OpOut.conv (x := .tmp 65) rfl (by rw [e12]; exact (hS.out W hk.below).2.1) ⟨Below.refl _ _, rfl⟩
    · refine ⟨fun ρ W hk => ?_⟩
      have e9 := (hk.fact 9 62 (by decide) rfl).pure
      refine ⟨62, false, rfl, e9, fun _ => ?_, fun h => absurd rfl h⟩
      exact OpOut.move (.tmp 2) rfl ⟨Below.refl _ _, hk.old 2 (by decide)⟩
    · refine ⟨fun ρ W hk => ?_⟩
      have e14 := (hk.fact 14 67 (by decide) rfl).pure
      have e9 := (hk.fact 9 62 (by decide) rfl).pure
      refine ⟨62, false, rfl, e9, fun _ => ?_, fun h => absurd rfl h⟩
      refine OpOut.fn (args := #[.int .i64 m]) rfl (hk.func _) (by simp [e14]) Try.func18 (by kernel_rfl) rfl ?_
      refine (refPutSigned_any m _ HM).mono ?_; rintro e w5 ⟨A5, c5, rfl, r5, b5, k5⟩
      exact ⟨_, rfl, b5.out, A5, c5, rfl, r5⟩
    · refine ⟨fun ρ W hk => ?_⟩
      obtain ⟨w5, hw5, A5, c5, e15, r5⟩ := hk.fact 15 68 (by decide) rfl
      have e9 := (hk.fact 9 62 (by decide) rfl).pure
      refine ⟨62, false, rfl, e9, fun _ => ?_, fun h => absurd rfl h⟩
      exact OpOut.conv (x := .tmp 68) rfl (by rw [e15]; exact str_reads c5 (r5.out.below hw5) W (fun _ => rfl)) ⟨Below.refl _ _, rfl⟩
    · refine ⟨fun ρ W hk => ?_⟩
      have e13 := (hk.fact 13 66 (by decide) rfl).pure
      have e16 := (hk.fact 16 69 (by decide) rfl).pure
      have e9 := (hk.fact 9 62 (by decide) rfl).pure
      refine ⟨62, false, rfl, e9, fun _ => ?_, fun h => absurd rfl h⟩
      exact OpOut.bin (x := .tmp 66) (y := .tmp 69) (v := .string ⟨(bs ++ putSN m).toArray⟩) rfl (by rw [e13, e16]; go_simp) (by rw [e13, e16]; exact run_cat _ _ _ _ (by omega)) ⟨Below.refl _ _, rfl⟩
    · refine ⟨fun ρ W hk => ?_⟩
      have e11 := (hk.fact 11 64 (by decide) rfl).pure
      have e17 := (hk.fact 17 70 (by decide) rfl).pure
      have e9 := (hk.fact 9 62 (by decide) rfl).pure
      refine ⟨62, false, rfl, e9, fun _ => ?_, fun h => absurd rfl h⟩
      exact OpOut.bin (x := .tmp 64) (y := .tmp 70) (v := .bool false) rfl (by rw [e11, e17]; go_simp) (by rw [e11, e17]; exact run_neq_same _ _) ⟨Below.refl _ _, rfl⟩
    · refine ⟨fun ρ W hk => ?_⟩
      have e9 := (hk.fact 9 62 (by decide) rfl).pure
      have e18 := (hk.fact 18 71 (by decide) rfl).pure
      exact OpOut.pick (c := .tmp 62) (b := false) rfl e9 ⟨Below.refl _ _, e18⟩
  · intro vs W hb hf
    have e19 := (hf 19 (by decide)).pure
    have e18 := (hf 18 (by decide)).pure
    clear hf
    simp only [fillL]
    go_frame
    rw [e19]
    clear e19 e18
    have hsz : Hid (∀ W : World, Calls Try.prog 19 #[.int .u64 n] W fun e w' => e = .returned (.int .i64 (putN n).length) ∧ W = w') := fun W => by
      have := size_any n W HN
      rw [sizeL_eq n HN.out] at this
      exact this
    have hss : Hid (∀ W : World, Calls Try.prog 20 #[.int .i64 m] W fun e w' => e = .returned (.int .i64 (putSN m).length) ∧ W = w') := fun W => by
      have := sizeSigned_any m W HM.out.1 HM.out.2
      have hl : (putSN m).length = sizeS m := by unfold putSN; rw [putS_length]; have := sizeS_bd m HM.out.1 HM.out.2; omega
      rw [← hl] at this
      exact this
    have HBW := hide hb; clear hb
    go_wp2_with fail
    refine (hsz.out _).mono ?_; rintro e w' ⟨rfl, rfl⟩
    go_wp2_with fail
    refine (refPut_any n _ HN).mono ?_; rintro e w6 ⟨A6, c6, rfl, r6, b6, _⟩
    go_wp2_with fail
    refine (hss.out _).mono ?_; rintro e w' ⟨rfl, rfl⟩
    go_wp2_with fail
    refine (refPutSigned_any m _ HM).mono ?_; rintro e w7 ⟨A7, c7, rfl, r7, b7, _⟩
    go_wp2_with fail
    refine (hsz.out _).mono ?_; rintro e w' ⟨rfl, rfl⟩
    go_wp2_with fail
    refine (hss.out _).mono ?_; rintro e w' ⟨rfl, rfl⟩
    go_wp2_with fail
    refine (awake_any _).mono ?_; rintro e w8 ⟨rfl, hb8⟩
    have HB8 := hide hb8; clear hb8
    go_wp2_with fail
    go_ret
    have h4 : Below w.heap.size w4 W := HBW.out.mono (by rw [HB.out]; exact hs4)
    have h04 : Below w.heap.size w w4 := by rw [HB.out]; exact b4.out
    have h0W := h04.trans h4
    have h06 := h0W.trans (b6.out.mono h0W.size)
    have h07 := h06.trans (b7.out.mono h06.size)
    exact ⟨rfl, h07.trans (HB8.out.mono h07.size)⟩

theorem LebPuts_walk (A : Option Addr) (cap : Nat) (bs : List UInt8) (n m : Int) (w : World) (hr : Reads w w.heap.size 1 A bs.length (bs.map B)) (hc : bs.length ≤ cap) (hm : cap ≤ maxLen) (wn : (Lit.int .u64 n).wf = true) (wm : (Lit.int .i64 m).wf = true) :
    Calls Try.prog 8 #[.slice A bs.length cap, .int .u64 n, .int .i64 m] w fun e w' => e = .returned (.bool true) ∧ Below w.heap.size w w' := by
  obtain ⟨n, rfl, hn⟩ := u64_bd wn
  by_cases hl : bs.length ≤ 40
  · exact LebPuts_in A cap bs n m w hr hl hn (i64_bd wm)
  · have hl2 : 40 < bs.length := by omega
    clear hl hr wn wm hn
    unfold maxLen at hm
    go_enter Try.func8, Try.ntmps8
    go_wp2_with fail
    refine (awake_any _).mono ?_; rintro e w2 ⟨rfl, hb⟩
    have HB2 := hide hb; clear hb
    go_wp2_with fail
    go_ret
    exact ⟨rfl, HB2.out⟩
end Go.Proofs.Ytnjaookmgcfoiaa
