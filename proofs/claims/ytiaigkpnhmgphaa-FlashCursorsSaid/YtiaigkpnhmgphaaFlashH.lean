/-
  flash: FlashFails: the law's walk.
-/
import Derived.Test.YtiaigkpnhmgphaaFlashInt
namespace Go.Proofs.Ytiaigkpnhmgphaa
open Go.RowKit
set_option linter.unusedVariables false

theorem u8_bd {n : Int} (h : (Lit.int .u8 n).wf = true) : 0 ≤ n ∧ n ≤ 255 := by
  simpa [Lit.wf, IntKind.min, IntKind.max, IntKind.signed, IntKind.bits] using h

/-- what a read without a sign answers, in cases -/
theorem unsigned_cases (l : List UInt8) (n : Int) : ((unsignedL l n).2.2 = 0 ∧ 1 ≤ (unsignedL l n).2.1 ∧ (unsignedL l n).2.1 ≤ l.length) ∨ ((unsignedL l n).2.2 ≠ 0 ∧ (unsignedL l n).2.2 ≤ 4 ∧ (unsignedL l n).2.1 = 0) := by
  have h := unsigned_num n
  by_cases h0 : (unsignedL l n).2.2 = 0
  · obtain ⟨a, b, _⟩ := h.self l h0
    exact .inl ⟨h0, b, a⟩
  · exact .inr ⟨h0, h.le l, h.none_ l h0⟩
theorem signed_cases (l : List UInt8) (n : Int) : ((signedL l n).2.2 = 0 ∧ 1 ≤ (signedL l n).2.1 ∧ (signedL l n).2.1 ≤ l.length) ∨ ((signedL l n).2.2 ≠ 0 ∧ (signedL l n).2.2 ≤ 4 ∧ (signedL l n).2.1 = 0) := by
  have h := signed_num n
  by_cases h0 : (signedL l n).2.2 = 0
  · obtain ⟨a, b, _⟩ := h.self l h0
    exact .inl ⟨h0, b, a⟩
  · exact .inr ⟨h0, h.le l, h.none_ l h0⟩

set_option maxHeartbeats 400000 in
theorem bytes_range2 (f c : Nat) (A : Option Addr) (bs : List UInt8) (r fl a n : Int) (w : World) (hf : Hid (FL w f A c bs r fl)) (hl : bs.length ≤ 65536)
    (h1 : 0 ≤ a) (h2 : 0 ≤ n) (h3 : a ≤ bs.length) (h4 : (bs.length : Int) - a < n) :
    Calls Try.prog 30 #[.pointer (some ⟨f, 0, none⟩), .int .i64 a, .int .i64 n] w fun e w' => e = .returned (.tuple #[.slice none 0 0, .int .i64 2]) ∧ Hid (Only [] w w') := by
  have c0 := cell_blk hf.out.blk 0
  simp at c0
  go_enter Try.func30, Try.ntmps30
  go_wp2_with fail
  go_ret2
  exact ⟨rfl, ⟨rfl, rfl, rfl, Nat.le_refl _, fun _ _ _ => rfl⟩⟩

set_option maxHeartbeats 400000 in
theorem fbyte_none2 (f c : Nat) (A : Option Addr) (bs : List UInt8) (r fl : Int) (w : World) (hf : Hid (FL w f A c bs r fl)) (hr1 : 0 ≤ r) (hr2 : r ≤ 1000000) (hl : bs.length ≤ 65536) (h5 : 0 ≤ fl) (h6 : fl ≤ r) :
    Calls Try.prog 17 #[.pointer (some ⟨f, 0, none⟩), .int .i64 0] w fun e w' => ∃ x r', e = .returned (.tuple #[.int .u8 0, .int .i64 x]) ∧ r ≤ r' ∧ r' ≤ r + 1 ∧ Hid (FL w' f A c bs r' fl) ∧ Hid (Only [f] w w') ∧ (bs.length = 0 ∨ x = 9) := by
  by_cases h0 : bs.length = 0
  · have hb := bytes_range2 f c A bs r fl 0 1 w hf hl (by omega) (by omega) (by omega) (by omega)
    have HB := hide hb; clear hb
    have H0 := hide h0; clear h0
    go_enter Try.func17, Try.ntmps17
    go_wp2_with fail
    refine HB.out.mono ?_; rintro e w1 ⟨rfl, k4⟩
    go_wp2_with fail
    go_ret2
    exact ⟨2, r, rfl, by omega, by omega, hf.out.keep k4.out (by simp) (by simp), k4.out.more (by simp), .inl H0.out⟩
  · have hb := bytes_fault f c A bs r fl 0 1 w hf hr1 hr2 hl (by omega) (by omega) (by omega) h5 h6
    have HB := hide hb; clear hb h0
    go_enter Try.func17, Try.ntmps17
    go_wp2_with fail
    refine HB.out.mono ?_; rintro e w1 ⟨rfl, k2, k4⟩
    go_wp2_with fail
    go_ret2
    exact ⟨9, r + 1, rfl, by omega, by omega, k2, k4, .inr rfl⟩

set_option maxHeartbeats 3200000 in
set_option maxRecDepth 100000 in
theorem FlashFails_walk (A : Option Addr) (cap : Nat) (bs : List UInt8) (fail bits : Int) (w : World) (hr : Reads w w.heap.size 1 A bs.length (bs.map B)) (hc : bs.length ≤ cap) (hm : cap ≤ maxLen) (wf : (Lit.int .u8 fail).wf = true) (wb : (Lit.int .i64 bits).wf = true) :
    Calls Try.prog 4 #[.slice A bs.length cap, .int .u8 fail, .int .i64 bits] w fun e w' => e = .returned (.bool true) ∧ Below w.heap.size w w' := by
  have H := hide hr; clear hr
  have hm' := hm
  unfold maxLen at hm'
  obtain ⟨hf0, hf1⟩ := u8_bd wf
  by_cases hl : bs.length ≤ 100
  · go_enter Try.func4, Try.ntmps4
    go_wp2_with fail
    refine (awake_any _).mono ?_; rintro e w1 ⟨rfl, hb1⟩
    have HB1 := hide hb1; clear hb1
    go_wp2_with fail
    refine (new_any A cap w.heap.size bs w1 (H.out.below HB1.out) (by omega)).mono ?_; rintro e w2 ⟨f, A1, c1, rfl, hf0, hF, hB2⟩
    have hw8 : IntKind.i64.wrap fail = fail := IntWalk.i64_in _ (by omega)
    go_wp2_with fail
    clear hw8
    refine (failAt_any f c1 A1 bs 0 (-1) fail w2 hF).mono ?_; rintro e w2' ⟨rfl, hF', hO'⟩
    go_wp2_with fail
    refine (cursor_any f c1 A1 bs 0 fail 0 bs.length w2' hF' (by omega) (by omega) (by omega)).mono ?_; rintro e w3 ⟨g, rfl, hg0, hC, hB3⟩
    obtain ⟨base, hbase⟩ : ∃ b, w3.heap.size = b := ⟨_, rfl⟩
    have hs1 := HB1.out.size
    have hs2 := hB2.out.size
    have hs2' := hO'.out.size
    have hs3 := hB3.out.size
    have HFC : Hid (FC w w3 f g c1 base A1 bs 0 fail 0 bs.length 0) := ⟨hF'.out.below hB3.out (blk_lt hF'.out.blk), hC.out, ((HB1.out.trans (hB2.out.mono hs1)).trans (hO'.out.below (B := w.heap.size) (by omega) (by simp; omega))).trans (hB3.out.mono (by omega)), by omega, by have := blk_lt hC.out.blk; omega, by omega⟩
    clear hF hF' hC hB2 hB3 hO' hg0 hs1 hs2 hs2' hs3 hbase HB1
    rename_i hf0'
    go_wp2_with fail
    go_loopw [11] (fun i w1 => ∃ (k : Nat) (at_ r : Int), i = .int .i64 k ∧ k ≤ 40 ∧ 0 ≤ at_ ∧ at_ ≤ bs.length ∧ 0 ≤ r ∧ r ≤ 11 * k ∧ Hid (FC w w1 f g c1 base A1 bs r fail 0 bs.length at_)) (fun i _ => 40 - (intOf i).toNat)
    case atStart => exact ⟨0, 0, 0, rfl, by omega, by omega, by omega, by omega, by omega, HFC⟩
    case round =>
      obtain ⟨k, at_, r, rfl, hk, h0, h1, hr0, hr1, hfc⟩ := hrel
      by_cases hlt : k < 40
      · go_wp2_with fail
        refine (at_any g f 0 bs.length at_ _ (hide hfc.out.cu)).mono ?_; rintro e w4 ⟨rfl, rfl⟩
        go_wp2_with fail
        refine (cur_unsigned g f c1 A1 bs r fail 0 bs.length at_ bits _ (hide hfc.out.fl_) (hide hfc.out.cu) (by omega) (by omega) (by omega) h0 h1 (by omega)).mono ?_; rintro e w5 ⟨e', r', d, v', rfl, k1, k2, k3, k4, k5, k6⟩
        have hfc5 := hide (hfc.out.only k3.out k1.out k2.out (by have := hfc.out.cu.lt; simp; omega))
        have hpl := part_len bs at_ (bs.length - at_) h0 (by omega) (by omega)
        have hcs := unsigned_cases (partB bs at_ (bs.length - at_)) bits
        have hcases : (e' = 0 ∧ 1 ≤ d ∧ at_ + d ≤ bs.length) ∨ (e' ≠ 0 ∧ e' ≠ 9 ∧ d = 0) ∨ (e' = 9 ∧ d = 0 ∧ fail < r') := by
          rcases k6.out with ⟨a, b, _⟩ | ⟨a, b, _, c, d⟩
          · rcases hcs with ⟨x, y, z⟩ | ⟨x, y, z⟩
            · left; omega
            · right; left; omega
          · right; right; omega
        clear hpl hcs k6 k1 k2 k3
        rcases hcases with ⟨rfl, hd1, hd2⟩ | ⟨hne, hn9, rfl⟩ | ⟨rfl, rfl, hfr⟩
        · obtain ⟨at2, hat2⟩ : ∃ x, at_ + d = x := ⟨_, rfl⟩
          rw [hat2] at hfc5 hd2
          have hlt2 : at_ < at2 := by omega
          clear hat2 hd1
          go_wp2_with fail
          refine (at_any g f 0 bs.length at2 _ (hide hfc5.out.cu)).mono ?_; rintro e w6 ⟨rfl, rfl⟩
          go_wp2_with fail
          go_roundw
          case rel => exact ⟨k + 1, at2, r', by go_num, by omega, by omega, by omega, by omega, by omega, hfc5⟩
          case measure => simp [intOf] <;> omega
        · rw [Int.add_zero] at hfc5
          go_wp2_with fail
          refine (at_any g f 0 bs.length at_ _ (hide hfc5.out.cu)).mono ?_; rintro e w6 ⟨rfl, rfl⟩
          go_wp2_with fail
          go_ret
          exact ⟨rfl, hfc5.out.bel⟩
        · rw [Int.add_zero] at hfc5
          go_wp2_with fail
          refine (at_any g f 0 bs.length at_ _ (hide hfc5.out.cu)).mono ?_; rintro e w6 ⟨rfl, rfl⟩
          go_wp2_with fail
          have hby : Calls Try.prog 13 #[.pointer (some ⟨g, 0, none⟩)] w5 fun e w' => ∃ x r2, e = .returned (.tuple #[.int .u8 0, .int .i64 x]) ∧ (x = 9 ∨ x = 3) ∧ r' ≤ r2 ∧ r2 ≤ 1000 ∧ Hid (FC w w' f g c1 base A1 bs r2 fail 0 bs.length at_) := by
            by_cases hx : at_ < bs.length
            · refine (byte_fault g f c1 A1 bs r' fail 0 bs.length at_ _ (hide hfc5.out.fl_) (hide hfc5.out.cu) (by omega) (by omega) (by omega) h0 hx (by omega) (by omega) (by omega)).mono ?_
              rintro e w' ⟨rfl, k2, k3, k4⟩
              exact ⟨9, r' + 1, rfl, .inl rfl, by omega, by omega, hfc5.out.only k4.out k2.out k3.out (by simp)⟩
            · have hx' : at_ = bs.length := by omega
              refine (byte_short_o g f 0 bs.length w5 (by have := hfc5.out.cu; rwa [hx'] at this) (by omega) (by omega)).mono ?_
              rintro e w' ⟨rfl, k4⟩
              exact ⟨3, r', rfl, .inr rfl, by omega, by omega, hfc5.out.quiet k4.out⟩
          have HBY := hide hby; clear hby
          refine HBY.out.mono ?_; rintro e w7 ⟨x, r2, rfl, hx, hr2, hr3, hfc7⟩
          go_wp2_with fail
          refine (fbyte_none2 f c1 A1 bs r2 fail _ (hide hfc7.out.fl_) (by omega) (by omega) (by omega) (by omega) (by omega)).mono ?_; rintro e w8 ⟨y, r3, rfl, hr4, hr5, k2, k4, hy⟩
          have hbel : Hid (Below w.heap.size w w8) := hfc7.out.bel.trans (k4.out.below (by have := hfc7.out.bel.size; omega) (by have := hfc7.out.lo; simp; omega))
          go_wp2_with fail
          refine (reads_any f c1 A1 bs r3 fail w8 k2 (by omega) (by omega)).mono ?_; rintro e w9 ⟨rfl, rfl⟩
          have hgt : fail < r3 := by omega
          have hw8 : IntKind.i64.wrap fail = fail := IntWalk.i64_in _ (by omega)
          have hbl : (bs.length = 0) ∨ 0 < bs.length := by omega
          by_cases hy9 : y = 9
          · subst hy9
            rcases hx with rfl | rfl
            · go_wp2_with fail
              go_ret
              exact ⟨rfl, hbel.out⟩
            · go_wp2_with fail
              go_ret
              exact ⟨rfl, hbel.out⟩
          · have hz : ((bs.length : Int) == 0) = true := by
              have : bs.length = 0 := by omega
              simp [this]
            have hyf : (y == 9) = false := by simpa using hy9
            clear hy hbl hy9
            rcases hx with rfl | rfl
            · go_wp2_with fail
              go_ret
              exact ⟨rfl, hbel.out⟩
            · go_wp2_with fail
              go_ret
              exact ⟨rfl, hbel.out⟩
      · have hkk : k = 40 := by omega
        subst hkk
        clear hlt
        go_wp2_with fail
        go_ret
        exact ⟨rfl, hfc.out.bel⟩
  · have hl3 : 100 < bs.length := by omega
    clear hl
    go_enter Try.func4, Try.ntmps4
    go_wp2_with fail
    refine (awake_any _).mono ?_; rintro e w2 ⟨rfl, hb⟩
    have HB2 := hide hb; clear hb
    go_wp2_with fail
    go_ret
    exact ⟨rfl, HB2.out⟩
end Go.Proofs.Ytiaigkpnhmgphaa
