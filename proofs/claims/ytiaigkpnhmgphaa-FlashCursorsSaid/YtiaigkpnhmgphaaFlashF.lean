/-
  flash: FlashParts: the law's walk.
-/
import Derived.Test.YtiaigkpnhmgphaaFlashE
import Derived.Test.YtiaigkpnhmgphaaArgs
namespace Go.Proofs.Ytiaigkpnhmgphaa
open Go.RowKit
set_option linter.unusedVariables false

theorem Only.drewN (S : List Nat) (w : World) (d : Nat) : Only S w (w.drewN d) := ⟨rfl, rfl, rfl, Nat.le_refl _, fun _ _ _ => rfl⟩
theorem own_only2 {w w' : World} {base : Nat} {v : Value} {bs : List UInt8} {S : List Nat} (h : OwnB w base v bs) (ho : Only S w w') (hS : ∀ g, v.ownBlock = some g → g ∉ S) : OwnB w' base v bs := by
  refine ⟨h.1, ?_⟩
  rcases h.2 with hn | ⟨g, cap, cur, rfl, hbg, hh, rest⟩
  · exact .inl hn
  · exact .inr ⟨g, cap, cur, rfl, hbg, (ho.block g (Array.getElem?_eq_some_iff.1 hh).1 (hS g rfl)).trans hh, rest⟩
theorem Only.cell_some {S : List Nat} {w w' : World} (ho : Only S w w') {p : Addr} {v : Value} (h : w.cell? p = some v) (hS : p.block ∉ S) : w'.cell? p = some v := by
  have hlt : p.block < w.heap.size := by
    apply Decidable.byContradiction
    intro hn
    rw [World.cell?, Array.getElem?_eq_none (by omega)] at h
    cases h
  rw [World.cell?, ho.block _ hlt hS]
  exact h
theorem own_lt {w : World} {base : Nat} {e : TypeId} {size n : Nat} {v : Value} {xs : List Value} (h : w.ownsRow base e size v n xs) : ∀ g, v.ownBlock = some g → g < w.heap.size := fun g hg => (h.lt g hg).2
theorem left_o (g f : Nat) (fr to at_ : Int) (w : World) (hc : Hid (CU w g f fr to at_)) (h1 : 0 ≤ at_) (h2 : at_ ≤ to) (h3 : to ≤ 1000000) :
    Calls Try.prog 10 #[.pointer (some ⟨g, 0, none⟩)] w fun e w' => e = .returned (.int .i64 (to - at_)) ∧ Hid (Only [] w w') := by
  refine (left_any g f fr to at_ w hc h1 h2 h3).mono ?_
  rintro e w' ⟨rfl, d, rfl⟩
  exact ⟨rfl, Only.drewN _ _ _⟩
theorem byte_short_o (g f : Nat) (fr to : Int) (w : World) (hc : Hid (CU w g f fr to to)) (h1 : 0 ≤ to) (h4 : to ≤ 1000000) :
    Calls Try.prog 13 #[.pointer (some ⟨g, 0, none⟩)] w fun e w' => e = .returned (.tuple #[.int .u8 0, .int .i64 3]) ∧ Hid (Only [] w w') := by
  refine (byte_short g f fr to w hc h1 h4).mono ?_
  rintro e w' ⟨rfl, d, rfl⟩
  exact ⟨rfl, Only.drewN _ _ _⟩

/-- a flash and a cursor in it, in a world that has them made since w0 -/
structure FC (w0 w : World) (f g c base : Nat) (A : Option Addr) (bs : List UInt8) (r fl fr to at_ : Int) : Prop where
  fl_ : FL w f A c bs r fl
  cu : CU w g f fr to at_
  bel : Below w0.heap.size w0 w
  lo : w0.heap.size ≤ f
  hi : g < base
  sz : base ≤ w.heap.size
theorem FC.only {w0 w w' : World} {f g c base : Nat} {A : Option Addr} {bs : List UInt8} {r fl fr to at_ r' at' : Int} (h : FC w0 w f g c base A bs r fl fr to at_) {S : List Nat} (ho : Only S w w') (hf : FL w' f A c bs r' fl) (hc : CU w' g f fr to at') (hS : ∀ x, x ∈ S → f ≤ x) : FC w0 w' f g c base A bs r' fl fr to at' :=
  ⟨hf, hc, h.bel.trans (ho.below h.bel.size fun x hx => Nat.le_trans h.lo (hS x hx)), h.lo, h.hi, Nat.le_trans h.sz ho.size⟩
theorem FC.quiet {w0 w w' : World} {f g c base : Nat} {A : Option Addr} {bs : List UInt8} {r fl fr to at_ : Int} (h : FC w0 w f g c base A bs r fl fr to at_) (ho : Only [] w w') : FC w0 w' f g c base A bs r fl fr to at_ :=
  h.only ho (h.fl_.keep ho (by simp) (by simp)) (h.cu.keep ho (by simp)) (by simp)
theorem FC.below {w0 w w' : World} {f g c base : Nat} {A : Option Addr} {bs : List UInt8} {r fl fr to at_ : Int} (h : FC w0 w f g c base A bs r fl fr to at_) (ho : Below base w w') : FC w0 w' f g c base A bs r fl fr to at_ :=
  have h1 := h.cu.lt
  have h2 := h.hi
  have h3 := h.lo
  ⟨h.fl_.below ho (by omega), h.cu.below ho h.hi, h.bel.trans (ho.mono (by omega)), h.lo, h.hi, Nat.le_trans h.sz ho.size⟩

theorem take_part (bs : List UInt8) (a n : Int) (h1 : 0 ≤ a) (h2 : 0 ≤ n) : bs.take a.toNat ++ partB bs a n = bs.take (a + n).toNat := by
  unfold partB
  rw [show (a + n).toNat = a.toNat + n.toNat from by omega, List.take_add]

set_option maxHeartbeats 1600000 in
set_option maxRecDepth 100000 in
theorem FlashParts_walk (A : Option Addr) (cap : Nat) (bs : List UInt8) (A2 : Option Addr) (cap2 : Nat) (ss : List UInt8) (w : World) (hr : Reads w w.heap.size 1 A bs.length (bs.map B)) (hc : bs.length ≤ cap) (hm : cap ≤ maxLen)
    (hr2 : Reads w w.heap.size 1 A2 ss.length (ss.map B)) (hc2 : ss.length ≤ cap2) (hm2 : cap2 ≤ maxLen) :
    Calls Try.prog 3 #[.slice A bs.length cap, .slice A2 ss.length cap2] w fun e w' => e = .returned (.bool true) ∧ Below w.heap.size w w' := by
  have H := hide hr; clear hr
  have H2 := hide hr2; clear hr2
  have hm' := hm
  have hm2' := hm2
  unfold maxLen at hm' hm2'
  by_cases hl : bs.length ≤ 300
  · by_cases hl2 : ss.length ≤ 40
    · go_enter Try.func3, Try.ntmps3
      go_wp2_with fail
      refine (awake_any _).mono ?_; rintro e w1 ⟨rfl, hb1⟩
      have HB1 := hide hb1; clear hb1
      go_wp2_with fail
      refine (new_any A cap w.heap.size bs w1 (H.out.below HB1.out) (by omega)).mono ?_; rintro e w2 ⟨f, A1, c1, rfl, hf0, hF, hB2⟩
      go_wp2_with fail
      refine (cursor_any f c1 A1 bs 0 (-1) 0 bs.length w2 hF (by omega) (by omega) (by omega)).mono ?_; rintro e w3 ⟨g, rfl, hg0, hC, hB3⟩
      obtain ⟨base, hbase⟩ : ∃ b, w3.heap.size = b := ⟨_, rfl⟩
      have hs1 := HB1.out.size
      have hs2 := hB2.out.size
      have hs3 := hB3.out.size
      have HFC : Hid (FC w w3 f g c1 base A1 bs 0 (-1) 0 bs.length 0) := ⟨hF.out.below hB3.out (blk_lt hF.out.blk), hC.out, (HB1.out.trans (hB2.out.mono hs1)).trans (hB3.out.mono (by omega)), by omega, by have := blk_lt hC.out.blk; omega, by omega⟩
      clear hF hC hB2 hB3 hf0 hg0 hs1 hs2 hs3 hbase HB1
      go_wp2_with fail
      go_loopw [9, 10] (fun v1 i w1 => ∃ (k : Nat) (at_ : Int), i = .int .i64 k ∧ k ≤ ss.length ∧ 0 ≤ at_ ∧ at_ ≤ bs.length ∧ Hid (OwnB w1 base v1 (bs.take at_.toNat)) ∧ Hid (FC w w1 f g c1 base A1 bs k (-1) 0 bs.length at_)) (fun _ i _ => ss.length - (intOf i).toNat)
      case atStart => exact ⟨0, 0, rfl, by omega, by omega, by omega, own_nil _ _ _ _, HFC⟩
      case round =>
        obtain ⟨k, at_, rfl, hk, h0, h1, ho, hfc⟩ := hrel
        by_cases hlt : k < ss.length
        · obtain ⟨ad, b, rfl, hb, hcell, _, _⟩ := (H2.out.below hfc.out.bel).byte hlt
          go_wp2_with fail
          have hfcd : Hid (FC w wr.drew f g c1 base A1 bs k (-1) 0 bs.length at_) := hfc.out.quiet (Only.drew _ _)
          have hownd := hide (own_only2 ho.out (Only.drew [] _) (by simp))
          have hw8 : IntKind.i64.wrap (b.toNat : Int) = b.toNat := IntWalk.i64_in _ (by have := b.toNat_lt; omega)
          obtain ⟨n, hn⟩ : ∃ n : Int, min (IntKind.i64.wrap (b.toNat : Int)) (bs.length - at_) = n := ⟨_, rfl⟩
          have hn' := hn
          rw [hw8] at hn'
          clear hw8
          have hn0 : 0 ≤ n := by have := b.toNat_lt; omega
          have hn1 : n ≤ bs.length - at_ := by omega
          go_region_held3 (fun W => W.cell? (ad.add k) = some (.int .u8 b.toNat))
            (first | exact hcell | exact hcell2)
            ((first | (go_at_call 10; refine (left_o g f 0 bs.length at_ _ hfcd.out.cu h0 h1 (by omega)).mono ?_; rintro e w4 ⟨rfl, ho4⟩; have hfc4 := hide (hfcd.out.quiet ho4.out); have hown4 := hide (own_only2 hownd.out ho4.out (by simp)); have hcell2 := ho4.out.cell_some (show wr.drew.cell? (ad.add k) = some (.int .u8 (b.toNat : Int)) from hcell) (by simp))))
          clear hn'
          clear hn
          go_wp2_with fail
          refine (part_ok g f 0 bs.length at_ n _ hfc4.out.cu h0 hn0 hn1 (by omega)).mono ?_; rintro e w5 ⟨p, rfl, hp0, hp, hg5, ho5⟩
          have hfc5 := hide (hfc4.out.only ho5.out (hfc4.out.fl_.keep ho5.out (by have := hfc4.out.cu.lt; simp; omega) (by have := hfc4.out.cu.lt; simp; omega)) hg5.out (by have := hfc4.out.cu.lt; simp; omega))
          have hown5 := hide (own_only hown4.out ho5.out (by have := hfc4.out.hi; simpa using this))
          go_wp2_with fail
          refine (take_ok p f c1 A1 bs k (-1) at_ (at_ + n) at_ n _ (hide hfc5.out.fl_) hp (by omega) (by omega) (by omega) h0 hn0 (by omega) (by omega) (.inl (by omega))).mono ?_; rintro e w6 ⟨A6, c6, rfl, k1, k2, k3, k4⟩
          have hpg : Hid (p ≠ f ∧ p ≠ g ∧ f ≤ p ∧ g < base ∧ base ≤ w4.heap.size ∧ w4.heap.size ≤ p) := by have := hfc4.out.sz; have := hfc4.out.hi; have := hfc4.out.cu.lt; show _ ∧ _; omega
          have hfc6 := hide (hfc5.out.only k4.out k2.out (hfc5.out.cu.keep k4.out (by have := hpg.out; have := hfc4.out.cu.lt; simp; omega)) (by have := hpg.out; simp; omega))
          have hown6 := hide (own_only2 hown5.out k4.out (fun x hx => by have h1 := own_lt hown4.out x hx; have h2 := own_ge hown4.out x hx; have := hpg.out; have := hfc4.out.cu.lt; simp; omega))
          have hlen : (partB bs at_ n).length = n.toNat := by have := part_len bs at_ n h0 hn0 (by omega); omega
          rw [hlen] at k1 ⊢
          have hLen := hide hlen; clear hlen
          have hnn : ((n.toNat : Nat) : Int) = n := by omega
          go_wp2_with fail
          refine (byte_short_o p f at_ (at_ + n) _ k3 (by omega) (by omega)).mono ?_; rintro e w7 ⟨rfl, ho7⟩
          have hfc7 := hide (hfc6.out.quiet ho7.out)
          have hown7 := hide (own_only2 hown6.out ho7.out (by simp))
          have hx7 := hide (own_only2 k1.out ho7.out (by simp))
          have hp7 := hide (k3.out.keep ho7.out (by simp))
          go_wp2_with fail
          refine (left_o p f at_ (at_ + n) (at_ + n) _ hp7.out (by omega) (by omega) (by omega)).mono ?_; rintro e w8 ⟨rfl, ho8⟩
          have hfc8 := hide (hfc7.out.quiet ho8.out)
          have hown8 := hide (own_only2 hown7.out ho8.out (by simp))
          have hx8 := hide (own_only2 hx7.out ho8.out (by simp))
          rw [Int.sub_self]
          have hrd8 := hide (show Reads _ _ 1 A6 n.toNat ((partB bs at_ n).map B) from Reads.of_own (by have := hx8.out; unfold OwnB at this; rw [hLen.out] at this; exact this))
          have hroom : Room (bs.take at_.toNat).length n.toNat 1 := room_of (by simp only [List.length_take]; omega) (by omega)
          have hsz8 := hfc8.out.sz
          go_wp2_with (at_builtin; refine wpList_append_any rfl _ _ rfl base u8_elem _ (bs.take at_.toNat).length ((bs.take at_.toNat).map B) rfl hown8.out _ A6 n.toNat c6 ((partB bs at_ n).map B) rfl hrd8.out (B_map_one _) hroom hsz8 ?_; intro v' w' ho' hg')
          have hown9 : Hid (OwnB w' base v' (bs.take (at_ + n).toNat)) := by
            rw [← take_part bs at_ n h0 hn0]
            exact own_cast ho' (by rw [List.length_append, hLen.out]) (by rw [List.map_append])
          have hfc9 := hide (hfc8.out.below (hg'.below hsz8 (own_ge hown8.out)))
          go_roundw
          case rel => exact ⟨k + 1, at_ + n, by go_num, by omega, by omega, by omega, hown9, by simpa using hfc9⟩
          case measure => simp [intOf] <;> omega
        · have hkk : k = ss.length := by omega
          clear hlt
          go_wp2_with fail
          refine (left_o g f 0 bs.length at_ _ (hide hfc.out.cu) h0 h1 (by omega)).mono ?_; rintro e w4 ⟨rfl, ho4⟩
          have hfc4 := hide (hfc.out.quiet ho4.out)
          have hown4 := hide (own_only2 ho.out ho4.out (by simp))
          have hpl : partB bs at_ (bs.length - at_) = bs.drop at_.toNat := by unfold partB; rw [List.take_of_length_le]; rw [List.length_drop]; omega
          have hlen : (bs.drop at_.toNat).length = bs.length - at_.toNat := List.length_drop
          go_wp2_with fail
          refine (take_ok g f c1 A1 bs k (-1) 0 bs.length at_ (bs.length - at_) _ (hide hfc4.out.fl_) (hide hfc4.out.cu) (by omega) (by omega) (by omega) h0 (by omega) (by omega) (by omega) (.inl (by omega))).mono ?_; rintro e w5 ⟨A5, c5, rfl, k1, k2, k3, k4⟩
          have hfc5 := hide (hfc4.out.only k4.out k2.out k3.out (by have := hfc4.out.cu.lt; simp; omega))
          have hown5 := hide (own_only hown4.out k4.out (by have := hfc4.out.cu.lt; have := hfc4.out.hi; simp; omega))
          rw [hpl] at k1 ⊢
          clear hpl
          obtain ⟨A6, c6, rfl, k6, _⟩ := own_form hown5.out
          have s1 := str_reads c6 (Reads.of_own hown5.out) w5 (fun _ => rfl)
          have s2 := str_reads c5 (Reads.of_own k1.out) w5 (fun _ => rfl)
          have s3 := str_reads cap (H.out.below hfc5.out.bel) w5 (fun _ => rfl)
          rw [show (bs.take at_.toNat).length = at_.toNat from by rw [List.length_take]; omega] at s1
          rw [hlen] at s2
          rw [hlen]
          have hcat : (⟨(bs.take at_.toNat).toArray⟩ : ByteArray) ++ ⟨(bs.drop at_.toNat).toArray⟩ = ⟨bs.toArray⟩ := by
            apply ByteArray.ext
            rw [ByteArray.data_append]
            simp
          go_wp2_with fail
          refine (left_o g f 0 bs.length bs.length w5 (by have h := k3.out; rw [show at_ + ((bs.length : Int) - at_) = bs.length from by omega] at h; exact h) (by omega) (by omega) (by omega)).mono ?_; rintro e w6 ⟨rfl, ho6⟩
          rw [Int.sub_self]
          go_wp2_with fail
          go_ret
          exact ⟨rfl, (hfc5.out.quiet ho6.out).bel⟩
    · have hl3 : 40 < ss.length := by omega
      clear hl2
      go_enter Try.func3, Try.ntmps3
      go_wp2_with fail
      refine (awake_any _).mono ?_; rintro e w2 ⟨rfl, hb⟩
      have HB2 := hide hb; clear hb
      go_wp2_with fail
      go_ret
      exact ⟨rfl, HB2.out⟩
  · have hl3 : 300 < bs.length := by omega
    clear hl
    go_enter Try.func3, Try.ntmps3
    go_wp2_with fail
    refine (awake_any _).mono ?_; rintro e w2 ⟨rfl, hb⟩
    have HB2 := hide hb; clear hb
    go_wp2_with fail
    go_ret
    exact ⟨rfl, HB2.out⟩
end Go.Proofs.Ytiaigkpnhmgphaa
