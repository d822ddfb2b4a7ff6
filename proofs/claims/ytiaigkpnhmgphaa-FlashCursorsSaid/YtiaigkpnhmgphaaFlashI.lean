/-
  flash: FlashCursors: the law's walk.
-/
import Derived.Test.YtiaigkpnhmgphaaFlashH
import Derived.Test.YtiaigkpnhmgphaaLebT
import Derived.Test.YtiaigkpnhmgphaaLebLawS
import Derived.Test.YtiaigkpnhmgphaaOpens
namespace Go.Proofs.Ytiaigkpnhmgphaa
open Go.RowKit
set_option linter.unusedVariables false

/-- what is done with a cursor, as it lies -/
def actD (a : Int × Int × Unit) : List Value := [.int .u8 a.1] ++ ([.int .i64 a.2.1] ++ [])
def actOk (a : Int × Int × Unit) : Prop := (Lit.int .u8 a.1).wf = true ∧ (Lit.int .i64 a.2.1).wf = true ∧ True
theorem FlashCursors_o3 {H : Type} {enc : TypeId × Value → H} {w : World} : Opens enc Try.prog w 46 (fun s : Sl (Int × Int × Unit) => [s.val]) (Sl.Ok w actD 2 16 actOk) :=
  Opens.slice Try.underlying46 (by kernel_rfl) (by kernel_rfl) (by omega) (fun _ => rfl)
    (Opens.struct Try.underlying48 (by kernel_rfl) (OpensF.cons (k := 1) rfl (by kernel_rfl) (Opens.int Try.underlying5) (OpensF.cons (k := 1) rfl (by kernel_rfl) (Opens.int Try.underlying3) OpensF.nil)))

theorem act_at {w w' : World} {s : Sl (Int × Int × Unit)} (h : s.Ok w actD 2 16 actOk) (hb : Below w.heap.size w w') {i : Nat} (hi : i < s.l.length) :
    ∃ (ad : Addr) (k n : Int), s.at_ = some ad ∧ w'.cell? (ad.add (i * 2)) = some (.int .u8 k) ∧ w'.cell? ⟨(ad.add (i * 2)).block, (ad.add (i * 2)).off + 1, none⟩ = some (.int .i64 n) ∧ 0 ≤ k ∧ k ≤ 255 ∧ -9223372036854775808 ≤ n ∧ n ≤ 9223372036854775807 := by
  obtain ⟨ad, h1, _, h2⟩ := (h.reads.below hb).2 (by omega)
  have hg := List.getElem?_eq_getElem hi
  have c0 := flatMap_get (dec := actD) (size := 2) (fun _ => rfl) s.l i 0 _ hg (by omega)
  have c1 := flatMap_get (dec := actD) (size := 2) (fun _ => rfl) s.l i 1 _ hg (by omega)
  obtain ⟨k0, k1, _⟩ := h.all _ (List.getElem_mem hi)
  obtain ⟨k2, k3⟩ := u8_bd k0
  obtain ⟨k4, k5⟩ := i64_bd k1
  refine ⟨ad, (s.l[i]).1, (s.l[i]).2.1, h1, h2 _ _ (by simpa [actD] using c0), ?_, k2, k3, k4, k5⟩
  have := h2 _ _ (by simpa [actD] using c1 : (s.l.flatMap actD)[i * 2 + 1]? = some (.int .i64 (s.l[i]).2.1))
  rw [← add_of_add] at this
  exact this

/-- a flash that does not fail and a cursor in it, in a world that has them made since w0 -/
structure FX (w0 w : World) (f g c : Nat) (A : Option Addr) (bs : List UInt8) (r fr to at_ : Int) : Prop where
  fl_ : FL w f A c bs r (-1)
  cu : CU w g f fr to at_
  bel : Below w0.heap.size w0 w
  lo : w0.heap.size ≤ f
theorem FX.only {w0 w w' : World} {f g g' c : Nat} {A : Option Addr} {bs : List UInt8} {r fr to at_ r' fr' to' at' : Int} (h : FX w0 w f g c A bs r fr to at_) {S : List Nat} (ho : Only S w w') (hf : FL w' f A c bs r' (-1)) (hc : CU w' g' f fr' to' at') (hS : ∀ x, x ∈ S → f ≤ x) : FX w0 w' f g' c A bs r' fr' to' at' :=
  ⟨hf, hc, h.bel.trans (ho.below h.bel.size fun x hx => Nat.le_trans h.lo (hS x hx)), h.lo⟩
theorem FX.quiet {w0 w w' : World} {f g c : Nat} {A : Option Addr} {bs : List UInt8} {r fr to at_ : Int} (h : FX w0 w f g c A bs r fr to at_) (ho : Only [] w w') : FX w0 w' f g c A bs r fr to at_ :=
  h.only ho (h.fl_.keep ho (by simp) (by simp)) (h.cu.keep ho (by simp)) (by simp)
theorem FX.below {w0 w w' : World} {f g c : Nat} {A : Option Addr} {bs : List UInt8} {r fr to at_ : Int} (h : FX w0 w f g c A bs r fr to at_) (ho : Below w.heap.size w w') : FX w0 w' f g c A bs r fr to at_ :=
  h.only (S := []) (Only.of_below ho) (h.fl_.below ho (blk_lt h.fl_.blk)) (h.cu.below ho (blk_lt h.cu.blk)) (by simp)

set_option maxHeartbeats 800000 in
set_option maxRecDepth 100000 in
theorem part_wrong (g f : Nat) (fr to at_ n : Int) (w : World) (hc : Hid (CU w g f fr to at_)) (h1 : 0 ≤ at_) (h2 : at_ ≤ to) (h4 : to ≤ 1000000) (h3 : n < 0 ∨ to - at_ < n) :
    Calls Try.prog 11 #[.pointer (some ⟨g, 0, none⟩), .int .i64 n] w fun e w' => e = .returned (.tuple #[.pointer none, .int .i64 (wrongL n (to - at_))]) ∧ Hid (Only [] w w') := by
  have hwr := wrong_any g f fr to at_ n w hc h1 h2 h4
  obtain ⟨x, hx⟩ : ∃ x, wrongL n (to - at_) = x := ⟨_, rfl⟩
  have hx0 : 0 < x := by
    rw [← hx]; unfold wrongL; split
    · omega
    · rw [if_pos (by omega)]; omega
  rw [hx] at hwr ⊢
  have HW := hide hwr; clear hwr hx h3
  go_enter Try.func11, Try.ntmps11
  go_wp2_with fail
  refine HW.out.mono ?_; rintro e w1 ⟨rfl, d, rfl⟩
  go_wp2_with fail
  go_ret2
  exact ⟨rfl, Only.drewN _ _ _⟩
theorem take_wrong_o (g f : Nat) (fr to at_ n : Int) (w : World) (hc : Hid (CU w g f fr to at_)) (h1 : 0 ≤ at_) (h2 : at_ ≤ to) (h4 : to ≤ 1000000) (h3 : n < 0 ∨ to - at_ < n) :
    Calls Try.prog 12 #[.pointer (some ⟨g, 0, none⟩), .int .i64 n] w fun e w' => e = .returned (.tuple #[.slice none 0 0, .int .i64 (wrongL n (to - at_))]) ∧ Hid (Only [] w w') := by
  refine (take_wrong g f fr to at_ n w hc h1 h2 h4 h3).mono ?_
  rintro e w' ⟨rfl, d, rfl⟩
  exact ⟨rfl, Only.drewN _ _ _⟩

theorem reads_part {w : World} {Bk cap : Nat} {A : Option Addr} {bs : List UInt8} (h : Reads w Bk 1 A bs.length (bs.map B)) (hc : bs.length ≤ cap) (a n : Nat) (ha : a < cap) (hn : a + n ≤ bs.length) :
    Reads w Bk 1 (Option.map (fun x => x.add a) A) (partB bs a n).length ((partB bs a n).map B) := by
  have h1 := h.cut (k := a) (cap := cap) (by omega) hc
  rw [if_neg (by omega)] at h1
  have h2 := h1.upto (k := n) (by omega)
  rw [Nat.mul_one, Nat.mul_one] at h2
  have hl : (partB bs a n).length = n := by have := part_len bs a n (by omega) (by omega) (by omega); omega
  rw [hl]
  unfold partB
  rw [List.map_take, List.map_drop]
  exact h2

set_option maxHeartbeats 6400000 in
set_option maxRecDepth 100000 in
theorem FlashCursors_walk (A : Option Addr) (cap : Nat) (bs : List UInt8) (fr to : Int) (s : Sl (Int × Int × Unit)) (w : World) (hr : Reads w w.heap.size 1 A bs.length (bs.map B)) (hc : bs.length ≤ cap) (hm : cap ≤ maxLen) (wfr : (Lit.int .i64 fr).wf = true) (wto : (Lit.int .i64 to).wf = true) (ws : s.Ok w actD 2 16 actOk) :
    Calls Try.prog 6 #[.slice A bs.length cap, .int .i64 fr, .int .i64 to, s.val] w fun e w' => e = .returned (.bool true) ∧ Below w.heap.size w w' := by
  have H := hide hr; clear hr
  have hm' := hm
  have hsl := ws.len
  have hsc := ws.cap
  unfold maxLen at hm' hsc
  have WS := hide ws; clear ws
  obtain ⟨b1, b2⟩ := i64_bd wfr
  obtain ⟨b3, b4⟩ := i64_bd wto
  unfold Sl.val
  by_cases hl : bs.length ≤ 300
  · by_cases hl2 : s.l.length ≤ 40
    · by_cases hrange : 0 ≤ fr ∧ fr ≤ to ∧ to ≤ bs.length
      · obtain ⟨hr1, hr2, hr3⟩ := hrange
        go_enter Try.func6, Try.ntmps6
        go_wp2_with fail
        refine (awake_any _).mono ?_; rintro e w1 ⟨rfl, hb1⟩
        have HB1 := hide hb1; clear hb1
        go_wp2_with fail
        refine (new_any A cap w.heap.size bs w1 (H.out.below HB1.out) (by omega)).mono ?_; rintro e w2 ⟨f, A1, c1, rfl, hf0, hF, hB2⟩
        go_wp2_with fail
        refine (cursor_any f c1 A1 bs 0 (-1) fr to w2 hF (by omega) (by omega) (by omega)).mono ?_; rintro e w3 ⟨g, rfl, hg0, hC, hB3⟩
        have hs1 := HB1.out.size
        have hs2 := hB2.out.size
        have hfx : Hid (FX w w3 f g c1 A1 bs 0 fr to fr) := ⟨hF.out.below hB3.out (blk_lt hF.out.blk), hC.out, (HB1.out.trans (hB2.out.mono hs1)).trans (hB3.out.mono (by omega)), by omega⟩
        clear hF hC hB2 hB3 hg0 hs1 hs2
        go_wp2_with fail
        go_loopw [1, 2, 11, 13, 14] (fun fr' to' c' at' i w1 => ∃ (k g : Nat) (r a b d : Int), fr' = .int .i64 a ∧ to' = .int .i64 b ∧ c' = .pointer (some ⟨g, 0, none⟩) ∧ at' = .int .i64 d ∧ i = .int .i64 k ∧ k ≤ s.l.length ∧ 0 ≤ r ∧ r ≤ 11 * k ∧ 0 ≤ a ∧ a ≤ d ∧ d ≤ b ∧ b ≤ bs.length ∧ Hid (FX w w1 f g c1 A1 bs r a b d)) (fun _ _ _ _ i _ => s.l.length - (intOf i).toNat)
        case atStart => exact ⟨0, g, 0, fr, to, fr, rfl, rfl, rfl, rfl, rfl, by omega, by omega, by omega, by omega, by omega, by omega, by omega, hfx⟩
        case round =>
          obtain ⟨k, g, r, a, b, d, rfl, rfl, rfl, rfl, rfl, hk, hr0, hr11, ha, had, hdb, hb, hx⟩ := hrel
          by_cases hlt : k < s.l.length
          · obtain ⟨ad, kd, n, hat, hc0, hc1, hk0, hk1, hn0, hn1⟩ := act_at WS.out hx.out.bel hlt
            rw [hat]
            have HAT := hide hat; clear hat
            obtain ⟨dn, rfl⟩ : ∃ q : Nat, d = q := ⟨d.toNat, by omega⟩
            obtain ⟨bn, rfl⟩ : ∃ q : Nat, b = q := ⟨b.toNat, by omega⟩
            have hk6 : kd % 6 = 0 ∨ kd % 6 = 1 ∨ kd % 6 = 2 ∨ kd % 6 = 3 ∨ kd % 6 = 4 ∨ kd % 6 = 5 := by omega
            rcases hk6 with h6 | h6 | h6 | h6 | h6 | h6
            · as_aux_lemma =>
              go_wp2_with fail
              by_cases hd1 : dn < bn
              · as_aux_lemma =>
                obtain ⟨ad2, x, rfl, hxb, hxc, hx0, hx1⟩ := (H.out.below hx.out.bel).byte (k := dn) (by omega)
                refine (byte_ok g f c1 A1 bs r (-1) a bn dn x _ (hide hx.out.fl_) (hide hx.out.cu) (by omega) (by omega) (by omega) (by omega) (by omega) (by omega) (.inl (by omega)) hxb).mono ?_; rintro e w5 ⟨rfl, k2, k3, k4⟩
                have hx5 := hide (hx.out.only k4.out k2.out k3.out (by have := hx.out.cu.lt; simp; omega))
                have hxc5 := k4.out
                have hcell : w5.cell? (ad2.add dn) = some (.int .u8 x.toNat) := by
                  obtain ⟨ad3, x3, h3, hxb3, hxc3, _, _⟩ := (H.out.below hx5.out.bel).byte (k := dn) (by omega)
                  injection h3 with h3
                  subst h3
                  have : x3 = x := by have h4 := hxb3.out; rw [hxb.out] at h4; injection h4 with h4; exact h4.symm
                  rw [hxc3, this]
                clear hxc hxc5
                have hd2 : (dn : Int) + 1 ≤ bn := by omega
                have hle : ¬ ((bn : Int) - dn < 1) := by omega
                go_wp2_with fail
                refine (at_any g f a bn (dn + 1) _ (hide hx5.out.cu)).mono ?_; rintro e w6 ⟨rfl, rfl⟩
                go_wp2_with fail
                refine (left_o g f a bn (dn + 1) _ (hide hx5.out.cu) (by omega) (by omega) (by omega)).mono ?_; rintro e w7 ⟨rfl, ho7⟩
                have hx7 := hide (hx5.out.quiet ho7.out)
                go_wp2_with fail
                go_roundw
                case rel => exact ⟨k + 1, g, (r + 1), a, bn, (dn + 1), rfl, rfl, rfl, rfl, by go_num, by omega, by omega, by omega, by omega, by omega, by omega, by omega, hx7⟩
                case measure => simp [intOf] <;> omega
              · as_aux_lemma =>
                have hde : dn = bn := by omega
                subst hde
                clear hd1
                refine (byte_short_o g f a dn _ (hide hx.out.cu) (by omega) (by omega)).mono ?_; rintro e w5 ⟨rfl, ho5⟩
                have hx5 := hide (hx.out.quiet ho5.out)
                have hle : (dn : Int) - dn < 1 := by omega
                go_wp2_with fail
                refine (at_any g f a dn dn _ (hide hx5.out.cu)).mono ?_; rintro e w6 ⟨rfl, rfl⟩
                go_wp2_with fail
                refine (left_o g f a dn dn _ (hide hx5.out.cu) (by omega) (by omega) (by omega)).mono ?_; rintro e w7 ⟨rfl, ho7⟩
                have hx7 := hide (hx5.out.quiet ho7.out)
                go_wp2_with fail
                go_roundw
                case rel => exact ⟨k + 1, g, r, a, dn, dn, rfl, rfl, rfl, rfl, by go_num, by omega, by omega, by omega, by omega, by omega, by omega, by omega, hx7⟩
                case measure => simp [intOf] <;> omega
            · as_aux_lemma =>
              go_wp2_with fail
              by_cases hn9 : n < 0
              · as_aux_lemma =>
                have hw := take_wrong_o g f a bn dn n wr (hide hx.out.cu) (by omega) (by omega) (by omega) (.inl hn9)
                rw [show wrongL n ((bn : Int) - dn) = 1 from by unfold wrongL; rw [if_pos hn9]] at hw
                have HW := hide hw; clear hw
                refine HW.out.mono ?_; rintro e w5 ⟨rfl, ho5⟩
                have hx5 := hide (hx.out.quiet ho5.out)
                go_wp2_with fail
                refine (at_any g f a bn dn _ (hide hx5.out.cu)).mono ?_; rintro e w6 ⟨rfl, rfl⟩
                go_wp2_with fail
                refine (left_o g f a bn dn _ (hide hx5.out.cu) (by omega) (by omega) (by omega)).mono ?_; rintro e w7 ⟨rfl, ho7⟩
                have hx7 := hide (hx5.out.quiet ho7.out)
                go_wp2_with fail
                go_roundw
                case rel => exact ⟨k + 1, g, r, a, bn, dn, rfl, rfl, rfl, rfl, by go_num, by omega, by omega, by omega, by omega, by omega, by omega, by omega, hx7⟩
                case measure => simp [intOf] <;> omega
              · by_cases hnb : (bn : Int) - dn < n
                · as_aux_lemma =>
                  have hw := take_wrong_o g f a bn dn n wr (hide hx.out.cu) (by omega) (by omega) (by omega) (.inr hnb)
                  rw [show wrongL n ((bn : Int) - dn) = 3 from by unfold wrongL; rw [if_neg hn9, if_pos hnb]] at hw
                  have HW := hide hw; clear hw
                  refine HW.out.mono ?_; rintro e w5 ⟨rfl, ho5⟩
                  have hx5 := hide (hx.out.quiet ho5.out)
                  go_wp2_with fail
                  refine (at_any g f a bn dn _ (hide hx5.out.cu)).mono ?_; rintro e w6 ⟨rfl, rfl⟩
                  go_wp2_with fail
                  refine (left_o g f a bn dn _ (hide hx5.out.cu) (by omega) (by omega) (by omega)).mono ?_; rintro e w7 ⟨rfl, ho7⟩
                  have hx7 := hide (hx5.out.quiet ho7.out)
                  go_wp2_with fail
                  go_roundw
                  case rel => exact ⟨k + 1, g, r, a, bn, dn, rfl, rfl, rfl, rfl, by go_num, by omega, by omega, by omega, by omega, by omega, by omega, by omega, hx7⟩
                  case measure => simp [intOf] <;> omega
                · obtain ⟨nn, rfl⟩ : ∃ q : Nat, n = q := ⟨n.toNat, by omega⟩
                  have hnb' : dn + nn ≤ bn := by omega
                  refine (take_ok g f c1 A1 bs r (-1) a bn dn nn _ (hide hx.out.fl_) (hide hx.out.cu) (by omega) (by omega) (by omega) (by omega) (by omega) (by omega) (by omega) (.inl (by omega))).mono ?_; rintro e w5 ⟨A5, c5, rfl, k1, k2, k3, k4⟩
                  have hx5 := hide (hx.out.only k4.out k2.out k3.out (by have := hx.out.cu.lt; simp; omega))
                  have hlen : (partB bs dn nn).length = nn := by have := part_len bs dn nn (by omega) (by omega) (by omega); omega
                  have hrd0 := H.out.below hx5.out.bel
                  by_cases hcap : dn < cap
                  · as_aux_lemma =>
                    have hrd : Reads w5 w.heap.size 1 (Option.map (fun x => x.add dn) A) (partB bs dn nn).length ((partB bs dn nn).map B) := reads_part hrd0 hc dn nn hcap (by omega)
                    have s1 : ∀ N, (convert 22 9 (.slice A5 (partB bs dn nn).length c5)).run Try.prog (w5.drewN N) = .ok (.string ⟨(partB bs dn nn).toArray⟩) (w5.drewN N) := fun N => str_reads c5 (Reads.of_own k1.out) _ (fun _ => rfl)
                    have s2 : ∀ N, (convert 22 9 (.slice (Option.map (fun x => x.add dn) A) (partB bs dn nn).length (cap - dn))).run Try.prog (w5.drewN N) = .ok (.string ⟨(partB bs dn nn).toArray⟩) (w5.drewN N) := fun N => str_reads (cap - dn) hrd _ (fun _ => rfl)
                    rw [hlen] at s1 s2 ⊢
                    have HLEN := hide hlen; clear hlen hrd hrd0
                    go_wp2_with fail
                    go_quiet (fail)
                    rename_i nq
                    have hxq : ∀ N, Hid (FX w (w5.drewN N) f g c1 A1 bs (r + 1) a bn (dn + nn)) := fun N => hx5.out.quiet (Only.drewN [] w5 N)
                    have hxz := hxq nq
                    clear hxq s1 s2
                    go_wp2_with fail
                    refine (at_any g f a bn (dn + nn) _ (hide hxz.out.cu)).mono ?_; rintro e w7 ⟨rfl, rfl⟩
                    go_wp2_with fail
                    refine (left_o g f a bn (dn + nn) _ (hide hxz.out.cu) (by omega) (by omega) (by omega)).mono ?_; rintro e w8 ⟨rfl, ho8⟩
                    have hx8 := hide (hxz.out.quiet ho8.out)
                    go_wp2_with fail
                    go_roundw
                    case rel => exact ⟨k + 1, g, (r + 1), a, bn, (dn + nn), rfl, rfl, rfl, rfl, by go_num, by omega, by omega, by omega, by omega, by omega, by omega, by omega, hx8⟩
                    case measure => simp [intOf] <;> omega
                  · as_aux_lemma =>
                    have hdc : dn = cap := by omega
                    have hn0 : nn = 0 := by omega
                    subst hn0
                    subst hdc
                    clear hcap hlen hrd0
                    have hnil : partB bs dn 0 = [] := by unfold partB; simp
                    rw [show (((0 : Nat) : Int)) = 0 from rfl] at hx5 k1 ⊢
                    rw [hnil] at k1 ⊢
                    clear hnil
                    have s1 : ∀ N, (convert 22 9 (.slice A5 0 c5)).run Try.prog (w5.drewN N) = .ok (.string ⟨#[]⟩) (w5.drewN N) := fun N => str_reads c5 (Reads.of_own k1.out) _ (fun _ => rfl)
                    have s2 : ∀ N, (convert 22 9 (.slice A 0 0)).run Try.prog (w5.drewN N) = .ok (.string ⟨#[]⟩) (w5.drewN N) := fun N => str_reads (bs := []) (w := w5) (Bk := 0) 0 ⟨rfl, fun h => absurd h (Nat.lt_irrefl 0)⟩ _ (fun _ => rfl)
                    rw [Int.add_zero] at hx5
                    simp only [List.length_nil]
                    go_wp2_with fail
                    go_quiet (fail)
                    rename_i nq
                    have hxq : ∀ N, Hid (FX w (w5.drewN N) f g c1 A1 bs (r + 1) a bn dn) := fun N => hx5.out.quiet (Only.drewN [] w5 N)
                    have hxz := hxq nq
                    clear hxq s1 s2
                    go_wp2_with fail
                    refine (at_any g f a bn dn _ (hide hxz.out.cu)).mono ?_; rintro e w7 ⟨rfl, rfl⟩
                    go_wp2_with fail
                    refine (left_o g f a bn dn _ (hide hxz.out.cu) (by omega) (by omega) (by omega)).mono ?_; rintro e w8 ⟨rfl, ho8⟩
                    have hx8 := hide (hxz.out.quiet ho8.out)
                    go_wp2_with fail
                    go_roundw
                    case rel => exact ⟨k + 1, g, (r + 1), a, bn, dn, rfl, rfl, rfl, rfl, by go_num, by omega, by omega, by omega, by omega, by omega, by omega, by omega, hx8⟩
                    case measure => simp [intOf] <;> omega
            · as_aux_lemma =>
              go_wp2_with fail
              refine (cur_unsigned g f c1 A1 bs r (-1) a bn dn n _ (hide hx.out.fl_) (hide hx.out.cu) (by omega) (by omega) (by omega) (by omega) (by omega) (by omega)).mono ?_; rintro e w5 ⟨e', r', dd, v', rfl, k1, k2, k3, k4, k5, k6⟩
              have hx5 := hide (hx.out.only k3.out k1.out k2.out (by have := hx.out.cu.lt; simp; omega))
              have hpl := part_len bs dn (bn - dn) (by omega) (by omega) (by omega)
              have hcs := unsigned_cases (partB bs dn (bn - dn)) n
              obtain ⟨v, q, e0, HR⟩ : ∃ v q e0, Hid (unsignedL (partB bs dn (bn - dn)) n = (v, q, e0)) := ⟨_, _, _, rfl⟩
              rw [HR.out] at hcs k6
              have h6 : e' = e0 ∧ dd = q ∧ v' = v := by
                rcases k6.out with h | ⟨_, _, _, h, _⟩
                · exact h
                · omega
              obtain ⟨rfl, rfl, rfl⟩ := h6
              rw [unsigned_law] at HR
              have hqn : dn + q ≤ bn := by rcases hcs with ⟨_, _, h⟩ | ⟨_, _, h⟩ <;> (simp only at h; omega)
              have hlen : (partB bs dn (bn - dn)).length = bn - dn := by omega
              clear hcs hpl k6 k1 k2 k3
              have hrd0 := H.out.below hx5.out.bel
              by_cases hcap : dn < cap
              · as_aux_lemma =>
                have hrd : Reads w5 w5.heap.size 1 (Option.map (fun x => x.add dn) A) (partB bs dn (bn - dn)).length ((partB bs dn (bn - dn)).map B) := by
                  have := (reads_part hrd0 hc dn (bn - dn) hcap (by omega)).more hx5.out.bel.size
                  rwa [show ((bn - dn : Nat) : Int) = bn - dn from by omega] at this
                rw [hlen] at hrd
                clear hrd0
                have hru := refUnsigned_any (Option.map (fun x => x.add dn) A) (cap - dn) (partB bs dn (bn - dn)) n w5 (hide (by rw [hlen]; exact hrd)) (by omega) v' q e0 HR
                rw [hlen] at hru
                have HRU := hide hru; clear hru hrd
                have HLEN := hide hlen; clear hlen
                go_wp2_with fail
                refine HRU.out.mono ?_; rintro e w6 ⟨rfl, hb6⟩
                have hx6 := hide (hx5.out.below hb6)
                clear hb6
                go_wp2_with fail
                refine (at_any g f a bn (dn + q) _ (hide hx6.out.cu)).mono ?_; rintro e w7 ⟨rfl, rfl⟩
                go_wp2_with fail
                refine (left_o g f a bn (dn + q) _ (hide hx6.out.cu) (by omega) (by omega) (by omega)).mono ?_; rintro e w8 ⟨rfl, ho8⟩
                have hx8 := hide (hx6.out.quiet ho8.out)
                go_wp2_with fail
                go_roundw
                case rel => exact ⟨k + 1, g, r', a, bn, (dn + q), rfl, rfl, rfl, rfl, by go_num, by omega, by omega, by omega, by omega, by omega, by omega, by omega, hx8⟩
                case measure => simp [intOf] <;> omega
              · as_aux_lemma =>
                have hdc : dn = cap := by omega
                have hbd : bn = cap := by omega
                subst hbd
                subst hdc
                have hnil : partB bs dn (dn - dn) = [] := List.eq_nil_of_length_eq_zero (by omega)
                rw [hnil] at HR
                have HRU := hide (refUnsigned_any A 0 [] n w5 (hide Reads.none_) (by simp) v' q e0 HR)
                clear hnil hlen hrd0 hcap
                go_wp2_with fail
                refine HRU.out.mono ?_; rintro e w6 ⟨rfl, hb6⟩
                have hx6 := hide (hx5.out.below hb6)
                clear hb6
                go_wp2_with fail
                refine (at_any g f a dn (dn + q) _ (hide hx6.out.cu)).mono ?_; rintro e w7 ⟨rfl, rfl⟩
                go_wp2_with fail
                refine (left_o g f a dn (dn + q) _ (hide hx6.out.cu) (by omega) (by omega) (by omega)).mono ?_; rintro e w8 ⟨rfl, ho8⟩
                have hx8 := hide (hx6.out.quiet ho8.out)
                go_wp2_with fail
                go_roundw
                case rel => exact ⟨k + 1, g, r', a, dn, (dn + q), rfl, rfl, rfl, rfl, by go_num, by omega, by omega, by omega, by omega, by omega, by omega, by omega, hx8⟩
                case measure => simp [intOf] <;> omega
            · as_aux_lemma =>
              go_wp2_with fail
              refine (cur_signed g f c1 A1 bs r (-1) a bn dn n _ (hide hx.out.fl_) (hide hx.out.cu) (by omega) (by omega) (by omega) (by omega) (by omega) (by omega)).mono ?_; rintro e w5 ⟨e', r', dd, v', rfl, k1, k2, k3, k4, k5, k6⟩
              have hx5 := hide (hx.out.only k3.out k1.out k2.out (by have := hx.out.cu.lt; simp; omega))
              have hpl := part_len bs dn (bn - dn) (by omega) (by omega) (by omega)
              have hcs := signed_cases (partB bs dn (bn - dn)) n
              obtain ⟨v, q, e0, HR⟩ : ∃ v q e0, Hid (signedL (partB bs dn (bn - dn)) n = (v, q, e0)) := ⟨_, _, _, rfl⟩
              rw [HR.out] at hcs k6
              have h6 : e' = e0 ∧ dd = q ∧ v' = v := by
                rcases k6.out with h | ⟨_, _, _, h, _⟩
                · exact h
                · omega
              obtain ⟨rfl, rfl, rfl⟩ := h6
              rw [signed_law] at HR
              have hqn : dn + q ≤ bn := by rcases hcs with ⟨_, _, h⟩ | ⟨_, _, h⟩ <;> (simp only at h; omega)
              have hlen : (partB bs dn (bn - dn)).length = bn - dn := by omega
              clear hcs hpl k6 k1 k2 k3
              have hrd0 := H.out.below hx5.out.bel
              by_cases hcap : dn < cap
              · as_aux_lemma =>
                have hrd : Reads w5 w5.heap.size 1 (Option.map (fun x => x.add dn) A) (partB bs dn (bn - dn)).length ((partB bs dn (bn - dn)).map B) := by
                  have := (reads_part hrd0 hc dn (bn - dn) hcap (by omega)).more hx5.out.bel.size
                  rwa [show ((bn - dn : Nat) : Int) = bn - dn from by omega] at this
                rw [hlen] at hrd
                clear hrd0
                have hru := refSigned_any (Option.map (fun x => x.add dn) A) (cap - dn) (partB bs dn (bn - dn)) n w5 (hide (by rw [hlen]; exact hrd)) (by omega) v' q e0 HR
                rw [hlen] at hru
                have HRU := hide hru; clear hru hrd
                have HLEN := hide hlen; clear hlen
                go_wp2_with fail
                refine HRU.out.mono ?_; rintro e w6 ⟨rfl, hb6⟩
                have hx6 := hide (hx5.out.below hb6)
                clear hb6
                go_wp2_with fail
                refine (at_any g f a bn (dn + q) _ (hide hx6.out.cu)).mono ?_; rintro e w7 ⟨rfl, rfl⟩
                go_wp2_with fail
                refine (left_o g f a bn (dn + q) _ (hide hx6.out.cu) (by omega) (by omega) (by omega)).mono ?_; rintro e w8 ⟨rfl, ho8⟩
                have hx8 := hide (hx6.out.quiet ho8.out)
                go_wp2_with fail
                go_roundw
                case rel => exact ⟨k + 1, g, r', a, bn, (dn + q), rfl, rfl, rfl, rfl, by go_num, by omega, by omega, by omega, by omega, by omega, by omega, by omega, hx8⟩
                case measure => simp [intOf] <;> omega
              · as_aux_lemma =>
                have hdc : dn = cap := by omega
                have hbd : bn = cap := by omega
                subst hbd
                subst hdc
                have hnil : partB bs dn (dn - dn) = [] := List.eq_nil_of_length_eq_zero (by omega)
                rw [hnil] at HR
                have HRU := hide (refSigned_any A 0 [] n w5 (hide Reads.none_) (by simp) v' q e0 HR)
                clear hnil hlen hrd0 hcap
                go_wp2_with fail
                refine HRU.out.mono ?_; rintro e w6 ⟨rfl, hb6⟩
                have hx6 := hide (hx5.out.below hb6)
                clear hb6
                go_wp2_with fail
                refine (at_any g f a dn (dn + q) _ (hide hx6.out.cu)).mono ?_; rintro e w7 ⟨rfl, rfl⟩
                go_wp2_with fail
                refine (left_o g f a dn (dn + q) _ (hide hx6.out.cu) (by omega) (by omega) (by omega)).mono ?_; rintro e w8 ⟨rfl, ho8⟩
                have hx8 := hide (hx6.out.quiet ho8.out)
                go_wp2_with fail
                go_roundw
                case rel => exact ⟨k + 1, g, r', a, dn, (dn + q), rfl, rfl, rfl, rfl, by go_num, by omega, by omega, by omega, by omega, by omega, by omega, by omega, hx8⟩
                case measure => simp [intOf] <;> omega
            · as_aux_lemma =>
              go_wp2_with fail
              by_cases hin : a ≤ n ∧ n ≤ bn
              · as_aux_lemma =>
                obtain ⟨hin1, hin2⟩ := hin
                refine (go_ok g f a bn dn n _ (hide hx.out.cu) hin1 hin2).mono ?_; rintro e w5 ⟨rfl, k3, k4⟩
                have hx5 := hide (hx.out.only k4.out (hx.out.fl_.keep k4.out (by have := hx.out.cu.lt; simp; omega) (by have := hx.out.cu.lt; simp; omega)) k3.out (by have := hx.out.cu.lt; simp; omega))
                go_wp2_with fail
                refine (at_any g f a bn n _ (hide hx5.out.cu)).mono ?_; rintro e w6 ⟨rfl, rfl⟩
                go_wp2_with fail
                refine (left_o g f a bn n _ (hide hx5.out.cu) (by omega) (by omega) (by omega)).mono ?_; rintro e w7 ⟨rfl, ho7⟩
                have hx7 := hide (hx5.out.quiet ho7.out)
                go_wp2_with fail
                go_roundw
                case rel => exact ⟨k + 1, g, r, a, bn, n, rfl, rfl, rfl, rfl, by go_num, by omega, by omega, by omega, by omega, by omega, by omega, by omega, hx7⟩
                case measure => simp [intOf] <;> omega
              · as_aux_lemma =>
                have hin' : n < a ∨ (bn : Int) < n := by omega
                refine (go_no g f a bn dn n _ (hide hx.out.cu) hin').mono ?_; rintro e w5 ⟨rfl, rfl⟩
                clear hin
                by_cases hna : n < a
                · clear hin'
                  go_wp2_with fail
                  refine (at_any g f a bn dn _ (hide hx.out.cu)).mono ?_; rintro e w6 ⟨rfl, rfl⟩
                  go_wp2_with fail
                  refine (left_o g f a bn dn _ (hide hx.out.cu) (by omega) (by omega) (by omega)).mono ?_; rintro e w7 ⟨rfl, ho7⟩
                  have hx7 := hide (hx.out.quiet ho7.out)
                  go_wp2_with fail
                  go_roundw
                  case rel => exact ⟨k + 1, g, r, a, bn, dn, rfl, rfl, rfl, rfl, by go_num, by omega, by omega, by omega, by omega, by omega, by omega, by omega, hx7⟩
                  case measure => simp [intOf] <;> omega
                · as_aux_lemma =>
                  have hnb : (bn : Int) < n := by omega
                  clear hin'
                  go_wp2_with fail
                  refine (at_any g f a bn dn _ (hide hx.out.cu)).mono ?_; rintro e w6 ⟨rfl, rfl⟩
                  go_wp2_with fail
                  refine (left_o g f a bn dn _ (hide hx.out.cu) (by omega) (by omega) (by omega)).mono ?_; rintro e w7 ⟨rfl, ho7⟩
                  have hx7 := hide (hx.out.quiet ho7.out)
                  go_wp2_with fail
                  go_roundw
                  case rel => exact ⟨k + 1, g, r, a, bn, dn, rfl, rfl, rfl, rfl, by go_num, by omega, by omega, by omega, by omega, by omega, by omega, by omega, hx7⟩
                  case measure => simp [intOf] <;> omega
            · as_aux_lemma =>
              go_wp2_with fail
              by_cases hn9 : n < 0
              · as_aux_lemma =>
                have hw := part_wrong g f a bn dn n wr (hide hx.out.cu) (by omega) (by omega) (by omega) (.inl hn9)
                rw [show wrongL n ((bn : Int) - dn) = 1 from by unfold wrongL; rw [if_pos hn9]] at hw
                have HW := hide hw; clear hw
                refine HW.out.mono ?_; rintro e w5 ⟨rfl, ho5⟩
                have hx5 := hide (hx.out.quiet ho5.out)
                go_wp2_with fail
                refine (at_any g f a bn dn _ (hide hx5.out.cu)).mono ?_; rintro e w6 ⟨rfl, rfl⟩
                go_wp2_with fail
                refine (left_o g f a bn dn _ (hide hx5.out.cu) (by omega) (by omega) (by omega)).mono ?_; rintro e w7 ⟨rfl, ho7⟩
                have hx7 := hide (hx5.out.quiet ho7.out)
                go_wp2_with fail
                go_roundw
                case rel => exact ⟨k + 1, g, r, a, bn, dn, rfl, rfl, rfl, rfl, by go_num, by omega, by omega, by omega, by omega, by omega, by omega, by omega, hx7⟩
                case measure => simp [intOf] <;> omega
              · by_cases hnb : (bn : Int) - dn < n
                · as_aux_lemma =>
                  have hw := part_wrong g f a bn dn n wr (hide hx.out.cu) (by omega) (by omega) (by omega) (.inr hnb)
                  rw [show wrongL n ((bn : Int) - dn) = 3 from by unfold wrongL; rw [if_neg hn9, if_pos hnb]] at hw
                  have HW := hide hw; clear hw
                  refine HW.out.mono ?_; rintro e w5 ⟨rfl, ho5⟩
                  have hx5 := hide (hx.out.quiet ho5.out)
                  go_wp2_with fail
                  refine (at_any g f a bn dn _ (hide hx5.out.cu)).mono ?_; rintro e w6 ⟨rfl, rfl⟩
                  go_wp2_with fail
                  refine (left_o g f a bn dn _ (hide hx5.out.cu) (by omega) (by omega) (by omega)).mono ?_; rintro e w7 ⟨rfl, ho7⟩
                  have hx7 := hide (hx5.out.quiet ho7.out)
                  go_wp2_with fail
                  go_roundw
                  case rel => exact ⟨k + 1, g, r, a, bn, dn, rfl, rfl, rfl, rfl, by go_num, by omega, by omega, by omega, by omega, by omega, by omega, by omega, hx7⟩
                  case measure => simp [intOf] <;> omega
                · as_aux_lemma =>
                  have hnb' : (dn : Int) + n ≤ bn := by omega
                  refine (part_ok g f a bn dn n _ (hide hx.out.cu) (by omega) (by omega) (by omega) (by omega)).mono ?_; rintro e w5 ⟨p, rfl, hp0, hp, hg5, ho5⟩
                  have hx5 := hide (hx.out.only ho5.out (hx.out.fl_.keep ho5.out (by have := hx.out.cu.lt; simp; omega) (by have := hx.out.cu.lt; simp; omega)) hg5.out (by have := hx.out.cu.lt; simp; omega))
                  have hxp := hide (hx.out.only ho5.out (hx.out.fl_.keep ho5.out (by have := hx.out.cu.lt; simp; omega) (by have := hx.out.cu.lt; simp; omega)) hp.out (by have := hx.out.cu.lt; simp; omega))
                  go_wp2_with fail
                  refine (at_any g f a bn (dn + n) _ (hide hx5.out.cu)).mono ?_; rintro e w5' ⟨rfl, rfl⟩
                  go_wp2_with fail
                  refine (at_any p f dn (dn + n) dn _ (hide hxp.out.cu)).mono ?_; rintro e w6 ⟨rfl, rfl⟩
                  go_wp2_with fail
                  refine (left_o p f dn (dn + n) dn _ (hide hxp.out.cu) (by omega) (by omega) (by omega)).mono ?_; rintro e w7 ⟨rfl, ho7⟩
                  have hx7 := hide (hxp.out.quiet ho7.out)
                  go_wp2_with fail
                  go_roundw
                  case rel => exact ⟨k + 1, p, r, dn, (dn + n), dn, rfl, rfl, rfl, rfl, by go_num, by omega, by omega, by omega, by omega, by omega, by omega, by omega, hx7⟩
                  case measure => simp [intOf] <;> omega
          · have hkk : k = s.l.length := by omega
            clear hlt
            go_wp2_with fail
            go_ret
            exact ⟨rfl, hx.out.bel⟩
      · have hrange' : fr < 0 ∨ to < fr ∨ (bs.length : Int) < to := by omega
        clear hrange
        go_enter Try.func6, Try.ntmps6
        go_wp2_with fail
        refine (awake_any _).mono ?_; rintro e w1 ⟨rfl, hb1⟩
        have HB1 := hide hb1; clear hb1
        go_wp2_with fail
        refine (new_any A cap w.heap.size bs w1 (H.out.below HB1.out) (by omega)).mono ?_; rintro e w2 ⟨f, A1, c1, rfl, hf0, hF, hB2⟩
        go_wp2_with fail
        refine (cursor_no f c1 A1 bs 0 (-1) fr to w2 hF hrange').mono ?_; rintro e w3 ⟨rfl, rfl⟩
        have hs1 := HB1.out.size
        have hbel := hide (HB1.out.trans (hB2.out.mono hs1))
        clear hB2 HB1 hs1
        by_cases h7 : fr < 0
        · clear hrange'
          go_wp2_with fail
          go_ret
          exact ⟨rfl, hbel.out⟩
        · by_cases h8 : to < fr
          · clear hrange'
            go_wp2_with fail
            go_ret
            exact ⟨rfl, hbel.out⟩
          · have h9 : (bs.length : Int) < to := by omega
            clear hrange'
            go_wp2_with fail
            go_ret
            exact ⟨rfl, hbel.out⟩
    · have hl3 : 40 < s.l.length := by omega
      clear hl2
      go_enter Try.func6, Try.ntmps6
      go_wp2_with fail
      refine (awake_any _).mono ?_; rintro e w2 ⟨rfl, hb⟩
      have HB2 := hide hb; clear hb
      go_wp2_with fail
      go_ret
      exact ⟨rfl, HB2.out⟩
  · have hl3 : 300 < bs.length := by omega
    clear hl
    go_enter Try.func6, Try.ntmps6
    go_wp2_with fail
    refine (awake_any _).mono ?_; rintro e w2 ⟨rfl, hb⟩
    have HB2 := hide hb; clear hb
    go_wp2_with fail
    go_ret
    exact ⟨rfl, HB2.out⟩
end Go.Proofs.Ytiaigkpnhmgphaa
