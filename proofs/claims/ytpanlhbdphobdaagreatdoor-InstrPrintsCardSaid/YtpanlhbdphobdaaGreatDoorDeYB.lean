/-
  Law 11: the document's Print: contract. (Written by wip/gen-insv.py.)
-/
import Derived.Test.YtpanlhbdphobdaaGreatDoorDeBR
import Derived.Test.YtpanlhbdphobdaaGreatDoorDeYA
namespace Go.Proofs.YtpanlhbdphobdaaGreatDoor
open Go.RowKit
set_option linter.unusedVariables false

theorem join_cat : ∀ (ts : List (List UInt8)) (x : List UInt8), Lib.join (x :: ts) [32] = x ++ ts.flatMap (fun y => 32 :: y) := by
  intro ts
  induction ts with
  | nil => intro x; simp [Lib.join_one]
  | cons y r ih => intro x; rw [join2, ih y]; simp
def tl (n : Nat) : List UInt8 := 32 :: digL 10 n
theorem tls_len : ∀ ls : List Nat, (∀ n ∈ ls, n < 18446744073709551616) → (ls.flatMap tl).length ≤ 21 * ls.length := by
  intro ls
  induction ls with
  | nil => intro _; simp
  | cons n r ih =>
    intro h
    have h1 := digL10_len n (by have := h n (by simp); omega)
    have h2 := ih (fun m hm => h m (by simp [hm]))
    rw [List.flatMap_cons, List.length_append, List.length_cons]
    unfold tl at *
    simp only [List.length_cons]
    omega
theorem tls_take {ls : List Nat} {k n : Nat} (h : ls[k]? = some n) : (ls.take (k + 1)).flatMap tl = (ls.take k).flatMap tl ++ (32 :: digL 10 n) := by
  rw [List.take_add_one, h, List.flatMap_append]
  simp [tl]
theorem itoa_lenB (a : Int) (h0 : -9223372036854775808 ≤ a) (h1 : a ≤ 9223372036854775807) : (Lib.itoa a).length ≤ 21 := by
  by_cases h : 0 ≤ a
  · obtain ⟨m, rfl⟩ : ∃ m : Nat, a = m := ⟨a.toNat, by omega⟩
    rw [itoa_pos]
    have := digL10_len m (by omega)
    omega
  · obtain ⟨m, rfl⟩ : ∃ m : Nat, a = -(m : Int) := ⟨(-a).toNat, by omega⟩
    rw [itoa_neg' m (by omega)]
    have := digL10_len m (by omega)
    simp only [List.length_cons]
    omega
/-- what the document's Print leaves -/
def RefPrP (x : XI) (w : World) (e : Ending) (w' : World) : Prop := e = .returned (.string ⟨(printX x).toArray⟩) ∧ Hid (Below w.heap.size w w')
theorem RefPrP.mk' {x : XI} {w w' : World} {ys : List UInt8} (he : printX x = ys) (h : Hid (Below w.heap.size w w')) : RefPrP x w (.returned (.string ⟨ys.toArray⟩)) w' := ⟨by rw [he], h⟩

set_option maxRecDepth 100000 in
set_option maxHeartbeats 20000000 in
theorem refPrint11_any (x : XI) (A : Option Addr) (cl : Nat) (w : World) (hx : Hid x.In) (hr : Hid (Reads w w.heap.size 1 A x.l.length (x.l.map U))) (hl : x.l.length ≤ 1000000) (hq : Hid (rightX x = true)) :
    Calls Tryz.prog 13 #[.agg #[.int .i64 x.code, .int .u64 (x.a : Int), .int .u64 (x.b : Int), .int .i64 x.al, .slice A x.l.length cl]] w (RefPrP x w) := by
  obtain ⟨r, hor, hmem, hnm, hform, hcode, hrf⟩ := right_name hq.out
  obtain ⟨W, hW⟩ : ∃ W, w.alloc (.cells #[.int .i64 x.code, .int .u64 (x.a : Int), .int .u64 (x.b : Int), .int .i64 x.al, .slice A x.l.length cl] 25) = W := ⟨_, rfl⟩
  obtain ⟨g, hg⟩ : ∃ g, w.heap.size = g := ⟨_, rfl⟩
  have hb : Below g w W := by rw [← hW, ← hg]; exact (Below.refl _ _).alloc (Nat.le_refl _) _
  have hv : RXV W g x A cl := by rw [← hW, ← hg]; exact rxv_new w x A cl
  have hgW : W.heap.size = g + 1 := by rw [← hW, ← hg]; simp
  have hrW : Hid (Reads W W.heap.size 1 A x.l.length (x.l.map U)) := by have := hr.out; rw [hg] at this; exact (this.below hb).more (by omega)
  have HFO := hide (fun W => refForm_any x.code W hx.out.c1 hx.out.c2)
  have hnl : (nameOf x.code).length ≤ 20 := by rw [hnm]; exact (names_txt r hmem).2.1
  have hrn : refName x.code = ⟨(nameOf x.code).toArray⟩ := by rw [hnm, ← (opRow_ref hor).1]
  have HNM := hide (refName_any x.code W hx.out.c1 hx.out.c2)
  rw [hrn] at HNM
  have HP : Hid (printX x = nameOf x.code ++ (toldX x).flatMap (fun y => 32 :: y)) := by show _ = _; unfold printX; rw [if_pos hq.out, join_cat]
  have HQ : Hid (toldX x = (if refForm x.code = 1 then (if x.a = 64 then [] else [nameL (UInt8.ofNat x.a)])
  else if refForm x.code = 2 ∨ refForm x.code = 4 ∨ refForm x.code = 6 ∨ refForm x.code = 7 ∨ refForm x.code = 9 then [digL 10 x.a]
  else if refForm x.code = 3 then (x.l.map (digL 10) ++ [digL 10 x.a])
  else if refForm x.code = 5 ∨ refForm x.code = 10 then [digL 10 x.a, digL 10 x.b]
  else if refForm x.code = 8 then [digL 10 x.a, digL 10 x.b, digL 10 x.al.toNat]
  else if refForm x.code = 11 then [Lib.itoa (signV (if x.code = 66 then 64 else 32) x.a)]
  else [])) := by show _ = _; unfold toldX; simp only [List.map_append, List.map_cons, List.map_nil]
  have hfb := refForm_bd x.code
  have HF11 := hide (form11 (c := x.code))
  have ha64 := hx.out.a
  have hb64 := hx.out.b
  have HLL := hide hx.out.l
  have la := digL10_len x.a (by omega)
  have lb := digL10_len x.b (by omega)
  obtain ⟨l0, l1, l2, l3, l4⟩ := hv.cs
  have HW := hide hW; have HB := hide hb; have HG := hide hg; have HX := hide hv; have HRF := hide hrf
  have HGW : Hid (g < W.heap.size) := by show g < _; omega
  have HGW1 := hide hgW
  have FIN : ∀ V, Below W.heap.size W V → Below w.heap.size w V := fun V h => by rw [HG.out]; exact HB.out.trans (h.mono (by have := HGW.out; omega))
  have HFIN := hide FIN
  clear FIN hb hW hg hv hr hq hgW hor hmem hform hcode hrf hrn hnm
  generalize nameOf x.code = nm at *
  go_enter Tryz.func13, Tryz.ntmps13
  go_upto_region 1 with fail
  rw [HW.out, HG.out]
  go_wp2_with fail
  refine HNM.out.mono ?_; rintro e w1 ⟨rfl, h1⟩
  have HB1 : Hid (Below W.heap.size W w1) := h1
  clear l0 l1 l2 l3 l4 HNM
  go_upto_region 2 with fail
  refine wp_region_factsR grew_ext (factsOf [fun yy _ => yy = .pointer (some ⟨g, 1, none⟩),
    fun yy _ => yy = .int .u64 (x.a : Int),
    fun yy _ => yy = .string ⟨(digL 10 x.a).toArray⟩,
    fun yy _ => yy = .string ⟨(32 :: digL 10 x.a).toArray⟩,
    fun yy _ => yy = .pointer (some ⟨g, 2, none⟩),
    fun yy _ => yy = .int .u64 (x.b : Int),
    fun yy _ => yy = .string ⟨(digL 10 x.b).toArray⟩,
    fun yy _ => yy = .string ⟨(32 :: digL 10 x.b).toArray⟩,
    fun yy _ => yy = .string ⟨(32 :: digL 10 x.a).toArray⟩,
    fun yy _ => yy = .string ⟨(32 :: digL 10 x.b).toArray⟩]) (by kernel_rfl) (by kernel_rfl) ?_ ?_
  · refine ⟨?_, ?_, ?_, ?_, ?_, ?_, ?_, ?_, ?_, ?_, trivial⟩
    · refine ⟨fun ρ W3 hk => ?_⟩
      have o1 : ρ (.tmp 1) = .pointer (some ⟨g, 0, none⟩) := hk.old 1 (by decide)
      exact OpOut.fieldAddr (x := .tmp 1) rfl o1 (by go_simp) ⟨Below.refl _ _, rfl⟩
    · refine ⟨fun ρ W3 hk => ?_⟩
      have h0 := (hk.fact 0 10 (by decide) rfl).pure
      have hc := (HX.out.below (HB1.out.trans (hk.below.mono HB1.out.size)) HGW.out).cs.2.1
      exact OpOut.load (x := .tmp 10) rfl h0 (by go_simp) ⟨Below.refl _ _, rfl⟩
    · refine ⟨fun ρ W3 hk => ?_⟩
      have h1 := (hk.fact 1 11 (by decide) rfl).pure
      refine OpOut.fn (args := #[.int .u64 (x.a : Int), .int .u64 10]) rfl (hk.func _) (by simp [h1, hk.const]) Tryz.func40 (by kernel_rfl) rfl ?_
      refine (refDigits_10 x.a W3 (by omega)).mono ?_; rintro e w5 ⟨rfl, hb5⟩
      exact ⟨_, rfl, hb5, rfl⟩
    · refine ⟨fun ρ W3 hk => ?_⟩
      have h2 := (hk.fact 2 12 (by decide) rfl).pure
      exact OpOut.bin (x := .const (.string ⟨#[32]⟩)) (y := .tmp 12) (v := .string ⟨(32 :: digL 10 x.a).toArray⟩) rfl (by rw [h2, hk.const]; go_simp) (by rw [h2, hk.const]; exact run_cat [32] (digL 10 x.a) _ W3 (by simp; omega)) ⟨Below.refl _ _, rfl⟩
    · refine ⟨fun ρ W3 hk => ?_⟩
      have o1 : ρ (.tmp 1) = .pointer (some ⟨g, 0, none⟩) := hk.old 1 (by decide)
      exact OpOut.fieldAddr (x := .tmp 1) rfl o1 (by go_simp) ⟨Below.refl _ _, rfl⟩
    · refine ⟨fun ρ W3 hk => ?_⟩
      have h4 := (hk.fact 4 14 (by decide) rfl).pure
      have hc := (HX.out.below (HB1.out.trans (hk.below.mono HB1.out.size)) HGW.out).cs.2.2.1
      exact OpOut.load (x := .tmp 14) rfl h4 (by go_simp) ⟨Below.refl _ _, rfl⟩
    · refine ⟨fun ρ W3 hk => ?_⟩
      have h5 := (hk.fact 5 15 (by decide) rfl).pure
      refine OpOut.fn (args := #[.int .u64 (x.b : Int), .int .u64 10]) rfl (hk.func _) (by simp [h5, hk.const]) Tryz.func40 (by kernel_rfl) rfl ?_
      refine (refDigits_10 x.b W3 (by omega)).mono ?_; rintro e w5 ⟨rfl, hb5⟩
      exact ⟨_, rfl, hb5, rfl⟩
    · refine ⟨fun ρ W3 hk => ?_⟩
      have h6 := (hk.fact 6 16 (by decide) rfl).pure
      exact OpOut.bin (x := .const (.string ⟨#[32]⟩)) (y := .tmp 16) (v := .string ⟨(32 :: digL 10 x.b).toArray⟩) rfl (by rw [h6, hk.const]; go_simp) (by rw [h6, hk.const]; exact run_cat [32] (digL 10 x.b) _ W3 (by simp; omega)) ⟨Below.refl _ _, rfl⟩
    · refine ⟨fun ρ W3 hk => ?_⟩
      have h3 := (hk.fact 3 13 (by decide) rfl).pure
      exact OpOut.assign (.tmp 13) rfl ⟨Below.refl _ _, h3⟩
    · refine ⟨fun ρ W3 hk => ?_⟩
      have h7 := (hk.fact 7 17 (by decide) rfl).pure
      exact OpOut.assign (.tmp 17) rfl ⟨Below.refl _ _, h7⟩
  intro vs w2 hb hf
  have h8 := (hf 8 (by decide)).pure
  have h9 := (hf 9 (by decide)).pure
  clear hf
  simp only [fillL]
  go_frame
  rw [h8]
  rw [h9]
  have HB2 : Hid (Below W.heap.size W w2) := HB1.out.trans (hb.mono HB1.out.size)
  clear hb
  obtain ⟨l0, l1, l2, l3, l4⟩ := (HX.out.below HB2.out HGW.out).cs
  go_wp2_with fail
  refine (HFO.out _).mono ?_; rintro e w' ⟨rfl, rfl⟩
  generalize refForm x.code = f at hfb HQ HRF HF11 ⊢
  clear HFO
  generalize digL 10 x.a = da at la HQ ⊢
  generalize digL 10 x.b = db at lb HQ ⊢
  have k1 := fun V => run_cat nm (32 :: da) 9 V (by simp; omega)
  rcases hfb with rfl | rfl | rfl | rfl | rfl | rfl | rfl | rfl | rfl | rfl | rfl | rfl
  · as_aux_lemma =>
      go_wp2_with fail
      go_ret
      exact RefPrP.mk' (ys := nm) (by rw [HP.out, HQ.out]; simp) (HFIN.out _ HB2.out)
  · as_aux_lemma =>
      have hbl : x.a = 64 ∨ x.a = 126 ∨ x.a = 127 := by
        have := HRF.out
        simp [rightF, blocked] at this
        omega
      have k2 := fun V => run_cat nm [32, 105, 51, 50] 9 V (by simp; omega)
      have k3 := fun V => run_cat nm [32, 105, 54, 52] 9 V (by simp; omega)
      rcases hbl with hk | hk | hk
      · rw [hk] at l1
        have HK := hide hk
        clear hk
        go_wp2_with fail
        go_ret
        exact RefPrP.mk' (ys := nm) (by rw [HP.out, HQ.out]; simp [HK.out]) (HFIN.out _ HB2.out)
      · rw [hk] at l1
        have HK := hide hk
        clear hk
        go_wp2_with fail
        go_ret
        exact RefPrP.mk' (ys := nm ++ [32, 105, 54, 52]) (by rw [HP.out, HQ.out]; simp [HK.out]; decide) (HFIN.out _ HB2.out)
      · rw [hk] at l1
        have HK := hide hk
        clear hk
        go_wp2_with fail
        go_ret
        exact RefPrP.mk' (ys := nm ++ [32, 105, 51, 50]) (by rw [HP.out, HQ.out]; simp [HK.out]; decide) (HFIN.out _ HB2.out)
  · as_aux_lemma =>
      go_wp2_with fail
      go_ret
      exact RefPrP.mk' (ys := nm ++ (32 :: da)) (by rw [HP.out, HQ.out]; simp) (HFIN.out _ HB2.out)
  · as_aux_lemma =>
      have hl100 : x.l.length ≤ 100 := by
        have := HRF.out
        simp [rightF] at this
        omega
      clear k1
      go_wp2_with fail
      go_loopw [3, 6] (fun s i w1 => ∃ k : Nat, i = .int .i64 k ∧ k ≤ x.l.length ∧ s = .string ⟨(nm ++ (x.l.take k).flatMap tl).toArray⟩ ∧ Hid (Below W.heap.size W w1)) (fun _ i _ => x.l.length - (intOf i).toNat)
      case atStart => exact ⟨0, rfl, by omega, by simp, HB2⟩
      case round =>
        obtain ⟨k, rfl, hk, rfl, ho⟩ := hrel
        clear l0 l1 l2 l3 l4
        obtain ⟨l0, l1, l2, l3, l4⟩ := (HX.out.below ho.out HGW.out).cs
        by_cases hlt : k < x.l.length
        · have hrk : Reads wr W.heap.size 1 A x.l.length (x.l.map U) := hrW.out.below ho.out
          obtain ⟨ad, n, hA, hn, u0⟩ := hrk.elem (k := k) hlt
          subst hA
          unfold U at u0
          have hn64 : n < 18446744073709551616 := HLL.out n (List.mem_of_getElem? hn.out)
          have HPT := hide (tls_take hn.out)
          have hlen := tls_len (x.l.take k) (fun m hm => HLL.out m (List.mem_of_mem_take hm))
          rw [List.length_take] at hlen
          have HDG := hide (fun V => refDigits_10 n V (by omega))
          have lc := digL10_len n (by omega)
          generalize digL 10 n = dn at HDG lc HPT
          generalize (x.l.take k).flatMap tl = ys at hlen HPT ⊢
          have hki : (k : Int) < (x.l.length : Int) := by omega
          have k2 := fun V => run_cat (nm ++ ys) [32] 9 V (by simp; omega)
          have k3 := fun V => run_cat (nm ++ ys ++ [32]) dn 9 V (by simp; omega)
          clear hrk hn
          go_wp2_with fail
          refine (HDG.out _).mono ?_; rintro e w5 ⟨rfl, hb5⟩
          have HB5 : Hid (Below W.heap.size W w5) := ho.out.trans (hb5.mono ho.out.size)
          clear hb5 l0 l1 l2 l3 l4 u0
          go_wp2_with fail
          go_roundw
          case rel => exact ⟨k + 1, by go_num, by omega, by rw [HPT.out]; exact congrArg Value.string ((congrArg (· ++ (⟨dn.toArray⟩ : ByteArray)) (str_cat (nm ++ ys) [32])).trans ((str_cat _ dn).trans (by simp))), HB5⟩
          case measure => simp [intOf] <;> omega
        · have hk2 : k = x.l.length := by omega
          subst hk2
          have hlen := tls_len x.l HLL.out
          rw [List.take_length]
          have HTL : Hid ((x.l.map (digL 10)).flatMap (fun y => 32 :: y) = x.l.flatMap tl) := by show _ = _; rw [List.flatMap_map]; rfl
          generalize x.l.flatMap tl = ys at hlen HTL ⊢
          have k1 := fun V => run_cat (nm ++ ys) (32 :: da) 9 V (by simp; omega)
          clear hlt hk
          go_wp2_with fail
          go_ret
          exact RefPrP.mk' (ys := nm ++ ys ++ (32 :: da)) (by rw [HP.out, HQ.out]; simp [← HTL.out, List.flatMap_append]) (HFIN.out _ ho.out)
  · as_aux_lemma =>
      go_wp2_with fail
      go_ret
      exact RefPrP.mk' (ys := nm ++ (32 :: da)) (by rw [HP.out, HQ.out]; simp) (HFIN.out _ HB2.out)
  · as_aux_lemma =>
      have k2 := fun V => run_cat (nm ++ (32 :: da)) (32 :: db) 9 V (by simp; omega)
      go_wp2_with fail
      go_ret
      exact RefPrP.mk' (ys := nm ++ (32 :: da) ++ (32 :: db)) (by rw [HP.out, HQ.out]; simp) (HFIN.out _ HB2.out)
  · as_aux_lemma =>
      go_wp2_with fail
      go_ret
      exact RefPrP.mk' (ys := nm ++ (32 :: da)) (by rw [HP.out, HQ.out]; simp) (HFIN.out _ HB2.out)
  · as_aux_lemma =>
      go_wp2_with fail
      go_ret
      exact RefPrP.mk' (ys := nm ++ (32 :: da)) (by rw [HP.out, HQ.out]; simp) (HFIN.out _ HB2.out)
  · as_aux_lemma =>
      have hr8 := HRF.out
      simp [rightF, small] at hr8
      obtain ⟨al, hal⟩ : ∃ al : Nat, x.al = (al : Int) := ⟨x.al.toNat, by omega⟩
      have HALN : Hid (x.al.toNat = al) := by show _ = _; rw [hal]; rfl
      have hal31 : al ≤ 31 := by omega
      rw [hal] at l3
      have hwal : (al : Int) % 18446744073709551616 = (al : Int) := by omega
      have HDG := hide (fun V => refDigits_10 al V (by omega))
      have lc := digL10_len al (by omega)
      clear hal hr8
      generalize hdc : digL 10 al = dc at HDG lc
      have HDC := hide hdc
      clear hdc
      have k2 := fun V => run_cat (nm ++ (32 :: da)) (32 :: db) 9 V (by simp; omega)
      have k3 := fun V => run_cat (nm ++ (32 :: da) ++ (32 :: db)) [32] 9 V (by simp; omega)
      have k4 := fun V => run_cat (nm ++ (32 :: da) ++ (32 :: db) ++ [32]) dc 9 V (by simp; omega)
      go_wp2_with fail
      refine (HDG.out _).mono ?_; rintro e w5 ⟨rfl, hb5⟩
      have HB5 : Hid (Below W.heap.size W w5) := HB2.out.trans (hb5.mono HB2.out.size)
      clear hb5 l0 l1 l2 l3 l4
      go_wp2_with fail
      go_ret
      exact RefPrP.mk' (ys := nm ++ (32 :: da) ++ (32 :: db) ++ [32] ++ dc) (by rw [HP.out, HQ.out]; simp [HALN.out, HDC.out]) (HFIN.out _ HB5.out)
  · as_aux_lemma =>
      go_wp2_with fail
      go_ret
      exact RefPrP.mk' (ys := nm ++ (32 :: da)) (by rw [HP.out, HQ.out]; simp) (HFIN.out _ HB2.out)
  · as_aux_lemma =>
      have k2 := fun V => run_cat (nm ++ (32 :: da)) (32 :: db) 9 V (by simp; omega)
      go_wp2_with fail
      go_ret
      exact RefPrP.mk' (ys := nm ++ (32 :: da) ++ (32 :: db)) (by rw [HP.out, HQ.out]; simp) (HFIN.out _ HB2.out)
  · skip
    rcases HF11.out rfl with hc | hc
    · rw [hc] at l0
      have HC := hide hc
      have HDG := hide (fun V => refPrint_any 32 x.a V (by omega))
      have lc : (printL 32 x.a).length ≤ 21 := by unfold printL; have := signV_bd 32 x.a; exact itoa_lenB _ this.1 this.2
      have HPL : Hid (printL 32 x.a = Lib.itoa (signV 32 x.a)) := rfl
      generalize printL 32 x.a = dp at HDG lc HPL
      have k2 := fun V => run_cat nm [32] 9 V (by simp; omega)
      have k3 := fun V => run_cat (nm ++ [32]) dp 9 V (by simp; omega)
      clear hc
      go_wp2_with fail
      refine (HDG.out _).mono ?_; rintro e w5 ⟨rfl, hb5⟩
      have HB5 : Hid (Below W.heap.size W w5) := HB2.out.trans (hb5.mono HB2.out.size)
      clear hb5 l0 l1 l2 l3 l4
      go_wp2_with fail
      go_ret
      exact RefPrP.mk' (ys := nm ++ [32] ++ dp) (by rw [HP.out, HQ.out]; simp [HC.out, HPL.out]) (HFIN.out _ HB5.out)
    · rw [hc] at l0
      have HC := hide hc
      have HDG := hide (fun V => refPrint_any 64 x.a V (by omega))
      have lc : (printL 64 x.a).length ≤ 21 := by unfold printL; have := signV_bd 64 x.a; exact itoa_lenB _ this.1 this.2
      have HPL : Hid (printL 64 x.a = Lib.itoa (signV 64 x.a)) := rfl
      generalize printL 64 x.a = dp at HDG lc HPL
      have k2 := fun V => run_cat nm [32] 9 V (by simp; omega)
      have k3 := fun V => run_cat (nm ++ [32]) dp 9 V (by simp; omega)
      clear hc
      go_wp2_with fail
      refine (HDG.out _).mono ?_; rintro e w5 ⟨rfl, hb5⟩
      have HB5 : Hid (Below W.heap.size W w5) := HB2.out.trans (hb5.mono HB2.out.size)
      clear hb5 l0 l1 l2 l3 l4
      go_wp2_with fail
      go_ret
      exact RefPrP.mk' (ys := nm ++ [32] ++ dp) (by rw [HP.out, HQ.out]; simp [HC.out, HPL.out]) (HFIN.out _ HB5.out)
end Go.Proofs.YtpanlhbdphobdaaGreatDoor
