/-
  instr: tens, told, Print: contracts. (Written by wip/gen-insd.py.)
-/
import Derived.Test.YtpanlhbdphobdaaGreatDoorFaBB
import Derived.Test.YtpanlhbdphobdaaGreatDoorFaBH
namespace Go.Proofs.YtpanlhbdphobdaaGreatDoor
open Go.RowKit
set_option linter.unusedVariables false

theorem str_elemI : IsElem Tryz.prog 67 9 1 16 := IsElem.mk' Tryz.underlying67 (z := .string ⟨#[]⟩) (by kernel_rfl) rfl (by omega)
theorem u64_elemI : IsElem Tryz.prog 23 22 1 8 := IsElem.mk' Tryz.underlying23 (z := .int .u64 0) (by kernel_rfl) rfl (by omega)
theorem own_grewV {w w' : World} {base : Nat} {e : TypeId} {size n : Nat} {v : Value} {xs : List Value} (h : w.ownsRow base e size v n xs) (hg : grew w w') : w'.ownsRow base e size v n xs := own_only3 (S := []) h (Only.of_below hg) (by simp)
/-- what lies below a place stays -/
structure Lows (lim : Nat) (a b : World) : Prop where
  os : b.os = a.os
  tape : b.tape = a.tape
  output : b.output = a.output
  size : a.heap.size ≤ b.heap.size
  block : ∀ i, i < a.heap.size → i < lim → b.heap[i]? = a.heap[i]?
theorem Lows.ext (lim : Nat) : IsExt (Lows lim) :=
  ⟨fun _ => ⟨rfl, rfl, rfl, Nat.le_refl _, fun _ _ _ => rfl⟩, fun {_ _ _} h k => ⟨k.os.trans h.os, k.tape.trans h.tape, k.output.trans h.output, Nat.le_trans h.size k.size, fun i hi hn => (k.block i (Nat.lt_of_lt_of_le hi h.size) hn).trans (h.block i hi hn)⟩, fun _ => ⟨rfl, rfl, rfl, Nat.le_refl _, fun _ _ _ => rfl⟩⟩
theorem Lows.of_grew {lim : Nat} {a b : World} (h : grew a b) : Lows lim a b := ⟨h.os, h.tape, h.output, h.size, fun i hi _ => h.block i hi⟩
theorem Lows.below {lim : Nat} {a b : World} (h : Lows lim a b) (hl : lim ≤ a.heap.size) : Below lim a b := ⟨h.os, h.tape, h.output, h.size, fun i hi => h.block i (by omega) hi⟩
theorem Lows.of_grows {lim : Nat} {a b : World} {v v' : Value} (hv : ∀ g, v.ownBlock = some g → lim ≤ g) (hg : Grows a b v v') : Lows lim a b :=
  ⟨hg.by_.os, hg.by_.tape, hg.by_.output, hg.by_.size, fun i hi hn => hg.by_.block i hi (fun e => by have := hv i e.symm; omega)⟩
theorem Lows.cell {lim g : Nat} {a b : World} (h : Lows lim a b) (hg : g < lim) {cs : Array Value} {t : TypeId} (hb : a.heap[g]? = some (.cells cs t (0, 0))) (i : Nat) : b.cell? ⟨g, i, none⟩ = cs[i]? := cell_blk ((h.block g (blk_lt hb) hg).trans hb) i

theorem tens_takeS {ls : List Nat} {k n : Nat} (h : ls[k]? = some n) : ((ls.take (k + 1)).map (digL 10)).map S = ((ls.take k).map (digL 10)).map S ++ [S (digL 10 n)] := by
  rw [List.take_add_one, h, List.map_append, List.map_append]
  rfl
set_option maxRecDepth 100000 in
set_option maxHeartbeats 800000 in
theorem itens_any (A : Option Addr) (c : Nat) (ls : List Nat) (w : World) (hr : Hid (Reads w w.heap.size 1 A ls.length (ls.map U))) (hl : ls.length ≤ 1000) (hls : Hid (∀ n ∈ ls, n < 18446744073709551616)) (ht : Hid (LaidC w)) :
    Calls Tryz.prog 68 #[.slice A ls.length c] w fun e w' => ∃ A2 c2, e = .returned (.slice A2 ls.length c2) ∧ Hid (w'.ownsRow w.heap.size 9 1 (.slice A2 ls.length c2) ls.length ((ls.map (digL 10)).map S)) ∧ Hid (Below w.heap.size w w') := by
  obtain ⟨base, hbase⟩ : ∃ b, w.heap.size = b := ⟨_, rfl⟩
  have HBA := hide hbase
  have hr0 : Hid (Reads w base 1 A ls.length (ls.map U)) := by rw [← hbase]; exact hr
  clear hbase hr
  go_enter Tryz.func68, Tryz.ntmps68
  go_wp2_with fail
  go_loopw [3, 5, 8] (fun v1 n1 i1 w1 => ∃ k : Nat, i1 = .int .i64 k ∧ k ≤ ls.length ∧ Hid (w1.ownsRow base 9 1 v1 k (((ls.take k).map (digL 10)).map S)) ∧ Hid (Below base w w1) ∧ base ≤ w1.heap.size) (fun _ _ i1 _ => ls.length - (intOf i1).toNat)
  case atStart => exact ⟨0, rfl, by omega, own_nil _ _ _ _, Below.refl _ _, by rw [HBA.out]; omega⟩
  case round =>
    obtain ⟨k, rfl, hk, ho, hb, hsz⟩ := hrel
    by_cases hlt : k < ls.length
    · obtain ⟨ad, n, hA, hn, u0⟩ := (hr0.out.below hb.out).elem (k := k) hlt
      subst hA
      unfold U at u0
      have hF := fmtU10 n wr (hls.out n (List.mem_of_getElem? hn.out)) (hide (LaidC.below ht.out (by rw [HBA.out]; exact hb.out)))
      have hst := tens_takeS hn.out
      generalize digL 10 n = tx at hF hst
      have HF := hide hF; have HST := hide hst
      have hki : (k : Int) < (ls.length : Int) := by omega
      have hroom : Room k 1 16 := room_of (by omega) (by omega)
      clear hF hst hn
      go_wp2_with fail
      refine HF.out.mono ?_; rintro e w2 ⟨rfl, h2⟩
      have ho2 : Hid (w2.ownsRow base 9 1 _ k (((ls.take k).map (digL 10)).map S)) := own_grewV ho.out h2
      have hb2 : Hid (Below base w w2) := hb.out.trans (h2.mono hsz)
      have hsz2 : base ≤ w2.heap.size := by have := h2.size; omega
      clear h2 HF u0 ho hb
      generalize ((ls.take k).map (digL 10)).map S = ys at ho2 HST
      go_wp2_with (at_builtin; refine wpList_push rfl _ _ rfl base str_elemI _ k ys rfl w2 (.string ⟨tx.toArray⟩) _ rfl ho2.out rfl rfl hroom hsz2 ?_; intro v' w' ho' hg'; have HO' := hide ho'; have HG' := hide hg'; clear ho' hg')
      go_roundw
      case rel => exact ⟨k + 1, by go_num, by omega, by show World.ownsRow _ _ _ _ _ _ _; rw [HST.out]; exact HO'.out, hb2.out.grown HG'.out.by_ hsz2 (own_ge ho2.out), Nat.le_trans hsz2 HG'.out.by_.size⟩
      case measure => simp [intOf] <;> omega
    · have hkn : k = ls.length := by omega
      subst hkn
      have hfull := ho.out
      rw [List.take_length] at hfull
      obtain ⟨A2, c2, hv, hc2, _⟩ := own_form hfull
      subst hv
      have HF := hide hfull
      clear hlt hfull ho hk
      go_wp2_with fail
      go_ret
      exact ⟨A2, c2, rfl, by rw [HBA.out]; exact HF.out, by rw [HBA.out]; exact hb.out⟩
/-- of a slice that was just made -/
theorem tens_lit (ls : List Nat) (w : World) (hl : ls.length ≤ 1000) (hls : Hid (∀ n ∈ ls, n < 18446744073709551616)) (ht : Hid (LaidC w)) :
    Calls Tryz.prog 68 #[.slice (some ⟨w.heap.size, 0, none⟩) ls.length ls.length] (w.alloc (.cells (ls.map U).toArray 22)) fun e w' => ∃ A2 c2, e = .returned (.slice A2 ls.length c2) ∧ Hid (Reads w' w'.heap.size 1 A2 ls.length ((ls.map (digL 10)).map S)) ∧ Hid (Below w.heap.size w w') := by
  have hb : Below w.heap.size w (w.alloc (.cells (ls.map U).toArray 22)) := (Below.refl _ _).alloc (Nat.le_refl _) _
  refine (itens_any (some ⟨w.heap.size, 0, none⟩) ls.length ls (w.alloc (.cells (ls.map U).toArray 22)) ?_ hl hls (ht.out.below hb)).mono ?_
  · exact (Reads.of_new w (ls.map U) 22 ls.length (by simp)).more (by simp)
  · rintro e w' ⟨A2, c2, h1, h2, h3⟩
    exact ⟨A2, c2, h1, Reads.of_own h2.out, hb.trans (h3.out.mono hb.size)⟩

theorem U_one (ls : List Nat) : ∀ u ∈ ls.map U, u.oneCell' = true := by
  intro u hu; obtain ⟨b, _, rfl⟩ := List.mem_map.1 hu; rfl
theorem S_one (ls : List (List UInt8)) : ∀ u ∈ ls.map S, u.oneCell' = true := by
  intro u hu; obtain ⟨b, _, rfl⟩ := List.mem_map.1 hu; rfl
set_option maxHeartbeats 800000 in
theorem cloneU_any (A : Option Addr) (c : Nat) (ls : List Nat) (w : World) (hr : Hid (Reads w w.heap.size 1 A ls.length (ls.map U))) (hl : ls.length ≤ 1000) :
    Calls Tryz.prog 69 #[.slice A ls.length c] w fun e w' => ∃ A1 c1, e = .returned (.slice A1 ls.length c1) ∧ Hid (w'.ownsRow w.heap.size 22 1 (.slice A1 ls.length c1) ls.length (ls.map U)) ∧ Hid (Below w.heap.size w w') := by
  have q22 := fun (w : World) (a : Option Addr) (n c n' c' : Nat) => Lib.run_eql_slice_nil (P := Tryz.prog) w 23 22 a n c n' c' Tryz.underlying23
  cases A with
  | none =>
    have hn0 : ls.length = 0 := by
      rcases Nat.eq_zero_or_pos ls.length with h | h
      · exact h
      · obtain ⟨ad, h2, _⟩ := hr.out.2 h
        cases h2
    have h0 : ls = [] := List.eq_nil_of_length_eq_zero hn0
    subst h0
    clear hr hn0
    simp only [List.length_nil]
    go_enter Tryz.func69, Tryz.ntmps69
    go_wp2_with fail
    go_ret
    exact ⟨none, 0, rfl, own_nil _ _ _ _, Below.refl _ _⟩
  | some ad =>
    obtain ⟨n, hn⟩ : ∃ n, ls.length = n := ⟨_, rfl⟩
    obtain ⟨us, hus⟩ : ∃ us, ls.map U = us := ⟨_, rfl⟩
    have hone := hide (U_one ls)
    rw [hn, hus] at hr
    rw [hus] at hone
    rw [hn, hus]
    have hroom : Room 0 n 8 := room_of (by omega) (by omega)
    obtain ⟨W, hW⟩ : ∃ W, w.alloc (.cells #[] 22) = W := ⟨_, rfl⟩
    have hb : Below w.heap.size w W := by rw [← hW]; exact (Below.refl _ _).alloc (Nat.le_refl _) _
    have hh : W.heap[w.heap.size]? = some (.cells #[] 22 (0, 0)) := by rw [← hW]; exact heap_alloc_new w _
    have hown : Hid (W.ownsRow w.heap.size 22 1 (.slice (some ⟨w.heap.size, 0, none⟩) 0 0) 0 []) := ⟨by simp, .inr ⟨w.heap.size, 0, #[], rfl, Nat.le_refl _, hh, Nat.le_refl _, by unfold maxLen; omega, by simp, by simp⟩⟩
    have hrW : Hid (Reads W w.heap.size 1 (some ad) n us) := hr.out.below hb
    have hsz : w.heap.size ≤ W.heap.size := hb.size
    have HB := hide hb; have HW := hide hW
    clear hb hW hh hr hn hus hl
    go_enter Tryz.func69, Tryz.ntmps69
    go_wp2_with (at_builtin; rw [HW.out]; refine wpList_append_any rfl _ _ rfl w.heap.size u64_elemI (.slice (some ⟨w.heap.size, 0, none⟩) 0 0) 0 [] rfl hown.out w.heap.size (some ad) n c us rfl hrW.out hone.out hroom hsz ?_; intro v' w' ho' hg')
    rw [Nat.zero_add, List.nil_append] at ho'
    obtain ⟨A2, c2, hv2, hc2, _⟩ := own_form ho'
    subst hv2
    have HO' := hide ho'
    have HG' := hide hg'
    clear ho' hg' hc2
    go_wp2_with fail
    go_ret
    exact ⟨A2, c2, rfl, HO', HB.out.grown HG'.out.by_ hsz (own_ge hown.out)⟩

/-- what told leaves -/
def ToldXP (x : XI) (w : World) (e : Ending) (w' : World) : Prop := ∃ A2 c2, e = .returned (.slice A2 (toldX x).length c2) ∧ Hid (Reads w' w'.heap.size 1 A2 (toldX x).length ((toldX x).map S)) ∧ Hid (Below w.heap.size w w')
theorem ToldXP.mk' {x : XI} {w w3 w' : World} {g n : Nat} {ts : List (List UInt8)} {A2 : Option Addr} {c2 : Nat} (hg : w.heap.size = g) (h3 : Below g w w3) (hs : g ≤ w3.heap.size) (hr : Reads w' w'.heap.size 1 A2 n (ts.map S)) (hb : Below w3.heap.size w3 w') (hx : toldX x = ts) (hn : ts.length = n) : ToldXP x w (.returned (.slice A2 n c2)) w' := by
  subst hn
  rw [← hx] at hr ⊢
  exact ⟨A2, c2, rfl, hr, by show Below _ _ _; rw [hg]; exact h3.trans (hb.mono hs)⟩
theorem toldX_f {x : XI} {f : Int} (hf : refForm x.code = f) : toldX x = if f = 1 then (if x.a = 64 then [] else [nameL (UInt8.ofNat x.a)])
  else if f = 2 ∨ f = 4 ∨ f = 6 ∨ f = 7 ∨ f = 9 then [x.a].map (digL 10)
  else if f = 3 then (x.l ++ [x.a]).map (digL 10)
  else if f = 5 ∨ f = 10 then [x.a, x.b].map (digL 10)
  else if f = 8 then [x.a, x.b, x.al.toNat].map (digL 10)
  else if f = 11 then [Lib.itoa (signV (if x.code = 66 then 64 else 32) x.a)]
  else [] := by subst hf; rfl

set_option maxRecDepth 100000 in
set_option maxHeartbeats 20000000 in
theorem told_any (x : XI) (A : Option Addr) (cl : Nat) (w : World) (hx : Hid x.In) (hr : Hid (Reads w w.heap.size 1 A x.l.length (x.l.map U))) (hq : Hid (rightX x = true)) (ht : Hid (LaidC w)) :
    Calls Tryz.prog 33 #[.agg #[.int .i64 x.code, .int .u64 (x.a : Int), .int .u64 (x.b : Int), .int .i64 x.al, .slice A x.l.length cl]] w (ToldXP x w) := by
  obtain ⟨r, hor, hci, hrf⟩ := right_some hq.out
  obtain ⟨hl100, h11, _⟩ := right_facts hx.out hrf
  obtain ⟨W, hW⟩ : ∃ W, w.alloc (.cells #[.int .i64 x.code, .int .u64 (x.a : Int), .int .u64 (x.b : Int), .int .i64 x.al, .slice A x.l.length cl] 28) = W := ⟨_, rfl⟩
  obtain ⟨g, hg⟩ : ∃ g, w.heap.size = g := ⟨_, rfl⟩
  have hb : Below g w W := by rw [← hW, ← hg]; exact (Below.refl _ _).alloc (Nat.le_refl _) _
  have hv : XV W g x A cl := by rw [← hW, ← hg]; exact xv_new w x A cl
  have hgW : g < W.heap.size := blk_lt hv.blk
  have HFO := hide (fun W => form_any x.code (x.a : Int) (x.b : Int) x.al A x.l.length cl W hx.out.c1 hx.out.c2)
  have hv1 : formV x.code = refForm x.code := formV_ref (by rw [hor]; rfl)
  rw [hv1] at HFO
  have HQ := hide (toldX_f (x := x) (f := refForm x.code) rfl)
  have H11 := hide h11
  have hfb := refForm_bd x.code
  obtain ⟨l0, l1, l2, l3, l4⟩ := hv.cs
  have HB := hide hb; have HW := hide hW; have HG := hide hg; have HV := hide hv; have HRF := hide hrf
  clear hb hW hg hv hq hor hci hv1 hrf h11
  go_enter Tryz.func33, Tryz.ntmps33
  go_upto_region 1 with fail
  rw [HW.out, HG.out]
  go_wp2_with fail
  refine (HFO.out _).mono ?_; rintro e w3 ⟨rfl, h3⟩
  have HV3 := hide (HV.out.below h3.out hgW)
  have HB3 : Hid (Below g w w3) := HB.out.trans (h3.out.mono (by omega))
  have hg3 : g + 1 ≤ w3.heap.size := by have := h3.out.size; omega
  have hg3' : g ≤ w3.heap.size := by omega
  have HR3 : Hid (Reads w3 g 1 A x.l.length (x.l.map U)) := by have := hr.out; rw [HG.out] at this; exact this.below HB3.out
  have HT3 : Hid (LaidC w3) := LaidC.below ht.out (by rw [HG.out]; exact HB3.out)
  have HT0 := hide ht.out
  clear l0 l1 l2 l3 l4 HFO HV HB h3 hr ht HW
  obtain ⟨l0, l1, l2, l3, l4⟩ := HV3.out.cs
  have ha64 := hx.out.a
  have hb64 := hx.out.b
  generalize refForm x.code = f at hfb HQ HRF H11 ⊢
  rcases hfb with rfl | rfl | rfl | rfl | rfl | rfl | rfl | rfl | rfl | rfl | rfl | rfl
  · as_aux_lemma =>
      have HE : Hid (toldX x = []) := by show _ = _; rw [HQ.out]; simp
      clear HQ HRF H11
      go_wp2_with fail
      go_ret
      exact ToldXP.mk' HG.out HB3.out hg3' (ts := []) ⟨by simp, fun h => absurd h (by simp)⟩ (Below.refl _ _) HE.out rfl
  · as_aux_lemma =>
      have hbl : x.a = 64 ∨ x.a = 126 ∨ x.a = 127 := by
        have := HRF.out
        simp [rightF, blocked] at this
        omega
      rcases hbl with hk | hk | hk
      · have HE : Hid (toldX x = []) := by show _ = _; rw [HQ.out]; simp [hk]
        rw [hk] at l1
        clear HQ HRF H11 hk
        go_wp2_with fail
        go_ret
        exact ToldXP.mk' HG.out HB3.out hg3' (ts := []) ⟨by simp, fun h => absurd h (by simp)⟩ (Below.refl _ _) HE.out rfl
      · have HE : Hid (toldX x = [nameL 126]) := by show _ = _; rw [HQ.out]; simp [hk]
        rw [hk] at l1
        have HN : Hid (Calls Tryz.prog 67 #[.int .u8 126] w3 _) := tname_any 126 w3
        clear HQ HRF H11 hk
        go_wp2_with fail
        refine HN.out.mono ?_; rintro e w4 ⟨rfl, rfl⟩
        clear HN l0 l1 l2 l3 l4
        go_wp2_with fail
        go_ret
        exact ToldXP.mk' HG.out HB3.out hg3' (ts := [nameL 126]) (reads_blk (cs := [_]) (heap_alloc_new w3 _) rfl) ((Below.refl _ _).alloc (Nat.le_refl _) _) HE.out rfl
      · have HE : Hid (toldX x = [nameL 127]) := by show _ = _; rw [HQ.out]; simp [hk]
        rw [hk] at l1
        have HN : Hid (Calls Tryz.prog 67 #[.int .u8 127] w3 _) := tname_any 127 w3
        clear HQ HRF H11 hk
        go_wp2_with fail
        refine HN.out.mono ?_; rintro e w4 ⟨rfl, rfl⟩
        clear HN l0 l1 l2 l3 l4
        go_wp2_with fail
        go_ret
        exact ToldXP.mk' HG.out HB3.out hg3' (ts := [nameL 127]) (reads_blk (cs := [_]) (heap_alloc_new w3 _) rfl) ((Below.refl _ _).alloc (Nat.le_refl _) _) HE.out rfl
  · as_aux_lemma =>
      have HE : Hid (toldX x = [x.a].map (digL 10)) := by show _ = _; rw [HQ.out]; simp
      have HP : Hid (Calls Tryz.prog 68 #[.slice (some ⟨w3.heap.size, 0, none⟩) 1 1] (w3.alloc (.cells #[.int .u64 (x.a : Int)] 22)) _) := tens_lit [x.a] w3 (by simp) (by show ∀ _, _; simp; omega) HT3
      clear HQ HRF H11
      go_wp2_with fail
      refine HP.out.mono ?_; rintro e w4 ⟨A4, c4, rfl, hr4, hb4⟩
      clear HP l0 l1 l2 l3 l4
      go_wp2_with fail
      go_ret
      exact ToldXP.mk' HG.out HB3.out hg3' hr4.out hb4.out HE.out rfl
  · as_aux_lemma =>
      have HE : Hid (toldX x = (x.l ++ [x.a]).map (digL 10)) := by show _ = _; rw [HQ.out]; simp
      have hblk := HV3.out.blk
      have HBLK := hide hblk
      obtain ⟨n, hn⟩ : ∃ n, x.l.length = n := ⟨_, rfl⟩
      have HLL : Hid (∀ m ∈ x.l ++ [x.a], m < 18446744073709551616) := by
        show ∀ m, _
        intro m hm
        rw [List.mem_append, List.mem_singleton] at hm
        rcases hm with hm | rfl
        · exact hx.out.l m hm
        · exact ha64
      have HN := hide hn
      clear HQ HRF H11 hblk l0 l1 l2 l3 l4 hn
      go_upto_region 13 with fail
      refine wp_region_factsD grew_ext (Lows.ext (g + 1)) (fun _ _ h => Lows.of_grew h) [6, 7, 8] 8 (factsOf [fun yy _ => yy = .pointer (some ⟨g, 4, none⟩),
        fun yy _ => yy = .slice A x.l.length cl,
        fun yy W => ∃ A2 c2, yy = .slice A2 x.l.length c2 ∧ W.ownsRow (g + 1) 22 1 (.slice A2 x.l.length c2) x.l.length (x.l.map U),
        fun yy _ => yy = .pointer (some ⟨g, 1, none⟩),
        fun yy _ => yy = .int .u64 (x.a : Int),
        fun yy W => ∃ gs, yy = .slice (some ⟨gs, 0, none⟩) 1 1 ∧ W.heap[gs]? = some (.cells #[.int .u64 (x.a : Int)] 22 (0, 0)),
        fun yy W => ∃ A2 c2, yy = .slice A2 (x.l ++ [x.a]).length c2 ∧ W.ownsRow (g + 1) 22 1 (.slice A2 (x.l ++ [x.a]).length c2) (x.l ++ [x.a]).length ((x.l ++ [x.a]).map U),
        fun yy W => ∃ A2 c2, yy = .slice A2 (x.l ++ [x.a]).length c2 ∧ W.ownsRow (g + 1) 9 1 (.slice A2 (x.l ++ [x.a]).length c2) (x.l ++ [x.a]).length (((x.l ++ [x.a]).map (digL 10)).map S),
        fun yy W => ∃ A2 c2, yy = .slice A2 (x.l ++ [x.a]).length c2 ∧ W.ownsRow (g + 1) 9 1 (.slice A2 (x.l ++ [x.a]).length c2) (x.l ++ [x.a]).length (((x.l ++ [x.a]).map (digL 10)).map S)]) (by kernel_rfl) (by kernel_rfl) (by kernel_rfl) (by decide) rfl (by decide) (by kernel_rfl) (no_stores (by kernel_rfl)) ?_ ?_
      · refine ⟨?_, ?_, ?_, ?_, ?_, ?_, ?_, ?_, ?_, trivial⟩
        · refine ObD.plain (by decide) rfl fun ρ W hk => ?_
          have o1 : ρ (.tmp 1) = .pointer (some ⟨g, 0, none⟩) := hk.old 1 (by decide)
          exact OpOut.fieldAddr (x := .tmp 1) rfl o1 (by go_simp) ⟨Below.refl _ _, rfl⟩
        · refine ObD.plain (by decide) rfl fun ρ W hk => ?_
          have h0 := (hk.fact 0 27 (by decide) rfl).pure
          have hc := hk.below.cell (Nat.lt_succ_self g) HBLK.out 4
          simp at hc
          exact OpOut.load (x := .tmp 27) rfl h0 (by go_simp) ⟨Below.refl _ _, rfl⟩
        · refine ObD.plain (by decide) rfl fun ρ W hk => ?_
          have h1 := (hk.fact 1 28 (by decide) rfl).pure
          have hrd : Reads W W.heap.size 1 A x.l.length (x.l.map U) := (HR3.out.below ((hk.below.below hg3).mono (by omega))).more (by have := hk.below.size; omega)
          refine OpOut.fn (args := #[.slice A x.l.length cl]) rfl (hk.func _) (by simp [h1]) Tryz.func69 (by kernel_rfl) rfl ?_
          refine (cloneU_any A cl x.l W hrd (by omega)).mono ?_
          rintro e w5 ⟨A2, c2, rfl, ho, hb⟩
          exact ⟨_, rfl, hb.out, A2, c2, rfl, own_base ho.out (fun q hq => by have := own_ge ho.out q hq; have := hk.below.size; omega)⟩
        · refine ObD.plain (by decide) rfl fun ρ W hk => ?_
          have o1 : ρ (.tmp 1) = .pointer (some ⟨g, 0, none⟩) := hk.old 1 (by decide)
          exact OpOut.fieldAddr (x := .tmp 1) rfl o1 (by go_simp) ⟨Below.refl _ _, rfl⟩
        · refine ObD.plain (by decide) rfl fun ρ W hk => ?_
          have h0 := (hk.fact 3 30 (by decide) rfl).pure
          have hc := hk.below.cell (Nat.lt_succ_self g) HBLK.out 1
          simp at hc
          exact OpOut.load (x := .tmp 30) rfl h0 (by go_simp) ⟨Below.refl _ _, rfl⟩
        · refine ObD.plain (by decide) rfl fun ρ W hk => ?_
          have h0 := (hk.fact 4 31 (by decide) rfl).pure
          exact OpOut.buildSlice (us := #[(0, .int .u64 (x.a : Int))]) rfl (by simp [h0]) (by go_simp) ⟨(Below.refl _ _).alloc (Nat.le_refl _) _, W.heap.size, rfl, heap_alloc_new W _⟩
        · refine ObD.first rfl rfl fun ρ W hk hk0 => ?_
          obtain ⟨w2, hw2, A2, c2, h2, ho2⟩ := hk0.fact 2 29 (by decide) rfl
          obtain ⟨w5, hw5, gs, h5, hh5⟩ := hk0.fact 5 32 (by decide) rfl
          have ho := own_grewV ho2 hw2
          have hh := (hw5.block gs (blk_lt hh5)).trans hh5
          obtain ⟨v', w', hrun, ho', hg'⟩ := run_append_any (P := Tryz.prog) (w := W) (g + 1) (ty := 23) u64_elemI (.slice A2 x.l.length c2) x.l.length (x.l.map U) ho W.heap.size (some ⟨gs, 0, none⟩) 1 1 [U x.a] (reads_blk (cs := [_]) hh rfl) (by simp [U]; rfl) (room_of (by omega) (by omega)) (by have := hk0.below.size; omega)
          have ho3 : w'.ownsRow (g + 1) 22 1 v' (x.l ++ [x.a]).length ((x.l ++ [x.a]).map U) := own_cast ho' (by simp) (by simp)
          obtain ⟨A3, c3, rfl, _, _⟩ := own_form ho3
          exact OpOut.append (s := .tmp 29) (x := .tmp 32) rfl h2 h5 hrun ⟨Lows.of_grows (own_ge ho) hg', A3, c3, rfl, ho3⟩
        · refine ObD.next 0 6 33 rfl rfl rfl rfl fun ρ W hk hw => ?_
          obtain ⟨w6, hw6, A2, c2, h6, ho6⟩ := hw
          have ho := own_grewV ho6 hw6
          refine OpOut.fn (args := #[.slice A2 (x.l ++ [x.a]).length c2]) rfl (hk.func _) (by simp [h6]) Tryz.func68 (by kernel_rfl) rfl ?_
          refine (itens_any A2 c2 (x.l ++ [x.a]) W (Reads.of_own ho) (by simp; omega) HLL (LaidC.below HT0.out (by rw [HG.out]; exact HB3.out.trans ((hk.below.below hg3).mono (by omega))))).mono ?_
          rintro e w7 ⟨A7, c7, rfl, ho7, hb7⟩
          exact ⟨_, rfl, Lows.of_grew hb7.out, A7, c7, rfl, own_base ho7.out (fun q hq => by have := own_ge ho7.out q hq; have := hk.below.size; omega)⟩
        · refine ObD.next 1 7 34 rfl rfl rfl rfl fun ρ W hk hw => ?_
          obtain ⟨w6, hw6, A2, c2, h6, ho6⟩ := hw
          exact OpOut.assign (.tmp 34) rfl ⟨(Lows.ext _).refl _, A2, c2, h6, own_grewV ho6 hw6⟩
      · intro vs W2 hb2 hf hl8
        obtain ⟨w6, hw6, A2, c2, h6, ho6⟩ := hl8
        have HO6 := hide (own_grewV ho6 hw6)
        have HB6 := hide (hb2.below hg3)
        clear hf hw6 ho6 hb2
        simp only [fillL]
        rw [h6]
        generalize vs 0 = y0, vs 1 = y1, vs 2 = y2, vs 3 = y3, vs 4 = y4, vs 5 = y5, vs 6 = y6, vs 7 = y7
        clear h6
        go_frame
        go_wp2_with fail
        go_ret
        refine ⟨A2, c2, by rw [HE.out, List.length_map]; rfl, ?_, ?_⟩
        · show Reads _ _ _ _ _ _
          rw [HE.out, List.length_map]
          exact Reads.of_own HO6.out
        · show Below _ _ _
          rw [HG.out]
          exact HB3.out.trans (HB6.out.mono (by omega))
  · as_aux_lemma =>
      have HE : Hid (toldX x = [x.a].map (digL 10)) := by show _ = _; rw [HQ.out]; simp
      have HP : Hid (Calls Tryz.prog 68 #[.slice (some ⟨w3.heap.size, 0, none⟩) 1 1] (w3.alloc (.cells #[.int .u64 (x.a : Int)] 22)) _) := tens_lit [x.a] w3 (by simp) (by show ∀ _, _; simp; omega) HT3
      clear HQ HRF H11
      go_wp2_with fail
      refine HP.out.mono ?_; rintro e w4 ⟨A4, c4, rfl, hr4, hb4⟩
      clear HP l0 l1 l2 l3 l4
      go_wp2_with fail
      go_ret
      exact ToldXP.mk' HG.out HB3.out hg3' hr4.out hb4.out HE.out rfl
  · as_aux_lemma =>
      have HE : Hid (toldX x = [x.a, x.b].map (digL 10)) := by show _ = _; rw [HQ.out]; simp
      have HP : Hid (Calls Tryz.prog 68 #[.slice (some ⟨w3.heap.size, 0, none⟩) 2 2] (w3.alloc (.cells #[.int .u64 (x.a : Int), .int .u64 (x.b : Int)] 22)) _) := tens_lit [x.a, x.b] w3 (by simp) (by show ∀ _, _; simp; omega) HT3
      clear HQ HRF H11
      go_wp2_with fail
      refine HP.out.mono ?_; rintro e w4 ⟨A4, c4, rfl, hr4, hb4⟩
      clear HP l0 l1 l2 l3 l4
      go_wp2_with fail
      go_ret
      exact ToldXP.mk' HG.out HB3.out hg3' hr4.out hb4.out HE.out rfl
  · as_aux_lemma =>
      have HE : Hid (toldX x = [x.a].map (digL 10)) := by show _ = _; rw [HQ.out]; simp
      have HP : Hid (Calls Tryz.prog 68 #[.slice (some ⟨w3.heap.size, 0, none⟩) 1 1] (w3.alloc (.cells #[.int .u64 (x.a : Int)] 22)) _) := tens_lit [x.a] w3 (by simp) (by show ∀ _, _; simp; omega) HT3
      clear HQ HRF H11
      go_wp2_with fail
      refine HP.out.mono ?_; rintro e w4 ⟨A4, c4, rfl, hr4, hb4⟩
      clear HP l0 l1 l2 l3 l4
      go_wp2_with fail
      go_ret
      exact ToldXP.mk' HG.out HB3.out hg3' hr4.out hb4.out HE.out rfl
  · as_aux_lemma =>
      have HE : Hid (toldX x = [x.a].map (digL 10)) := by show _ = _; rw [HQ.out]; simp
      have HP : Hid (Calls Tryz.prog 68 #[.slice (some ⟨w3.heap.size, 0, none⟩) 1 1] (w3.alloc (.cells #[.int .u64 (x.a : Int)] 22)) _) := tens_lit [x.a] w3 (by simp) (by show ∀ _, _; simp; omega) HT3
      clear HQ HRF H11
      go_wp2_with fail
      refine HP.out.mono ?_; rintro e w4 ⟨A4, c4, rfl, hr4, hb4⟩
      clear HP l0 l1 l2 l3 l4
      go_wp2_with fail
      go_ret
      exact ToldXP.mk' HG.out HB3.out hg3' hr4.out hb4.out HE.out rfl
  · as_aux_lemma =>
      have hal : 0 ≤ x.al ∧ x.al ≤ 31 := by
        have := HRF.out
        simp [rightF] at this
        omega
      obtain ⟨n, hn⟩ : ∃ n : Nat, x.al = n := ⟨x.al.toNat, by omega⟩
      rw [hn] at l3
      have hn31 : n ≤ 31 := by omega
      have HE : Hid (toldX x = [x.a, x.b, n].map (digL 10)) := by show _ = _; rw [HQ.out]; simp [hn]
      have HP : Hid (Calls Tryz.prog 68 #[.slice (some ⟨w3.heap.size, 0, none⟩) 3 3] (w3.alloc (.cells #[.int .u64 (x.a : Int), .int .u64 (x.b : Int), .int .u64 (n : Int)] 22)) _) := tens_lit [x.a, x.b, n] w3 (by simp) (by show ∀ _, _; simp; omega) HT3
      clear HQ HRF H11 hal hn
      go_wp2_with fail
      refine HP.out.mono ?_; rintro e w4 ⟨A4, c4, rfl, hr4, hb4⟩
      clear HP l0 l1 l2 l3 l4
      go_wp2_with fail
      go_ret
      exact ToldXP.mk' HG.out HB3.out hg3' hr4.out hb4.out HE.out rfl
  · as_aux_lemma =>
      have HE : Hid (toldX x = [x.a].map (digL 10)) := by show _ = _; rw [HQ.out]; simp
      have HP : Hid (Calls Tryz.prog 68 #[.slice (some ⟨w3.heap.size, 0, none⟩) 1 1] (w3.alloc (.cells #[.int .u64 (x.a : Int)] 22)) _) := tens_lit [x.a] w3 (by simp) (by show ∀ _, _; simp; omega) HT3
      clear HQ HRF H11
      go_wp2_with fail
      refine HP.out.mono ?_; rintro e w4 ⟨A4, c4, rfl, hr4, hb4⟩
      clear HP l0 l1 l2 l3 l4
      go_wp2_with fail
      go_ret
      exact ToldXP.mk' HG.out HB3.out hg3' hr4.out hb4.out HE.out rfl
  · as_aux_lemma =>
      have HE : Hid (toldX x = [x.a, x.b].map (digL 10)) := by show _ = _; rw [HQ.out]; simp
      have HP : Hid (Calls Tryz.prog 68 #[.slice (some ⟨w3.heap.size, 0, none⟩) 2 2] (w3.alloc (.cells #[.int .u64 (x.a : Int), .int .u64 (x.b : Int)] 22)) _) := tens_lit [x.a, x.b] w3 (by simp) (by show ∀ _, _; simp; omega) HT3
      clear HQ HRF H11
      go_wp2_with fail
      refine HP.out.mono ?_; rintro e w4 ⟨A4, c4, rfl, hr4, hb4⟩
      clear HP l0 l1 l2 l3 l4
      go_wp2_with fail
      go_ret
      exact ToldXP.mk' HG.out HB3.out hg3' hr4.out hb4.out HE.out rfl
  · as_aux_lemma =>
      by_cases h66 : x.code = 66
      · have HE : Hid (toldX x = [Lib.itoa (signV 64 x.a)]) := by show _ = _; rw [HQ.out]; simp [h66]
        have HP := hide (convPrint_any 64 x.a w3 (by omega) HT3)
        have f66 : (x.code == 66) = true := by simpa using h66
        generalize Lib.itoa (signV 64 x.a) = tx at HE HP
        clear HQ HRF H11 h66
        go_wp2_with fail
        refine HP.out.mono ?_; rintro e w4 ⟨rfl, h4⟩
        have H4 := hide h4
        clear HP l0 l1 l2 l3 l4 h4
        go_wp2_with fail
        go_ret
        exact ToldXP.mk' HG.out HB3.out hg3' (ts := [tx]) (reads_blk (cs := [_]) (heap_alloc_new w4 _) rfl) (H4.out.alloc H4.out.size _) HE.out rfl
      · have HE : Hid (toldX x = [Lib.itoa (signV 32 x.a)]) := by show _ = _; rw [HQ.out]; simp [h66]
        have HP := hide (convPrint_any 32 x.a w3 (by omega) HT3)
        have f66 : (x.code == 66) = false := by simpa using h66
        generalize Lib.itoa (signV 32 x.a) = tx at HE HP
        clear HQ HRF H11 h66
        go_wp2_with fail
        refine HP.out.mono ?_; rintro e w4 ⟨rfl, h4⟩
        have H4 := hide h4
        clear HP l0 l1 l2 l3 l4 h4
        go_wp2_with fail
        go_ret
        exact ToldXP.mk' HG.out HB3.out hg3' (ts := [tx]) (reads_blk (cs := [_]) (heap_alloc_new w4 _) rfl) (H4.out.alloc H4.out.size _) HE.out rfl
theorem joinI_any (g c n : Nat) (l : List (List UInt8)) (w : World) (hn : l.length = n) (hl : n ≤ 1000) (hc : n ≤ c) (hcell : Hid (∀ j x, l[j]? = some x → w.cell? ⟨g, j, none⟩ = some (S x))) (hg : g < w.heap.size) (hj : (Lib.join l [32]).length ≤ 100000) :
    Calls Tryz.prog 32 #[.slice (some ⟨g, 0, none⟩) n c, .string ⟨#[32]⟩] w (SaysP w (Lib.join l [32])) := by
  have hm : (l.map fun x => (⟨x.toArray⟩ : ByteArray)).map (·.data.toList) = l := by rw [List.map_map]; exact List.map_id l
  have h := Tryz.strings_Join g 0 c (l.map fun x => (⟨x.toArray⟩ : ByteArray)) ⟨#[32]⟩ w (by
    intro j x hx
    rw [List.getElem?_map] at hx
    cases hj : l[j]? with
    | none => rw [hj] at hx; cases hx
    | some y =>
      rw [hj] at hx
      have : (⟨y.toArray⟩ : ByteArray) = x := by simpa using hx
      rw [← this, Nat.zero_add]
      exact hcell.out j y hj) hg (by rw [List.length_map]; omega) (by rw [List.length_map]; omega) (by rw [hm]; show (Lib.join l [32]).length ≤ _; omega)
  rw [hm, List.length_map, hn] at h
  exact h
/-- of a row of the call's own -/
theorem joinO_any {base : Nat} {A : Option Addr} {c n : Nat} {l : List (List UInt8)} {w : World} (ho : w.ownsRow base 9 1 (.slice A n c) n (l.map S)) (hn : l.length = n) (h0 : 0 < n) (hl : n ≤ 1000) (hj : (Lib.join l [32]).length ≤ 100000) :
    Calls Tryz.prog 32 #[.slice A n c, .string ⟨#[32]⟩] w (SaysP w (Lib.join l [32])) := by
  obtain ⟨A', c', hv, hc2, _⟩ := own_form ho
  injection hv with hv1 _ hv2
  subst hv1; subst hv2
  obtain ⟨g, cap, hv, _⟩ := ho.form h0
  injection hv with hv
  subst hv
  refine joinI_any g c n l w hn hl hc2 ?_ (ho.lt g rfl).2 hj
  show ∀ j x, _
  intro j x hx
  have hc := ho.cells (g := g) rfl j (S x) (by rw [List.getElem?_map, hx]; rfl)
  rw [show (⟨g, 0, none⟩ : Addr).add j = ⟨g, j, none⟩ from by unfold Addr.add; split <;> simp_all] at hc
  exact hc
end Go.Proofs.YtpanlhbdphobdaaGreatDoor
