/-
  host: an answer: contract.
-/
import Derived.Test.YtnfaaiifbiobiaaDoorHostD
namespace Go.Proofs.YtnfaaiifbiobiaaDoor
open Go.RowKit
set_option linter.unusedVariables false

/-- the rules are right -/
def AllR (rs : List HR) : Prop := ∀ r ∈ rs, rightH r = true ∧ r.word ≤ 18446744073709551615
theorem right_way {r : HR} (h : rightH r = true) : 0 ≤ r.way ∧ r.way ≤ 4 := by
  unfold rightH at h
  simp only [Bool.and_eq_true, decide_eq_true_eq] at h
  exact ⟨h.1.1.2, h.1.2⟩
theorem sumF_le (l : List Nat) : ∀ v, v ≤ 18446744073709551615 → sumF v l ≤ 18446744073709551615 := by
  induction l with
  | nil => intro v hv; exact hv
  | cons b r ih => intro v hv; exact ih ((v + b) % 18446744073709551616) (by omega)
theorem resultH_le (r : HR) (k : Nat) (gs : List Nat) (hw : r.word ≤ 18446744073709551615) (hg : ∀ g ∈ gs, g ≤ 18446744073709551615) : resultH r k gs ≤ 18446744073709551615 := by
  unfold resultH
  split
  · exact sumF_le gs _ hw
  · split
    · omega
    · split
      · cases h : gs.getLast? with
        | none => simpa using hw
        | some x => exact hg x (List.mem_of_getLast? h)
      · exact hw
theorem result_any (r : HR) (k : Nat) (A : Option Addr) (c : Nat) (gs : List Nat) (w : World) (hr : rightH r = true) (hv : r.word ≤ 18446744073709551615) (hk : k ≤ 1000) (hrd : Hid (Reads w w.heap.size 1 A gs.length (gs.map U))) (hl : gs.length ≤ 1000) :
    Calls Tryd.prog 24 #[.agg #[.string ⟨r.m.toArray⟩, .string ⟨r.n.toArray⟩, .int .i64 r.way, .int .u64 (r.word : Int)], .int .i64 (k : Int), .slice A gs.length c] w fun e w' => e = .returned (.int .u64 (resultH r k gs : Int)) ∧ Hid (Below w.heap.size w w') := by
  obtain ⟨h0, h4⟩ := right_way hr
  obtain ⟨m, n, way, v⟩ := r
  simp only at h0 h4 hv ⊢
  unfold resultH
  simp only
  by_cases e2 : way = 2
  · subst e2; exact result_sum _ _ v k A c gs w hv hrd hl
  · by_cases e3 : way = 3
    · subst e3; exact result_count _ _ v k A c _ w hv hk
    · by_cases e4 : way = 4
      · subst e4; exact result_last _ _ v k A c gs w hv hrd hl
      · rw [if_neg e2, if_neg e3, if_neg e4]; exact result_plain _ _ v way k A c _ w hv (by omega)

/-- a word of so many bits -/
def cutU (t : UInt8) (x : Nat) : Nat := if t.toNat = 127 then x % 4294967296 else x
theorem cut_bits (t : UInt8) (x : Nat) : (if bitsV t = 32 then (x : Int) % 4294967296 else (x : Int)) = (cutU t x : Int) := by
  unfold bitsV cutU
  by_cases h : t.toNat = 127
  · simp [h]
  · rw [if_neg h]
    by_cases h2 : t.toNat = 126
    · simp [h2]
    · simp [h, h2]
theorem u64_elem : IsElem Tryd.prog 37 26 1 8 := IsElem.mk' Tryd.underlying37 (z := .int .u64 0) (by kernel_rfl) rfl (by omega)
theorem findH_some {rs : List HR} {xm xn : List UInt8} {i k : Nat} (h : findH rs xm xn i = some k) : i ≤ k ∧ k < i + rs.length ∧ ∃ r, rs[k - i]? = some r ∧ fitsH r xm xn = true := by
  induction rs generalizing i with
  | nil => cases h
  | cons r l ih =>
    unfold findH at h
    by_cases hq : fitsH r xm xn = true
    · rw [if_pos hq] at h
      injection h with h
      subst h
      exact ⟨Nat.le_refl _, by simp, r, by simp, hq⟩
    · rw [if_neg hq] at h
      obtain ⟨h1, h2, r', h3, h4⟩ := ih h
      refine ⟨by omega, by simp; omega, r', ?_, h4⟩
      rw [show k - i = (k - (i + 1)) + 1 from by omega, List.getElem?_cons_succ]
      exact h3

/-- an answer -/
def AnsPost (w : World) (hb ga : Nat) (Al : Option Addr) (n cl : Nat) (rs : List HR) (qs : List Nat) (k v : Nat) (r : HR) (ts : List UInt8) (gs : List Nat) (e : Ending) (w' : World) : Prop :=
  Hid (Only [ga] w w') ∧ Hid (HO w' hb ga Al n cl rs (qs.set k (v + 1))) ∧
  ((r.way = 0 ∧ e = .returned (.tuple #[.slice none 0 0, .bool false])) ∨
   (r.way ≠ 0 ∧ ∃ A c, e = .returned (.tuple #[.slice A ts.length c, .bool true]) ∧ Hid (Reads w' w'.heap.size 1 A ts.length ((ts.map fun t => cutU t (resultH r (v + 1) gs)).map U)) ∧ Hid (∀ ad, 0 < ts.length → A = some ad → w.heap.size ≤ ad.block)))

theorem answer_none (xm xn : List UInt8) (sg : Int) (pv rv gv : Value) (w : World) :
    Calls Tryd.prog 10 #[.pointer none, .agg #[.string ⟨xm.toArray⟩, .string ⟨xn.toArray⟩, .int .i64 sg], .agg #[pv, rv], gv] w fun e w' => e = .returned (.tuple #[.slice none 0 0, .bool false]) ∧ Hid (Below w.heap.size w w') := by
  obtain ⟨W, hW⟩ : ∃ W, (w.alloc (.cells #[.string ⟨xm.toArray⟩, .string ⟨xn.toArray⟩, .int .i64 sg] 35)).alloc (.cells #[pv, rv] 47) = W := ⟨_, rfl⟩
  have hb : Below w.heap.size w W := by rw [← hW]; exact ((Below.refl _ _).alloc (Nat.le_refl _) _).alloc (by simp) _
  have hx : W.heap[w.heap.size]? = some (.cells #[.string ⟨xm.toArray⟩, .string ⟨xn.toArray⟩, .int .i64 sg] 35 (0, 0)) := by
    rw [← hW]
    exact ((Below.refl (w.heap.size + 1) _).alloc (by simp) _).block w.heap.size (by omega) |>.trans (heap_alloc_new w _)
  have b0 := cell_blk hx 0
  have b1 := cell_blk hx 1
  have b2 := cell_blk hx 2
  simp at b0 b1 b2
  have HR := hide (rule_none xm xn sg W)
  have HB := hide hb; have HW := hide hW
  clear hb hW hx
  go_enter Tryd.func10, Tryd.ntmps10
  go_upto_region 1 with fail
  rw [HW.out]
  go_wp2_with fail
  refine HR.out.mono ?_; rintro e w2 ⟨rfl, h2⟩
  go_wp2_with fail
  go_ret2
  exact ⟨rfl, HB.out.trans (h2.out.mono HB.out.size)⟩

set_option maxHeartbeats 800000 in
theorem answer_miss (hb ga : Nat) (Al : Option Addr) (n cl : Nat) (rs : List HR) (qs : List Nat) (xm xn : List UInt8) (sg : Int) (pv rv gv : Value) (w : World) (h : Hid (HO w hb ga Al n cl rs qs)) (hf : Hid (findH rs xm xn 0 = none)) :
    Calls Tryd.prog 10 #[.pointer (some ⟨hb, 0, none⟩), .agg #[.string ⟨xm.toArray⟩, .string ⟨xn.toArray⟩, .int .i64 sg], .agg #[pv, rv], gv] w fun e w' => e = .returned (.tuple #[.slice none 0 0, .bool false]) ∧ Hid (Below w.heap.size w w') := by
  obtain ⟨W, hW⟩ : ∃ W, (w.alloc (.cells #[.string ⟨xm.toArray⟩, .string ⟨xn.toArray⟩, .int .i64 sg] 35)).alloc (.cells #[pv, rv] 47) = W := ⟨_, rfl⟩
  have hb : Below w.heap.size w W := by rw [← hW]; exact ((Below.refl _ _).alloc (Nat.le_refl _) _).alloc (by simp) _
  have hx : W.heap[w.heap.size]? = some (.cells #[.string ⟨xm.toArray⟩, .string ⟨xn.toArray⟩, .int .i64 sg] 35 (0, 0)) := by
    rw [← hW]
    exact ((Below.refl (w.heap.size + 1) _).alloc (by simp) _).block w.heap.size (by omega) |>.trans (heap_alloc_new w _)
  have b0 := cell_blk hx 0
  have b1 := cell_blk hx 1
  have b2 := cell_blk hx 2
  simp at b0 b1 b2
  have h1 := hide (h.out.below hb)
  have HR := hide (rule_any _ ga Al n cl rs qs xm xn sg W h1)
  rw [hf.out] at HR
  have HB := hide hb; have HW := hide hW
  clear hb hW hx h h1
  go_enter Tryd.func10, Tryd.ntmps10
  go_upto_region 1 with fail
  rw [HW.out]
  go_wp2_with fail
  refine HR.out.mono ?_; rintro e w2 ⟨rfl, h2⟩
  simp only [Option.isSome]
  go_wp2_with fail
  go_ret2
  exact ⟨rfl, HB.out.trans (h2.out.mono HB.out.size)⟩

set_option maxRecDepth 100000 in
set_option maxHeartbeats 1600000 in
theorem answer_hit (hb ga : Nat) (Al : Option Addr) (n cl : Nat) (rs : List HR) (qs : List Nat) (xm xn : List UInt8) (sg : Int) (pv : Value) (At : Option Addr) (ct : Nat) (ts : List UInt8) (Ag : Option Addr) (cg : Nat) (gs : List Nat) (k v : Nat) (r : HR) (w : World)
    (h : Hid (HO w hb ga Al n cl rs qs)) (hf : Hid (findH rs xm xn 0 = some k)) (hr : Hid (rs[k]? = some r)) (hq : Hid (qs[k]? = some v)) (hv : v ≤ 999) (hR : Hid (AllR rs))
    (ht : Hid (∀ W, Only [ga] w W → Reads W W.heap.size 1 At ts.length (ts.map B))) (hg : Hid (∀ W, Only [ga] w W → Reads W W.heap.size 1 Ag gs.length (gs.map U))) (htl : ts.length ≤ 100) (hgl : gs.length ≤ 100) (hgu : Hid (∀ g ∈ gs, g ≤ 18446744073709551615)) :
    Calls Tryd.prog 10 #[.pointer (some ⟨hb, 0, none⟩), .agg #[.string ⟨xm.toArray⟩, .string ⟨xn.toArray⟩, .int .i64 sg], .agg #[pv, .slice At ts.length ct], .slice Ag gs.length cg] w
      (AnsPost w hb ga Al n cl rs qs k v r ts gs) := by
  have hkn : k < n := by
    have := (List.getElem?_eq_some_iff.1 hr.out).1
    have := h.out.len
    omega
  have hn := h.out.few
  have hmem := List.mem_of_getElem? hr.out
  obtain ⟨hright, hword⟩ := hR.out r hmem
  have hway := right_way hright
  obtain ⟨W1, hW1⟩ : ∃ W, w.alloc (.cells #[.string ⟨xm.toArray⟩, .string ⟨xn.toArray⟩, .int .i64 sg] 35) = W := ⟨_, rfl⟩
  obtain ⟨W, hW⟩ : ∃ W, W1.alloc (.cells #[pv, .slice At ts.length ct] 47) = W := ⟨_, rfl⟩
  have hbA : Below w.heap.size w W1 := by rw [← hW1]; exact (Below.refl _ _).alloc (Nat.le_refl _) _
  have hbB : Below W1.heap.size W1 W := by rw [← hW]; exact (Below.refl _ _).alloc (Nat.le_refl _) _
  have hb1 : Below w.heap.size w W := hbA.trans (hbB.mono hbA.size)
  have hxA : W1.heap[w.heap.size]? = some (.cells #[.string ⟨xm.toArray⟩, .string ⟨xn.toArray⟩, .int .i64 sg] 35 (0, 0)) := by rw [← hW1]; exact heap_alloc_new w _
  have hx := (hbB.block _ (blk_lt hxA)).trans hxA
  have hy : W.heap[W1.heap.size]? = some (.cells #[pv, .slice At ts.length ct] 47 (0, 0)) := by rw [← hW]; exact heap_alloc_new W1 _
  have b0 := cell_blk hx 0
  have b1 := cell_blk hx 1
  have b2 := cell_blk hx 2
  simp at b0 b1 b2
  have h1 := hide (h.out.below hb1)
  have HRU := hide (rule_any _ ga Al n cl rs qs xm xn sg W h1)
  rw [hf.out] at HRU
  have hgaw : ga < w.heap.size := blk_lt h.out.asked
  have hyb : W1.heap.size = w.heap.size + 1 := by rw [← hW1]; simp
  have hyg : w.heap.size + 1 ≠ ga := by omega
  rw [hyb] at hy
  have HYW : Hid (w.heap.size + 1 < W.heap.size) := blk_lt hy
  have HY := hide hy
  have HYG := hide hyg
  have HB := hide hb1; have HW1 := hide hW1; have HW := hide hW
  have HYS : Hid (w.heap.size ≤ W.heap.size) := hb1.size
  clear hbA hbB hb1 hW1 hW hxA hx hy hyg hyb h hmem
  have HGA := hide hgaw
  clear hgaw
  go_enter Tryd.func10, Tryd.ntmps10
  go_upto_region 1 with fail
  rw [HW1.out, HW.out]
  go_wp2_with fail
  refine HRU.out.mono ?_; rintro e w3 ⟨rfl, h3⟩
  simp only [Option.isSome, Option.getD]
  clear b0 b1 b2 HRU
  have H3 := hide (h1.out.below h3.out)
  have c0 := cell_blk H3.out.blk 0
  have c1 := cell_blk H3.out.blk 1
  simp at c0 c1
  have HAD := hide (add_one ga k v w3 (H3.out.count_at hq.out) (frozen_blk H3.out.asked k) (by omega))
  go_wp2_with fail
  refine HAD.out.mono ?_; rintro e w4 ⟨rfl, hw4⟩
  clear c0 c1 HAD
  have H4 : Hid (HO w4 hb ga Al n cl rs (qs.set k (v + 1))) := by rw [hw4]; exact H3.out.count k (v + 1)
  have o34 : Only [ga] w3 w4 := by rw [hw4]; exact Only.setCell w3 (p := ⟨ga, k, none⟩) (by simp) _
  have O4 : Hid (Only [ga] w w4) := ((Only.of_below HB.out).trans (Only.of_below h3.out)).trans o34
  have hy4 : w4.heap[w.heap.size + 1]? = some (.cells #[pv, .slice At ts.length ct] 47 (0, 0)) := (o34.block (w.heap.size + 1) (Nat.lt_of_lt_of_le HYW.out h3.out.size) (by simp [HYG.out])).trans ((h3.out.block (w.heap.size + 1) HYW.out).trans HY.out)
  have HY4 := hide hy4
  clear hw4 o34 h3 H3 h1 hy4
  have c0 := cell_blk H4.out.blk 0
  have c1 := cell_blk H4.out.blk 1
  simp at c0 c1
  have hrd4 : Reads w4 w4.heap.size 4 Al rs.length (rs.flatMap hrV) := by rw [H4.out.len]; exact H4.out.rules
  obtain ⟨ad, r2, rfl, hr2, u0, u1, u2, u3, _⟩ := rule_at hrd4 (i := k) (by rw [H4.out.len]; exact hkn)
  have hrr : r2 = r := by have a1 := hr2.out; have a2 := hr.out; rw [a2] at a1; injection a1 with a1; exact a1.symm
  subst hrr
  clear hrd4 hr2
  by_cases hz : r2.way = 0
  · have fz : (r2.way == 0) = true := by simp [hz]
    have HZ := hide hz
    clear hz
    go_wp2_with fail
    go_ret2
    exact ⟨O4, H4, .inl ⟨HZ.out, rfl⟩⟩
  · have fz : (r2.way == 0) = false := by simp [hz]
    have HZ := hide hz
    clear hz
    have hg4 : Hid (Reads w4 w4.heap.size 1 Ag gs.length (gs.map U)) := hg.out w4 O4.out
    have HRS := hide (result_any r2 (v + 1) Ag cg gs w4 hright hword (by omega) hg4 (by omega))
    have hRL := resultH_le r2 (v + 1) gs hword hgu.out
    have HRR : Hid (∃ R, resultH r2 (v + 1) gs = R) := ⟨_, rfl⟩
    obtain ⟨R, hRR⟩ := HRR.out
    rw [hRR] at HRS hRL
    have HR2 := hide hRR
    clear hRR HRR
    go_wp2_with fail
    refine HRS.out.mono ?_; rintro e w5 ⟨rfl, h5⟩
    have O5 : Hid (Only [ga] w w5) := O4.out.trans (Only.of_below h5.out)
    have H5 := hide (H4.out.below h5.out)
    have hy5 : w5.heap[w.heap.size + 1]? = some (.cells #[pv, .slice At ts.length ct] 47 (0, 0)) := (h5.out.block _ (blk_lt HY4.out)).trans HY4.out
    have ht5 : Hid (Reads w5 w5.heap.size 1 At ts.length (ts.map B)) := ht.out w5 O5.out
    have y1 := cell_blk hy5 1
    simp at y1
    have hws : w.heap.size ≤ w5.heap.size := O5.out.size
    have HWS := hide hws
    clear hy5 c0 c1 u0 u1 u2 u3 fz HY4 hg4 H4 O4 h5 HRS hws hway hright hword
    obtain ⟨base, hbase⟩ : ∃ b, w5.heap.size = b := ⟨_, rfl⟩
    have HBA := hide hbase
    have hb0 : Hid (Below base w5 w5) := by show Below _ _ _; rw [← hbase]; exact Below.refl _ _
    have hbs0 : base ≤ w5.heap.size := by omega
    rw [hbase] at ht5
    clear hbase
    go_wp2_with fail
    clear y1
    go_loopw [14, 16, 54] (fun o _ i w1 => ∃ j : Nat, i = .int .i64 j ∧ j ≤ ts.length ∧ Hid (w1.ownsRow base 26 1 o j ((ts.take j).map fun t => U (cutU t R))) ∧ Hid (Below base w5 w1) ∧ base ≤ w1.heap.size) (fun _ _ i _ => ts.length - (intOf i).toNat)
    case atStart => exact ⟨0, rfl, by omega, own_nil _ _ _ _, hb0, hbs0⟩
    case round =>
      obtain ⟨j, rfl, hj, ho, hbw, hbs⟩ := hrel
      by_cases hlt : j < ts.length
      · have hrk : Reads wr base 1 At ts.length (ts.map B) := ht5.out.below hbw.out
        obtain ⟨ad2, c, rfl, hc, hcell, hc0, hc1⟩ := hrk.byte (k := j) hlt
        have HST : Hid (ts.take (j + 1) = ts.take j ++ [c]) := by show _ = _; rw [List.take_add_one, hc.out]; rfl
        have hroom : Room j 1 8 := room_of (by omega) (by omega)
        have HBI := hide (tbits_any c wr)
        have HCU : Hid (Calls Tryd.prog 25 #[.int .i64 (bitsV c), .int .u64 (R : Int)] wr fun e w' => e = .returned (.int .u64 (cutU c R : Int)) ∧ wr = w') := by
          have h1 := cut_any (bitsV c) (R : Int) wr (by omega) (by omega)
          rw [cut_bits] at h1
          exact h1
        clear hrk
        go_wp2_with fail
        refine HBI.out.mono ?_; rintro e w6 ⟨rfl, rfl⟩
        go_wp2_with fail
        refine HCU.out.mono ?_; rintro e w6 ⟨rfl, rfl⟩
        go_wp2_with (at_builtin; refine wpList_push rfl _ _ rfl base u64_elem _ j ((ts.take j).map fun t => U (cutU t R)) rfl wr (U (cutU c R)) _ rfl ho.out rfl rfl hroom hbs ?_; intro v' w' ho' hg')
        go_roundw
        case rel =>
          refine ⟨j + 1, by go_num, by omega, ?_, hbw.out.grown hg'.by_ hbs (own_ge ho.out), Nat.le_trans hbs hg'.by_.size⟩
          show World.ownsRow _ _ _ _ _ _ _
          rw [HST.out, List.map_append, List.map_singleton]
          exact ho'
        case measure => simp [intOf] <;> omega
      · have hkn' : j = ts.length := by omega
        subst hkn'
        have hfull := ho.out
        rw [List.take_length] at hfull
        obtain ⟨A2, c2, hv2, hc2, _⟩ := own_form hfull
        subst hv2
        have HF := hide hfull
        clear hlt hfull ho
        go_wp2_with fail
        go_ret2
        have hle : base ≤ w5.heap.size := by rw [HBA.out]; omega
        have hbl : Below w5.heap.size w5 wr := by rw [HBA.out]; exact hbw.out
        refine ⟨O5.out.trans (Only.of_below hbl), H5.out.below hbl, .inr ⟨HZ.out, A2, c2, rfl, ?_, ?_⟩⟩
        · show Reads _ _ _ _ _ _
          rw [HR2.out, List.map_map]
          exact Reads.of_own HF.out
        · intro ad3 hpos e
          have := own_ge HF.out ad3.block (by rw [e]; rfl)
          have := HBA.out
          have := HWS.out
          omega
end Go.Proofs.YtnfaaiifbiobiaaDoor
