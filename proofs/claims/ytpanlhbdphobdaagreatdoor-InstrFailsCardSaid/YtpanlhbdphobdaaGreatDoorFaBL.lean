/-
  op: Named's closure: contract.
-/
import Derived.Test.YtpanlhbdphobdaaGreatDoorFaBK
namespace Go.Proofs.YtpanlhbdphobdaaGreatDoor
open Go.RowKit
set_option linter.unusedVariables false

set_option maxHeartbeats 800000 in
theorem named1_any (x : IOp) (nb : Nat) (nm : ByteArray) (w : World) (hx : Hid (w.heap[nb]? = some (.cells #[.string nm] 9 (0, 0)))) :
    Calls Tryz.prog 74 #[.agg #[.int .i64 (x.c.val : Int), .string x.name, .int .i64 x.form, .slice x.A1 x.n1 x.c1, .slice x.A2 x.n2 x.c2], .pointer (some ⟨nb, 0, none⟩)] w fun e w' => e = .returned (.bool (x.name.toList == nm.toList)) ∧ Hid (Below w.heap.size w w') := by
  obtain ⟨W, hW⟩ : ∃ W, w.alloc (.cells #[.int .i64 (x.c.val : Int), .string x.name, .int .i64 x.form, .slice x.A1 x.n1 x.c1, .slice x.A2 x.n2 x.c2] 63) = W := ⟨_, rfl⟩
  have hb : Below w.heap.size w W := by rw [← hW]; exact (Below.refl _ _).alloc (Nat.le_refl _) _
  have hr : W.heap[w.heap.size]? = some (.cells #[.int .i64 (x.c.val : Int), .string x.name, .int .i64 x.form, .slice x.A1 x.n1 x.c1, .slice x.A2 x.n2 x.c2] 63 (0, 0)) := by rw [← hW]; exact heap_alloc_new w _
  have hx2 := (hb.block nb (blk_lt hx.out)).trans hx.out
  have a1 := cell_blk hr 1
  have b0 := cell_blk hx2 0
  simp at a1 b0
  have HB := hide hb; have HW := hide hW
  clear hb hW hr hx2 hx
  go_enter Tryz.func74, Tryz.ntmps74
  go_upto_region 1 with fail
  rw [HW.out]
  go_wp2_with fail
  go_ret
  exact ⟨rfl, HB⟩
/-- the first op of a name, from place i on -/
def nameI : List IOp → ByteArray → Nat → Option Nat
  | [], _, _ => none
  | y :: l, nm, i => if y.name.toList == nm.toList then some i else nameI l nm (i + 1)
def idxN : Option Nat → Int
  | some k => k
  | none => -1
theorem nameI_drop (ys : List IOp) (nm : ByteArray) {k : Nat} {y : IOp} (hr : ys[k]? = some y) (i : Nat) : nameI (ys.drop k) nm i = if y.name.toList == nm.toList then some i else nameI (ys.drop (k + 1)) nm (i + 1) := by
  obtain ⟨j1, j2⟩ := List.getElem?_eq_some_iff.1 hr
  rw [List.drop_eq_getElem_cons j1, j2]
  rfl
/-- one op of those that lie there -/
theorem op_at {w : World} {Bk : Nat} {A : Option Addr} {n : Nat} {ys : List IOp} (h : Reads w Bk 5 A n (ys.flatMap opV)) (hn : ys.length = n) {i : Nat} (hi : i < n) :
    ∃ (ad : Addr) (y : IOp), A = some ad ∧ Hid (ys[i]? = some y) ∧ w.cell? (ad.add (i * 5)) = some (.int .i64 (y.c.val : Int)) ∧ w.cell? ⟨(ad.add (i * 5)).block, (ad.add (i * 5)).off + 1, none⟩ = some (.string y.name) ∧
      w.cell? ⟨(ad.add (i * 5)).block, (ad.add (i * 5)).off + 2, none⟩ = some (.int .i64 y.form) ∧ w.cell? ⟨(ad.add (i * 5)).block, (ad.add (i * 5)).off + 3, none⟩ = some (.slice y.A1 y.n1 y.c1) ∧ w.cell? ⟨(ad.add (i * 5)).block, (ad.add (i * 5)).off + 4, none⟩ = some (.slice y.A2 y.n2 y.c2) := by
  subst hn
  obtain ⟨ad, h1, hb, h2⟩ := h.2 (by omega)
  have hg := List.getElem?_eq_getElem hi
  have hk : ∀ j, j < 5 → ∀ u, (opV ys[i])[j]? = some u → w.cell? ((ad.add (i * 5)).add j) = some u := by
    intro j hj u hu
    rw [add_of_add]
    refine h2 _ _ ?_
    rw [flatMap_get (size := 5) (fun _ => rfl) ys i j _ hg hj]
    exact hu
  have ha : ∀ j, 0 < j → (ad.add (i * 5)).add j = ⟨(ad.add (i * 5)).block, (ad.add (i * 5)).off + j, none⟩ := by
    intro j hj
    conv => lhs; unfold Addr.add
    split
    · omega
    · rfl
  refine ⟨ad, ys[i], h1, hg, ?_, ?_, ?_, ?_, ?_⟩
  · have := hk 0 (by omega) _ rfl
    rw [show (ad.add (i * 5)).add 0 = ad.add (i * 5) from by simp [Addr.add]] at this
    exact this
  · rw [← ha 1 (by omega)]; exact hk 1 (by omega) _ rfl
  · rw [← ha 2 (by omega)]; exact hk 2 (by omega) _ rfl
  · rw [← ha 3 (by omega)]; exact hk 3 (by omega) _ rfl
  · rw [← ha 4 (by omega)]; exact hk 4 (by omega) _ rfl
theorem nameI_none : ∀ (ys : List IOp) (nm : ByteArray) (i : Nat), nameI ys nm i = none → ∀ y ∈ ys, y.name ≠ nm := by
  intro ys
  induction ys with
  | nil => intro nm i _ y hy; simp at hy
  | cons x r ih =>
    intro nm i h y hy
    unfold nameI at h
    split at h
    · cases h
    · rename_i hq
      rcases List.mem_cons.1 hy with rfl | hy
      · intro e; subst e; exact hq (by simp)
      · exact ih nm (i + 1) h y hy
theorem nameI_some : ∀ (ys : List IOp) (nm : ByteArray) (i k : Nat), nameI ys nm i = some k → ∃ y, i ≤ k ∧ ys[k - i]? = some y ∧ y.name = nm := by
  intro ys
  induction ys with
  | nil => intro nm i k h; cases h
  | cons x r ih =>
    intro nm i k h
    unfold nameI at h
    split at h
    · rename_i hq
      injection h with h
      subst h
      refine ⟨x, Nat.le_refl _, by simp, ?_⟩
      have : x.name.toList = nm.toList := by simpa using hq
      rw [ByteArray.toList_eq, ByteArray.toList_eq] at this
      cases hx : x.name with
      | mk d => cases hn : nm with
        | mk e => rw [hx, hn] at this; simp only at this; rw [Array.toList_inj.1 this]
    · obtain ⟨y, h1, h2, h3⟩ := ih nm (i + 1) k h
      refine ⟨y, by omega, ?_, h3⟩
      rw [show k - i = (k - (i + 1)) + 1 from by omega]
      simpa using h2
/-- what a name finds, in whatever order the ops stand -/
theorem named_none {ys : List IOp} {rs : List OpRow} (hp : rs.Perm allRows) (hk : ys.map IOp.key = rs.map OpRow.key) {nm : ByteArray} (h : nameI ys nm 0 = none) : namedR nm = none := by
  cases hn : namedR nm with
  | none => rfl
  | some r =>
    obtain ⟨h1, h2⟩ := namedR_some hn
    have h3 : r.key ∈ ys.map IOp.key := by rw [hk]; exact List.mem_map_of_mem (hp.mem_iff.2 h1)
    obtain ⟨y, hy, hyk⟩ := List.mem_map.1 h3
    have := nameI_none ys nm 0 h y hy
    simp only [IOp.key, OpRow.key, Prod.mk.injEq] at hyk
    exact absurd (hyk.2.1.trans h2) this
theorem named_some {ys : List IOp} {rs : List OpRow} (hp : rs.Perm allRows) (hk : ys.map IOp.key = rs.map OpRow.key) {nm : ByteArray} {k : Nat} (h : nameI ys nm 0 = some k) : ∃ y r, ys[k]? = some y ∧ namedR nm = some r ∧ (y.c.val : Int) = r.code ∧ y.name = r.name ∧ y.form = r.form := by
  obtain ⟨y, _, h2, h3⟩ := nameI_some ys nm 0 k h
  rw [Nat.sub_zero] at h2
  have h4 : (rs.map OpRow.key)[k]? = some y.key := by rw [← hk, List.getElem?_map, h2]; rfl
  rw [List.getElem?_map] at h4
  cases hr : rs[k]? with
  | none => rw [hr] at h4; cases h4
  | some r =>
    rw [hr] at h4
    injection h4 with h4
    simp only [IOp.key, OpRow.key, Prod.mk.injEq] at h4
    refine ⟨y, r, h2, ?_, h4.1.symm, h4.2.1.symm, h4.2.2.symm⟩
    rw [← h3, ← h4.2.1]
    exact namedR_of (hp.mem_iff.1 (List.mem_of_getElem? hr))
theorem idxN_ge (o : Option Nat) : -1 ≤ idxN o := by cases o <;> simp [idxN] <;> omega
set_option maxRecDepth 100000 in
set_option maxHeartbeats 1600000 in
theorem nameIdx_any (A : Option Addr) (c : Nat) (ys : List IOp) (nb : Nat) (nm : ByteArray) (w : World) (hr : Hid (Reads w w.heap.size 5 A ys.length (ys.flatMap opV))) (hl : ys.length ≤ 1000) (hx : Hid (w.heap[nb]? = some (.cells #[.string nm] 9 (0, 0)))) :
    Calls Tryz.prog 73 #[.slice A ys.length c, .func (.func 74) #[] #[.pointer (some ⟨nb, 0, none⟩)]] w fun e w' => e = .returned (.int .i64 (idxN (nameI ys nm 0))) ∧ Hid (Below w.heap.size w w') := by
  go_enter Tryz.func73, Tryz.ntmps73
  go_wp2_with fail
  go_loopw [4, 5, 8] (fun r v i w1 => ∃ k : Nat, r = .int .i64 0 ∧ i = .int .i64 k ∧ k ≤ ys.length ∧ Hid (Below w.heap.size w w1) ∧ Hid (nameI ys nm 0 = nameI (ys.drop k) nm k)) (fun _ _ i _ => ys.length - (intOf i).toNat)
  case atStart => exact ⟨0, rfl, rfl, by omega, Below.refl _ _, rfl⟩
  case round =>
    obtain ⟨k, rfl, rfl, hk, hbw, hf⟩ := hrel
    by_cases hlt : k < ys.length
    · obtain ⟨ad, y, hA, hy, u0, u1, u2, u3, u4⟩ := op_at (hr.out.below hbw.out) rfl hlt
      subst hA
      have hx1 : Hid (wr.heap[nb]? = some (.cells #[.string nm] 9 (0, 0))) := (hbw.out.block nb (blk_lt hx.out)).trans hx.out
      have HC := hide (named1_any y nb nm wr hx1)
      have hstep := nameI_drop ys nm hy.out k
      rw [← hf.out] at hstep
      have hki : (k : Int) < (ys.length : Int) := by omega
      cases hq : (y.name.toList == nm.toList) with
      | true =>
        rw [hq, if_pos rfl] at hstep
        rw [hq] at HC
        have HS := hide hstep
        clear hstep hq hf hy
        go_wp2_with fail
        refine HC.out.mono ?_; rintro e w2 ⟨rfl, h2⟩
        go_wp2_with fail
        go_ret
        exact ⟨by rw [HS.out]; rfl, hbw.out.trans (h2.out.mono hbw.out.size)⟩
      | false =>
        rw [hq, if_neg (by simp)] at hstep
        rw [hq] at HC
        have HS : Hid (nameI ys nm 0 = nameI (ys.drop (k + 1)) nm (k + 1)) := hstep
        clear hstep hq hf hy
        go_wp2_with fail
        refine HC.out.mono ?_; rintro e w2 ⟨rfl, h2⟩
        have HB2 : Hid (Below w.heap.size w w2) := hbw.out.trans (h2.out.mono hbw.out.size)
        clear h2 HC u0 u1 u2 u3 u4
        go_wp2_with fail
        go_roundw
        case rel => exact ⟨k + 1, rfl, by go_num, by omega, HB2, HS⟩
        case measure => simp [intOf] <;> omega
    · have hnone : Hid (nameI ys nm 0 = none) := by
        have := hf.out
        rw [List.drop_of_length_le (by omega)] at this
        exact this
      clear hf
      go_wp2_with fail
      go_ret
      exact ⟨by rw [hnone.out]; rfl, hbw⟩

/-- what Named answers -/
def NamedP (nm : ByteArray) (w : World) (e : Ending) (w' : World) : Prop :=
  ∃ (c f : Int) (n : ByteArray) (A1 A2 : Option Addr) (n1 c1 n2 c2 : Nat) (ok : Bool), e = .returned (.tuple #[.agg #[.int .i64 c, .string n, .int .i64 f, .slice A1 n1 c1, .slice A2 n2 c2], .bool ok]) ∧
    Hid ((ok = true → ∃ r, namedR nm = some r ∧ c = r.code ∧ n = r.name ∧ f = r.form) ∧ (ok = false → namedR nm = none ∧ c = 0 ∧ f = 0)) ∧ Hid (Below w.heap.size w w')
/-- a struct of five cells, stored -/
theorem opinfo_put {w : World} {g : Nat} {a b c d e : Value} (h : w.heap[g]? = some (.cells #[a, b, c, d, e] 63 (0, 0))) (a' b' c' d' e' : Value) :
    ∃ W : World, ((((w.setCell ⟨g, 0, none⟩ a').setCell ⟨g, 1, none⟩ b').setCell ⟨g, 2, none⟩ c').setCell ⟨g, 3, none⟩ d').setCell ⟨g, 4, none⟩ e' = W ∧ Only [g] w W ∧ W.heap[g]? = some (.cells #[a', b', c', d', e'] 63 (0, 0)) := by
  refine ⟨_, rfl, ((((Only.setCell w (p := ⟨g, 0, none⟩) (by simp) a').trans (Only.setCell _ (p := ⟨g, 1, none⟩) (by simp) b')).trans (Only.setCell _ (p := ⟨g, 2, none⟩) (by simp) c')).trans (Only.setCell _ (p := ⟨g, 3, none⟩) (by simp) d')).trans (Only.setCell _ (p := ⟨g, 4, none⟩) (by simp) e'), ?_⟩
  rw [setCell_blk (setCell_blk (setCell_blk (setCell_blk (setCell_blk h 0 _) 1 _) 2 _) 3 _) 4 _]
  rfl
set_option maxRecDepth 100000 in
set_option maxHeartbeats 1600000 in
theorem named_any (nm : ByteArray) (w : World) : Calls Tryz.prog 35 #[.string nm] w (NamedP nm w) := by
  obtain ⟨W, hW⟩ : ∃ W, (w.alloc (.cells #[.string nm] 9)).alloc (.cells #[.int .i64 0, .string ⟨#[]⟩, .int .i64 0, .slice none 0 0, .slice none 0 0] 63) = W := ⟨_, rfl⟩
  obtain ⟨g, hg⟩ : ∃ g, w.heap.size = g := ⟨_, rfl⟩
  have hb : Below g w W := by rw [← hW, ← hg]; exact ((Below.refl _ _).alloc (Nat.le_refl _) _).alloc (by simp) _
  have hx1 : W.heap[g]? = some (.cells #[.string nm] 9 (0, 0)) := by rw [← hW, ← hg, Below.heap_alloc _ _ _ (by simp)]; exact heap_alloc_new w _
  have hx2 : W.heap[g + 1]? = some (.cells #[.int .i64 0, .string ⟨#[]⟩, .int .i64 0, .slice none 0 0, .slice none 0 0] 63 (0, 0)) := by
    rw [← hW, ← hg]
    have := heap_alloc_new (w.alloc (.cells #[.string nm] 9)) (.cells #[.int .i64 0, .string ⟨#[]⟩, .int .i64 0, .slice none 0 0, .slice none 0 0] 63)
    simpa using this
  have hsz : W.heap.size = g + 2 := by rw [← hW, ← hg]; simp
  have HALL := hide (all_any W)
  have hmf : ∀ (fn : Fn) (first cap : Array Value) (w : World), (Instr.makeFunc fn first cap).run Tryz.prog w = .ok (.func fn first cap) w := fun _ _ _ _ => rfl
  have HB := hide hb; have HW := hide hW; have HG := hide hg; have HX1 := hide hx1; have HX2 := hide hx2; have HSZ := hide hsz
  clear hb hW hg hx1 hx2 hsz
  go_enter Tryz.func35, Tryz.ntmps35
  go_upto_region 1 with fail
  rw [HW.out, HG.out]
  go_wp2_with fail
  refine HALL.out.mono ?_; rintro e w1 ⟨A, c, ys, rs, rfl, hs, hp, hb1⟩
  rw [HSZ.out] at hb1
  have hX1 : Hid (w1.heap[g]? = some (.cells #[.string nm] 9 (0, 0))) := (hb1.out.block g (by omega)).trans HX1.out
  have hX2 : Hid (w1.heap[g + 1]? = some (.cells #[.int .i64 0, .string ⟨#[]⟩, .int .i64 0, .slice none 0 0, .slice none 0 0] 63 (0, 0))) := (hb1.out.block (g + 1) (by omega)).trans HX2.out
  have HB1 : Hid (Below g w w1) := HB.out.trans (hb1.out.mono (by omega))
  have hyl : ys.length = 111 := by have := congrArg List.length hs.out.key; simpa [hs.out.len] using this
  have hrd : Hid (Reads w1 w1.heap.size 5 A ys.length (ys.flatMap opV)) := by show Reads _ _ _ _ _ _; rw [hyl]; exact Reads.of_own hs.out.own
  have hI := nameIdx_any A c ys g nm w1 hrd (by omega) hX1
  rw [hyl] at hI
  have HI := hide hI
  have HYL := hide hyl; have HKEY := hide hs.out.key
  have hg1 : g + 1 < w1.heap.size := blk_lt hX2.out
  clear HALL hs hI hyl hb1 HX1 HX2 HB HSZ HW
  go_upto_region 2 with fail
  cases hn : nameI ys nm 0 with
  | none =>
    rw [hn] at HI
    have HN := hide (named_none hp.out HKEY.out hn)
    simp only [idxN] at HI
    clear hn hrd
    go_wp2_with fail
    refine HI.out.mono ?_; rintro e w2 ⟨rfl, h2⟩
    have hX : Hid (w2.heap[g + 1]? = some (.cells #[.int .i64 0, .string ⟨#[]⟩, .int .i64 0, .slice none 0 0, .slice none 0 0] 63 (0, 0))) := (h2.out.block (g + 1) hg1).trans hX2.out
    have HB2 : Hid (Below g w w2) := HB1.out.trans (h2.out.mono (by omega))
    have z0 := frozen_blk hX.out 0
    have z1 := frozen_blk hX.out 1
    have z2 := frozen_blk hX.out 2
    have z3 := frozen_blk hX.out 3
    have z4 := frozen_blk hX.out 4
    have c0 := cell_blk hX.out 0
    have c1 := cell_blk hX.out 1
    have c2 := cell_blk hX.out 2
    have c3 := cell_blk hX.out 3
    have c4 := cell_blk hX.out 4
    simp at c0 c1 c2 c3 c4
    obtain ⟨WE, hWE, hOE, hBE⟩ := opinfo_put hX.out (.int .i64 0) (.string ⟨#[]⟩) (.int .i64 0) (.slice none 0 0) (.slice none 0 0)
    have HWE := hide hWE; have HOE := hide hOE; have HBE := hide hBE
    clear hWE hOE hBE h2 hX1 hX2
    go_wp2_with fail
    rw [HWE.out]
    clear z0 z1 z2 z3 z4 c0 c1 c2 c3 c4
    have t0 := cell_blk HBE.out 0
    have t1 := cell_blk HBE.out 1
    have t2 := cell_blk HBE.out 2
    have t3 := cell_blk HBE.out 3
    have t4 := cell_blk HBE.out 4
    simp at t0 t1 t2 t3 t4
    refine bodyPost_ret (v := .tuple #[.agg #[.int .i64 0, .string ⟨#[]⟩, .int .i64 0, .slice none 0 0, .slice none 0 0], .bool false]) (by simp [results, Tryz.results35, go_sem, t0, t1, t2, t3, t4]) rfl ?_
    exact ⟨0, 0, ⟨#[]⟩, none, none, 0, 0, 0, 0, false, rfl, ⟨fun h => (by cases h), fun _ => ⟨HN.out, rfl, rfl⟩⟩, by show Below _ _ _; rw [HG.out]; exact HB2.out.trans (HOE.out.below (by have := blk_lt hX.out; omega) (by simp))⟩
  | some k =>
    rw [hn] at HI
    obtain ⟨y, r, hy, hnr, hc, hnm, hf⟩ := named_some hp.out HKEY.out hn
    have hk : k < ys.length := (List.getElem?_eq_some_iff.1 hy).1
    obtain ⟨ad, y', hA, hy', u0, u1, u2, u3, u4⟩ := op_at hrd.out rfl hk
    have hyy : y' = y := by have := hy'.out; rw [hy] at this; injection this with this; exact this.symm
    subst hyy
    subst hA
    have HY : Hid ((y'.c.val : Int) = r.code ∧ y'.name = r.name ∧ y'.form = r.form) := ⟨hc, hnm, hf⟩
    have HNR := hide hnr
    have HYK := hide hy
    have hk111 : k < 111 := by have := HYL.out; omega
    simp only [idxN] at HI
    have hadlt : Hid (ad.block < w1.heap.size) := by
      obtain ⟨ad2, e2, hlt, _⟩ := hrd.out.2 (by omega)
      injection e2 with e2
      subst e2
      exact hlt
    have hkk : ¬ (k : Int) < 0 := by omega
    clear hn hy hnr hc hnm hf hy' hk
    go_wp2_with fail
    refine HI.out.mono ?_; rintro e w2 ⟨rfl, h2⟩
    have hX : Hid (w2.heap[g + 1]? = some (.cells #[.int .i64 0, .string ⟨#[]⟩, .int .i64 0, .slice none 0 0, .slice none 0 0] 63 (0, 0))) := (h2.out.block (g + 1) hg1).trans hX2.out
    have HB2 : Hid (Below g w w2) := HB1.out.trans (h2.out.mono (by omega))
    obtain ⟨ad3, y3, hA3, hy3, v0, v1, v2, v3, v4⟩ := op_at (hrd.out.below h2.out) rfl (show k < ys.length by have := HYL.out; omega)
    injection hA3 with hA3
    subst hA3
    have hy33 : y3 = y' := by have := hy3.out; rw [HYK.out] at this; injection this with this; exact this.symm
    subst hy33
    have z0 := frozen_blk hX.out 0
    have z1 := frozen_blk hX.out 1
    have z2 := frozen_blk hX.out 2
    have z3 := frozen_blk hX.out 3
    have z4 := frozen_blk hX.out 4
    have c0 := cell_blk hX.out 0
    have c1 := cell_blk hX.out 1
    have c2 := cell_blk hX.out 2
    have c3 := cell_blk hX.out 3
    have c4 := cell_blk hX.out 4
    simp at c0 c1 c2 c3 c4
    obtain ⟨WE, hWE, hOE, hBE⟩ := opinfo_put hX.out (.int .i64 (y3.c.val : Int)) (.string y3.name) (.int .i64 y3.form) (.slice y3.A1 y3.n1 y3.c1) (.slice y3.A2 y3.n2 y3.c2)
    have HWE := hide hWE; have HOE := hide hOE; have HBE := hide hBE
    clear hWE hOE hBE h2 hX1 hX2 u0 u1 u2 u3 u4 hrd hy3
    go_wp2_with fail
    rw [HWE.out]
    clear z0 z1 z2 z3 z4 c0 c1 c2 c3 c4 v0 v1 v2 v3 v4
    have t0 := cell_blk HBE.out 0
    have t1 := cell_blk HBE.out 1
    have t2 := cell_blk HBE.out 2
    have t3 := cell_blk HBE.out 3
    have t4 := cell_blk HBE.out 4
    simp at t0 t1 t2 t3 t4
    refine bodyPost_ret (v := .tuple #[.agg #[.int .i64 (y3.c.val : Int), .string y3.name, .int .i64 y3.form, .slice y3.A1 y3.n1 y3.c1, .slice y3.A2 y3.n2 y3.c2], .bool true]) (by simp [results, Tryz.results35, go_sem, t0, t1, t2, t3, t4]) rfl ?_
    exact ⟨_, _, _, _, _, _, _, _, _, true, rfl, ⟨fun _ => ⟨r, HNR.out, HY.out.1, HY.out.2.1, HY.out.2.2⟩, fun h => (by cases h)⟩, by show Below _ _ _; rw [HG.out]; exact HB2.out.trans (HOE.out.below (by have := blk_lt hX.out; omega) (by simp))⟩
end Go.Proofs.YtpanlhbdphobdaaGreatDoor
