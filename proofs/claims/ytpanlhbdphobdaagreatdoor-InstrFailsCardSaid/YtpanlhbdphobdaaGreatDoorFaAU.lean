/-
  instr: Decode: contract.
  How many bytes an instruction takes, and how great it is; in plain Lean.
-/
import Derived.Test.YtpanlhbdphobdaaGreatDoorFaAT
import Derived.Test.YtpanlhbdphobdaaGreatDoorDeAL
namespace Go.Proofs.YtpanlhbdphobdaaGreatDoor
open Go.RowKit
set_option linter.unusedVariables false

theorem Only.shrink {S S' : List Nat} {a b d : World} (h : Only S a b) (k : Only S' b d) (hS : ∀ x, x ∈ S' → x ∈ S ∨ a.heap.size ≤ x) : Only S a d :=
  ⟨k.os.trans h.os, k.tape.trans h.tape, k.output.trans h.output, Nat.le_trans h.size k.size, fun i hi hn => (k.block i (Nat.lt_of_lt_of_le hi h.size) (fun hx => by
    rcases hS i hx with x | x
    · exact hn x
    · omega)).trans (h.block i hi hn)⟩

def DecOk (fl at_ : Int) (res : Nat × DR) (r' at' e' : Int) (code a b al : Nat) (xs : List Nat) : Prop :=
  (e' = 0 ∧ res.2.e = 0 ∧ at' = at_ + res.2.k ∧ code = res.1 ∧ a = res.2.a ∧ b = res.2.b ∧ al = res.2.al ∧ xs = res.2.l) ∨
  (e' ≠ 0 ∧ at' = at_ ∧ code = 0 ∧ a = 0 ∧ b = 0 ∧ al = 0 ∧ xs = [] ∧ ((res.2.e ≠ 0 ∧ e' = res.2.e) ∨ (e' = 9 ∧ 0 ≤ fl ∧ fl < r')))

/-- what Decode leaves -/
structure DecStep (w : World) (g f c : Nat) (A : Option Addr) (bs : List UInt8) (r fl fr tu at_ : Int) (res : Nat × DR) (en : Ending) (w' : World) : Prop where
  out : ∃ (code a b al : Nat) (Al : Option Addr) (cl : Nat) (xs : List Nat) (r' at' e' : Int), en = .returned (.tuple #[.agg #[.int .i64 (code : Int), .int .u64 (a : Int), .int .u64 (b : Int), .int .i64 (al : Int), .slice Al xs.length cl], .int .i64 e']) ∧
    Hid (FL w' f A c bs r' fl) ∧ Hid (CU w' g f fr tu at') ∧ Hid (Only [f, g] w w') ∧ Hid (w'.ownsRow w.heap.size 22 1 (.slice Al xs.length cl) xs.length (xs.map U)) ∧ r ≤ r' ∧ r' ≤ r + 1330 ∧ at_ ≤ at' ∧ at' ≤ tu ∧ xs.length ≤ 100 ∧ code ≤ 200000 ∧
    Hid (DecOk fl at_ res r' at' e' code a b al xs)

/-- what Decode leaves, and that no read has failed where it is well -/
structure DecStepG (w : World) (g f c : Nat) (A : Option Addr) (bs : List UInt8) (r fl fr tu at_ : Int) (res : Nat × DR) (en : Ending) (w' : World) : Prop where
  out : ∃ (code a b al : Nat) (Al : Option Addr) (cl : Nat) (xs : List Nat) (r' at' e' : Int), en = .returned (.tuple #[.agg #[.int .i64 (code : Int), .int .u64 (a : Int), .int .u64 (b : Int), .int .i64 (al : Int), .slice Al xs.length cl], .int .i64 e']) ∧
    Hid (FL w' f A c bs r' fl) ∧ Hid (CU w' g f fr tu at') ∧ Hid (Only [f, g] w w') ∧ Hid (w'.ownsRow w.heap.size 22 1 (.slice Al xs.length cl) xs.length (xs.map U)) ∧ r ≤ r' ∧ r' ≤ r + 1330 ∧ at_ ≤ at' ∧ at' ≤ tu ∧ xs.length ≤ 100 ∧ code ≤ 200000 ∧
    Hid (DecOk fl at_ res r' at' e' code a b al xs) ∧ Hid (e' = 0 → fl < 0 ∨ r' ≤ fl)
theorem DecStepG.plain {w : World} {g f c : Nat} {A : Option Addr} {bs : List UInt8} {r fl fr tu at_ : Int} {res : Nat × DR} {en : Ending} {w' : World} (h : DecStepG w g f c A bs r fl fr tu at_ res en w') : DecStep w g f c A bs r fl fr tu at_ res en w' := by
  obtain ⟨code, a, b, al, Al, cl, xs, r', at', e', h1, h2, h3, h4, h5, h6, h7, h8, h9, h10, h11, h12, _⟩ := h.out
  exact ⟨code, a, b, al, Al, cl, xs, r', at', e', h1, h2, h3, h4, h5, h6, h7, h8, h9, h10, h11, h12⟩

theorem dec_err {w w4 : World} {g f c gd : Nat} {A : Option Addr} {bs : List UInt8} {r fl fr tu at_ r' e' : Int} {res : Nat × DR} (hgd : w.heap.size = gd) (hg : g < gd) (hfg : f < g) (hO : Only [f, g] w w4) (hf : FL w4 f A c bs r' fl) (hc : CU w4 g f fr tu at_) (hb : gd < w4.heap.size)
    (h1 : r ≤ r') (h2 : r' ≤ r + 1330) (h3 : at_ ≤ tu) (hne : e' ≠ 0) (hE : (res.2.e ≠ 0 ∧ e' = res.2.e) ∨ (e' = 9 ∧ 0 ≤ fl ∧ fl < r')) :
    DecStepG w g f c A bs r fl fr tu at_ res (.returned (.tuple #[.agg #[.int .i64 0, .int .u64 0, .int .u64 0, .int .i64 0, .slice none 0 0], .int .i64 e'])) (((((w4.setCell ⟨gd, 0, none⟩ (.int .i64 0)).setCell ⟨gd, 1, none⟩ (.int .u64 0)).setCell ⟨gd, 2, none⟩ (.int .u64 0)).setCell ⟨gd, 3, none⟩ (.int .i64 0)).setCell ⟨gd, 4, none⟩ (.slice none 0 0)).drew := by
  have hs : ∀ (V : World) (i : Nat) (x : Value), Only [gd] V (V.setCell ⟨gd, i, none⟩ x) := fun V i x => Only.setCell V (p := ⟨gd, i, none⟩) (by simp) x
  have ho := (((((hs w4 0 (.int .i64 0)).trans (hs _ 1 (.int .u64 0))).trans (hs _ 2 (.int .u64 0))).trans (hs _ 3 (.int .i64 0))).trans (hs _ 4 (.slice none 0 0))).trans (Only.drew [gd] _)
  exact ⟨0, 0, 0, 0, none, 0, [], r', at_, e', rfl, hf.keep ho (by simp <;> omega) (by simp <;> omega), hc.keep ho (by simp <;> omega), hO.shrink ho (by rw [hgd]; simp), own_nil _ _ _ _, h1, h2, by omega, h3, by simp, by omega, .inr ⟨hne, rfl, rfl, rfl, rfl, rfl, rfl, hE⟩, fun h0 => absurd h0 hne⟩

theorem codeL0_k (l : List UInt8) (h : (codeL0 l).2.2 = 0) : 1 ≤ (codeL0 l).2.1 ∧ (codeL0 l).2.1 ≤ l.length := by
  cases l with
  | nil => simp [codeL0] at h
  | cons b r =>
    unfold codeL0 at h ⊢
    simp only at h ⊢
    have := unsigned_cases r 32
    split
    · rename_i hb
      rw [if_pos hb] at h
      simp only at h ⊢
      simp only [List.length_cons]
      omega
    · simp

set_option maxRecDepth 100000 in
set_option maxHeartbeats 3200000 in
theorem decode_stepG (g f c : Nat) (A : Option Addr) (bs : List UInt8) (r fl fr tu at_ : Int) (w : World) (hf : Hid (FL w f A c bs r fl)) (hc : Hid (CU w g f fr tu at_))
    (hr1 : 0 ≤ r) (hr2 : r ≤ 870000) (hl : bs.length ≤ 1000) (h0 : fr ≤ at_) (h1 : 0 ≤ at_) (h2 : at_ ≤ tu) (h4 : tu ≤ (bs.length : Int)) (hg : Hid (fl < 0 ∨ r ≤ fl)) :
    Calls Tryz.prog 22 #[.pointer (some ⟨g, 0, none⟩)] w (DecStepG w g f c A bs r fl fr tu at_ (decodeR (partB bs at_ (tu - at_)))) := by
  obtain ⟨gd, hgd⟩ : ∃ gd, w.heap.size = gd := ⟨_, rfl⟩
  have hgl : g < gd := by rw [← hgd]; exact blk_lt hc.out.blk
  have hfl := hc.out.lt
  obtain ⟨W, hW⟩ : ∃ W, (w.alloc (.cells #[.int .i64 0, .int .u64 0, .int .u64 0, .int .i64 0, .slice none 0 0] 28)) = W := ⟨_, rfl⟩
  have hblkW : W.heap[gd]? = some (.cells #[.int .i64 0, .int .u64 0, .int .u64 0, .int .i64 0, .slice none 0 0] 28 (0, 0)) := by rw [← hW, ← hgd]; exact heap_alloc_new w _
  have hszW : W.heap.size = gd + 1 := by rw [← hW, ← hgd]; simp
  have hbW : Below gd w W := by rw [← hW, ← hgd]; exact (Below.refl _ _).alloc (Nat.le_refl _) _
  obtain ⟨W1, hW1⟩ : ∃ W1, W.alloc (.cells #[.pointer (some ⟨g, 0, none⟩), .int .i64 0] 94) = W1 := ⟨_, rfl⟩
  have hbW1 : Below (gd + 1) W W1 := by rw [← hW1, ← hszW]; exact (Below.refl _ _).alloc (Nat.le_refl _) _
  have hrs : Hid (RS W1 (gd + 1) g f c A bs r fl fr tu at_ 0) := by
    have hb1 : W1.heap[gd + 1]? = some (.cells #[.pointer (some ⟨g, 0, none⟩), .int .i64 0] 94 (0, 0)) := by rw [← hW1, ← hszW]; exact heap_alloc_new W _
    have hb2 : Below gd w W1 := hbW.trans (hbW1.mono (by omega))
    exact ⟨hb1, hf.out.below hb2 (by omega), hc.out.below hb2 (by omega), by omega, fun _ => hg.out⟩
  have hat : Hid (CU W g f fr tu at_) := hc.out.below hbW hgl
  have hblk1 : Hid (W1.heap[gd]? = some (.cells #[.int .i64 0, .int .u64 0, .int .u64 0, .int .i64 0, .slice none 0 0] 28 (0, 0))) := (hbW1.block gd (by omega)).trans hblkW
  have hO1 : Hid (Only [f, g] w W1) := Only.of_below (by rw [hgd]; exact hbW.trans (hbW1.mono (by omega)))
  have HCO := hide (code_step (gd + 1) g f c A bs r fl fr tu at_ W1 hrs hr1 (by omega) hl h1 h2 h4)
  have HAT := hide (at_any g f fr tu at_ W hat)
  have hpl := part_len bs at_ (tu - at_) h1 (by omega) (by omega)
  obtain ⟨l, hll⟩ : ∃ l, partB bs at_ (tu - at_) = l := ⟨_, rfl⟩
  have HL := hide hll
  rw [hll] at hpl HCO ⊢
  have HGD := hide hgd; have HW := hide hW; have HW1 := hide hW1; have HSZ := hide hszW
  clear hll hgd hW hW1 hbW hbW1 hblkW hszW
  go_enter Tryz.func22, Tryz.ntmps22
  go_wp2_with fail
  rw [HW.out, HGD.out]
  refine HAT.out.mono ?_; rintro e w' ⟨rfl, rfl⟩
  go_wp2_with fail
  rw [HW1.out, HSZ.out]
  refine HCO.out.mono ?_; rintro en w2 ⟨v, r2, at2, e2, rfl, n1, n2, n3, n4, n5, n6, n7, n8⟩
  obtain ⟨xb, hxb⟩ : ∃ xb, w2.heap.size = xb := ⟨_, rfl⟩
  obtain ⟨W3, hW3⟩ : ∃ W3, w2.alloc (.cells #[.int .i64 (v : Int), .int .u64 0, .int .u64 0, .int .i64 0, .slice none 0 0] 28) = W3 := ⟨_, rfl⟩
  have hb3 : Below xb w2 W3 := by rw [← hW3, ← hxb]; exact (Below.refl _ _).alloc (Nat.le_refl _) _
  have hrb2 := blk_lt n1.out.blk
  rw [hxb] at hrb2
  have hRS3 := hide (n1.out.below hb3 hrb2)
  have hX3 : Hid (IV W3 xb (v : Int) 0 0 0 (.slice none 0 0)) := by show W3.heap[xb]? = _; rw [← hW3, ← hxb]; exact heap_alloc_new w2 _
  have hO3 : Hid (Only [f, g] w W3) := (hO1.out.shrink n2.out (by rw [HGD.out]; simp <;> omega)).trans (Only.of_below (by rw [hxb]; exact hb3))
  have hblk3 : Hid (W3.heap[gd]? = some (.cells #[.int .i64 0, .int .u64 0, .int .u64 0, .int .i64 0, .slice none 0 0] 28 (0, 0))) := (hb3.block gd (by omega)).trans ((n2.out.block gd (by have := blk_lt hblk1.out; omega) (by simp; omega)).trans hblk1.out)
  have HXB := hide hxb; have HW3 := hide hW3
  clear hxb hW3 hb3
  have d1 := cell_blk hRS3.out.blk 1
  simp at d1
  go_upto_region 4 with fail
  rw [HW3.out, HXB.out]
  by_cases he : e2 = 0
  · subst he
    obtain ⟨p1, p2, p3⟩ : codeE (codeL0 l).1 (codeL0 l).2.2 = 0 ∧ v = (codeL0 l).1 ∧ at2 = at_ + (codeL0 l).2.1 := by
      rcases n8.out with ⟨_, _, a, b, d⟩ | ⟨a, _⟩
      · exact ⟨a, b, d⟩
      · exact absurd rfl a
    have hce : (codeL0 l).2.2 = 0 := by
      apply Decidable.byContradiction
      intro hn
      unfold codeE at p1
      rw [if_pos hn] at p1
      exact hn p1
    have hsome : (opRow (v : Int)).isSome = true := by
      unfold codeE at p1
      rw [if_neg (fun x => x hce)] at p1
      split at p1
      · cases p1
      · split at p1
        · cases p1
        · rename_i hx
          rw [p2]
          cases h : opRow ((codeL0 l).1 : Int) with
          | none => rw [h] at hx; exact absurd rfl hx
          | some _ => rfl
    have hdec : decodeR l = if (numbersR v (l.drop (codeL0 l).2.1)).e ≠ 0 then (0, failR (numbersR v (l.drop (codeL0 l).2.1)).e) else (v, { numbersR v (l.drop (codeL0 l).2.1) with k := (codeL0 l).2.1 + (numbersR v (l.drop (codeL0 l).2.1)).k }) := by
      unfold decodeR
      simp only
      rw [if_neg (fun x => x p1), ← p2]
    obtain ⟨hk1, hk2⟩ := codeL0_k l hce
    have hp : partB bs at2 (tu - at2) = l.drop (codeL0 l).2.1 := by rw [p3, partB_drop bs at_ tu _ h1 (by omega), HL.out]
    have HNU := hide (numbers_step (gd + 1) g f c xb A bs r2 fl fr tu at2 v W3 hRS3 hX3 hrb2 (by omega) (by omega) hl (by omega) n6 h4 n7 hsome)
    rw [hp] at HNU
    obtain ⟨nr, hnr⟩ : ∃ nr, numbersR v (l.drop (codeL0 l).2.1) = nr := ⟨_, rfl⟩
    rw [hnr] at HNU hdec
    have HDEC := hide hdec
    have P3 := hide p3
    clear hdec hnr p1 p2 p3 hce hp
    go_wp2_with fail
    refine HNU.out.mono ?_; rintro en w4 ⟨a, b, al, Al, cl, xs, r4, at4, e4, rfl, j1, j2, j3, j4, j5, j6, j7, j8, j9, j10⟩
    have hO4 : Hid (Only [f, g] w w4) := hO3.out.shrink j4.out (by rw [HGD.out]; simp <;> omega)
    have hblk4 := hide ((j4.out.block gd (blk_lt hblk3.out) (by simp <;> omega)).trans hblk3.out)
    have hsz3 : gd < W3.heap.size := blk_lt hblk3.out
    have hown4 : Hid (w4.ownsRow (W3.heap.size) 22 1 (.slice Al xs.length cl) xs.length (xs.map U)) := j3.out
    clear d1
    have d0 := cell_blk j1.out.blk 0
    have d1 := cell_blk j1.out.blk 1
    simp at d0 d1
    by_cases he4 : e4 = 0
    · subst he4
      have g0 := cell_blk j2.out 0
      have g1 := cell_blk j2.out 1
      have g2 := cell_blk j2.out 2
      have g3 := cell_blk j2.out 3
      have g4 := cell_blk j2.out 4
      simp at g0 g1 g2 g3 g4
      have HSI : Hid ((Tryz.prog.info? 28).map (·.size) = some 5) := by show _ = _; kernel_rfl
      go_wp2_with (refine wpList_store_row rfl 28 _ _ rfl gd #[.int .i64 (v : Int), .int .u64 (a : Int), .int .u64 (b : Int), .int .i64 (al : Int), .slice Al xs.length cl] rfl rfl 28 _ hblk4.out HSI.out rfl (by simp [Value.oneCell']) ?_)
      have k1 := setRow_blk (cs := #[.int .i64 (v : Int), .int .u64 (a : Int), .int .u64 (b : Int), .int .i64 (al : Int), .slice Al xs.length cl]) hblk4.out
      have k3 := setRow_only w4 gd #[.int .i64 (v : Int), .int .u64 (a : Int), .int .u64 (b : Int), .int .i64 (al : Int), .slice Al xs.length cl]
      generalize w4.setRow gd #[.int .i64 (v : Int), .int .u64 (a : Int), .int .u64 (b : Int), .int .i64 (al : Int), .slice Al xs.length cl] = W5 at k1 k3 ⊢
      have f0 : W5.cell? ⟨gd, 0, none⟩ = some (.int .i64 (v : Int)) := cell_blk k1 0
      have f1 : W5.cell? ⟨gd, 1, none⟩ = some (.int .u64 (a : Int)) := cell_blk k1 1
      have f2 : W5.cell? ⟨gd, 2, none⟩ = some (.int .u64 (b : Int)) := cell_blk k1 2
      have f3 : W5.cell? ⟨gd, 3, none⟩ = some (.int .i64 (al : Int)) := cell_blk k1 3
      have f4 : W5.cell? ⟨gd, 4, none⟩ = some (.slice Al xs.length cl) := cell_blk k1 4
      refine bodyPost_ret (v := .tuple #[.agg #[.int .i64 (v : Int), .int .u64 (a : Int), .int .u64 (b : Int), .int .i64 (al : Int), .slice Al xs.length cl], .int .i64 0]) (by simp [results, Tryz.results22, go_sem, f0, f1, f2, f3, f4]) rfl ?_
      refine ⟨v, a, b, al, Al, cl, xs, r4, at4, 0, rfl, j1.out.fl_.keep k3 (by simp <;> omega) (by simp <;> omega), j1.out.cu.keep k3 (by simp <;> omega), hO4.out.shrink k3 (by rw [HGD.out]; simp), ?_, by omega, by omega, by omega, j8, j9, n7, ?_, fun _ => j1.out.good rfl⟩
      · exact own_base (own_only3 hown4.out k3 (fun q hq => by have := own_ge hown4.out q hq; simp; omega)) (fun q hq => by have := own_ge hown4.out q hq; rw [HGD.out]; omega)
      · rcases j10.out with ⟨_, _, q3, q4, q5, q6, q7, q8⟩ | ⟨q1, _⟩
        · rw [HDEC.out, if_neg (fun x => x q3)]
          have := P3.out
          exact .inl ⟨rfl, q3, by simp only; omega, rfl, q5, q6, q7, q8⟩
        · exact absurd rfl q1
    · have f1 : (e4 == 0) = false := by simpa using he4
      have f2 : (e4 != 0) = true := by simpa using he4
      have HGO := hide (go_ok g f fr tu at4 at_ w4 (hide j1.out.cu) h0 h2)
      have HE := hide he4; clear he4
      go_wp2_with fail
      refine HGO.out.mono ?_; rintro e w5 ⟨rfl, m1, m2⟩
      have hRS5 := hide ((m2.out.block (gd + 1) (blk_lt j1.out.blk) (by simp; omega)).trans j1.out.blk)
      have d0' := cell_blk hRS5.out 0
      have d1' := cell_blk hRS5.out 1
      simp at d0' d1'
      have hblk5 := hide ((m2.out.block gd (blk_lt hblk4.out) (by simp; omega)).trans hblk4.out)
      have e0 : w5.cell? ⟨gd, 0, none⟩ = some (.int .i64 0) := cell_blk hblk5.out 0
      have e1 : w5.cell? ⟨gd, 1, none⟩ = some (.int .u64 0) := cell_blk hblk5.out 1
      have e2' : w5.cell? ⟨gd, 2, none⟩ = some (.int .u64 0) := cell_blk hblk5.out 2
      have e3 : w5.cell? ⟨gd, 3, none⟩ = some (.int .i64 0) := cell_blk hblk5.out 3
      have e4' : w5.cell? ⟨gd, 4, none⟩ = some (.slice none 0 0) := cell_blk hblk5.out 4
      have z0 := frozen_blk hblk5.out 0
      have z1 := frozen_blk hblk5.out 1
      have z2 := frozen_blk hblk5.out 2
      have z3 := frozen_blk hblk5.out 3
      have z4 := frozen_blk hblk5.out 4
      clear d0 d1
      go_upto_region 8 with fail
      go_region
      go_wp2_with fail
      refine bodyPost_ret (v := .tuple #[.agg #[.int .i64 0, .int .u64 0, .int .u64 0, .int .i64 0, .slice none 0 0], .int .i64 e4]) (by simp [results, Tryz.results22, go_sem, e0, e1, e2', e3, e4']) rfl ?_
      refine dec_err HGD.out hgl hfl (hO4.out.trans (m2.out.more (by simp))) (j1.out.fl_.keep m2.out (by simp; omega) (by simp; omega)) m1.out (blk_lt hblk5.out) (by omega) (by omega) h2 HE.out ?_
      rw [HDEC.out]
      rcases j10.out with ⟨_, q2, _⟩ | ⟨_, ⟨q2, _⟩ | ⟨_, q2, q3⟩ | ⟨_, q2, q3, q4⟩⟩
      · exact absurd q2 HE.out
      · exact absurd rfl q2
      · rw [if_pos q2]
        exact .inl ⟨q2, q3⟩
      · exact .inr ⟨q2, q3, q4⟩
  · have f1 : (e2 == 0) = false := by simpa using he
    have f2 : (e2 != 0) = true := by simpa using he
    have HGO := hide (go_ok g f fr tu at2 at_ W3 (hide hRS3.out.cu) h0 h2)
    have HE := hide he; clear he
    go_wp2_with fail
    refine HGO.out.mono ?_; rintro e w4 ⟨rfl, m1, m2⟩
    have hRS4 := hide ((m2.out.block (gd + 1) (by have := blk_lt hRS3.out.blk; omega) (by simp; omega)).trans hRS3.out.blk)
    have d0' := cell_blk hRS4.out 0
    have d1' := cell_blk hRS4.out 1
    simp at d0' d1'
    have hblk4 := hide ((m2.out.block gd (blk_lt hblk3.out) (by simp; omega)).trans hblk3.out)
    have e0 : w4.cell? ⟨gd, 0, none⟩ = some (.int .i64 0) := cell_blk hblk4.out 0
    have e1 : w4.cell? ⟨gd, 1, none⟩ = some (.int .u64 0) := cell_blk hblk4.out 1
    have e2' : w4.cell? ⟨gd, 2, none⟩ = some (.int .u64 0) := cell_blk hblk4.out 2
    have e3 : w4.cell? ⟨gd, 3, none⟩ = some (.int .i64 0) := cell_blk hblk4.out 3
    have e4 : w4.cell? ⟨gd, 4, none⟩ = some (.slice none 0 0) := cell_blk hblk4.out 4
    have z0 := frozen_blk hblk4.out 0
    have z1 := frozen_blk hblk4.out 1
    have z2 := frozen_blk hblk4.out 2
    have z3 := frozen_blk hblk4.out 3
    have z4 := frozen_blk hblk4.out 4
    clear d1
    go_upto_region 8 with fail
    go_region
    go_wp2_with fail
    refine bodyPost_ret (v := .tuple #[.agg #[.int .i64 0, .int .u64 0, .int .u64 0, .int .i64 0, .slice none 0 0], .int .i64 e2]) (by simp [results, Tryz.results22, go_sem, e0, e1, e2', e3, e4]) rfl ?_
    refine dec_err HGD.out hgl hfl (hO3.out.trans (m2.out.more (by simp))) (hRS3.out.fl_.keep m2.out (by simp; omega) (by simp; omega)) m1.out (blk_lt hblk4.out) n3 (by omega) h2 HE.out ?_
    rcases n8.out with ⟨_, q2, _⟩ | ⟨_, ⟨q2, _⟩ | ⟨_, q2, q3⟩ | ⟨_, q2, q3, q4⟩⟩
    · exact absurd q2 HE.out
    · exact absurd rfl q2
    · have hd : decodeR l = (0, failR (codeE (codeL0 l).1 (codeL0 l).2.2)) := by unfold decodeR; simp only; rw [if_pos q2]
      rw [hd]
      exact .inl ⟨q2, q3⟩
    · exact .inr ⟨q2, q3, q4⟩
theorem decode_step (g f c : Nat) (A : Option Addr) (bs : List UInt8) (r fl fr tu at_ : Int) (w : World) (hf : Hid (FL w f A c bs r fl)) (hc : Hid (CU w g f fr tu at_))
    (hr1 : 0 ≤ r) (hr2 : r ≤ 870000) (hl : bs.length ≤ 1000) (h0 : fr ≤ at_) (h1 : 0 ≤ at_) (h2 : at_ ≤ tu) (h4 : tu ≤ (bs.length : Int)) (hg : fl < 0 ∨ r ≤ fl := by omega) :
    Calls Tryz.prog 22 #[.pointer (some ⟨g, 0, none⟩)] w (DecStep w g f c A bs r fl fr tu at_ (decodeR (partB bs at_ (tu - at_)))) :=
  (decode_stepG g f c A bs r fl fr tu at_ w hf hc hr1 hr2 hl h0 h1 h2 h4 (hide hg)).mono fun _ _ h => h.plain
end Go.Proofs.YtpanlhbdphobdaaGreatDoor

namespace Go.Proofs.YtpanlhbdphobdaaGreatDoor
open Go.RowKit
set_option linter.unusedVariables false

theorem labelsL_k : ∀ (n : Nat) (l : List UInt8), (labelsL n l).1 = 0 → (labelsL n l).2.1 ≤ l.length ∧ (labelsL n l).2.2.length = n := by
  intro n
  induction n with
  | zero => intro l _; simp [labelsL]
  | succ n ih =>
    intro l h
    rw [labelsL] at h ⊢
    by_cases h1 : (unsignedL l 32).2.2 = 0
    · rw [if_neg (fun x => x h1)] at h ⊢
      by_cases h2 : (labelsL n (l.drop (unsignedL l 32).2.1)).1 = 0
      · rw [if_neg (fun x => x h2)] at h ⊢
        obtain ⟨a, b⟩ := ih _ h2
        rw [List.length_drop] at a
        have := unsigned_cases l 32
        simp only [List.length_cons]
        omega
      · rw [if_pos h2] at h
        exact absurd h h2
    · rw [if_pos h1] at h
      exact absurd h h1
theorem tableR_k (l : List UInt8) (h : (tableR l).e = 0) : (tableR l).k ≤ l.length ∧ (tableR l).l.length ≤ 100 := by
  unfold tableR at h ⊢
  simp only at h ⊢
  by_cases h1 : (unsignedL l 32).2.2 = 0
  · rw [if_neg (fun x => x h1)] at h ⊢
    by_cases h2 : 100 < (unsignedL l 32).1
    · rw [if_pos h2] at h; cases h
    · rw [if_neg h2] at h ⊢
      by_cases h3 : (labelsL (unsignedL l 32).1 (l.drop (unsignedL l 32).2.1)).1 = 0
      · rw [if_neg (fun x => x h3)] at h ⊢
        by_cases h4 : (unsignedL ((l.drop (unsignedL l 32).2.1).drop (labelsL (unsignedL l 32).1 (l.drop (unsignedL l 32).2.1)).2.1) 32).2.2 = 0
        · rw [if_neg (fun x => x h4)] at h ⊢
          simp only
          have a := unsigned_cases l 32
          obtain ⟨b, b2⟩ := labelsL_k _ _ h3
          have c := unsigned_cases ((l.drop (unsignedL l 32).2.1).drop (labelsL (unsignedL l 32).1 (l.drop (unsignedL l 32).2.1)).2.1) 32
          rw [List.length_drop, List.length_drop] at c
          rw [List.length_drop] at b
          omega
        · rw [if_pos h4] at h; exact absurd h h4
      · rw [if_pos h3] at h; exact absurd h h3
  · rw [if_pos h1] at h; exact absurd h h1
theorem twoR_k (l : List UInt8) (h : (twoR l).e = 0) : (twoR l).k ≤ l.length ∧ (twoR l).l = [] := by
  unfold twoR at h ⊢
  simp only at h ⊢
  by_cases h1 : (unsignedL l 32).2.2 = 0
  · rw [if_neg (fun x => x h1)] at h ⊢
    by_cases h2 : (unsignedL (l.drop (unsignedL l 32).2.1) 32).2.2 = 0
    · rw [if_neg (fun x => x h2)] at h ⊢
      have a := unsigned_cases l 32
      have c := unsigned_cases (l.drop (unsignedL l 32).2.1) 32
      rw [List.length_drop] at c
      exact ⟨by simp only; omega, rfl⟩
    · rw [if_pos h2] at h; exact absurd h h2
  · rw [if_pos h1] at h; exact absurd h h1
theorem memR_k (l : List UInt8) (h : (memR l).e = 0) : (memR l).k ≤ l.length ∧ (memR l).l = [] := by
  have a := unsigned_cases l 32
  by_cases h1 : (unsignedL l 32).2.2 = 0
  · by_cases h2 : 31 < (unsignedL l 32).1 - 64 * ((unsignedL l 32).1 / 64 % 2)
    · rw [memR_big h1 h2] at h; cases h
    · by_cases hm : (unsignedL l 32).1 / 64 % 2 = 1
      · obtain ⟨m1, m2, m3⟩ := memR_one h1 h2 hm _ _ rfl rfl
        by_cases h3 : (unsignedL (l.drop (unsignedL l 32).2.1) 32).2.2 = 0
        · have h4 := m2 h3
          rw [h] at h4
          obtain ⟨b1, _, _, _, b5⟩ := m3 h3 h4.symm
          have c := unsigned_cases (l.drop (unsignedL l 32).2.1) 32
          have d := unsigned_cases ((l.drop (unsignedL l 32).2.1).drop (unsignedL (l.drop (unsignedL l 32).2.1) 32).2.1) 64
          rw [List.length_drop] at c
          rw [List.length_drop, List.length_drop] at d
          exact ⟨by rw [b1]; omega, b5⟩
        · rw [m1 h3] at h; exact absurd h h3
      · obtain ⟨m1, m2⟩ := memR_zero h1 h2 (by omega) _ rfl
        rw [h] at m1
        obtain ⟨b1, _, _, _, b5⟩ := m2 m1.symm
        have c := unsigned_cases (l.drop (unsignedL l 32).2.1) 64
        rw [List.length_drop] at c
        exact ⟨by rw [b1]; omega, b5⟩
  · rw [memR_q h1] at h; exact absurd h h1
theorem numbersR_k (c : Nat) (l : List UInt8) (h : (numbersR c l).e = 0) : (numbersR c l).k ≤ l.length ∧ (numbersR c l).l.length ≤ 100 := by
  have key : ∀ d : DR, (d.k ≤ l.length ∧ d.l = []) → d.k ≤ l.length ∧ d.l.length ≤ 100 := fun d h => ⟨h.1, by rw [h.2]; simp⟩
  unfold numbersR at h ⊢
  simp only at h ⊢
  split at h
  · refine key _ ?_
    obtain ⟨q1, q2, q3⟩ := blockR_q l
    cases l with
    | nil => simp [blockR, byteL, failR] at h
    | cons b r =>
      by_cases hb : blockedL ((byteL (b :: r)).1 : Int) = true
      · rw [if_pos (by assumption), q3 rfl hb]; simp
      · rw [q2 rfl (by simpa using hb)] at h; cases h
  · split at h
    · refine key _ ?_
      rename_i n1 n2
      rw [if_neg n1, if_pos n2]
      obtain ⟨q1, q2⟩ := oneR_q l
      by_cases h1 : (unsignedL l 32).2.2 = 0
      · rw [q2 h1]
        have a := unsigned_cases l 32
        exact ⟨by simp only; omega, rfl⟩
      · rw [q1 h1] at h; exact absurd h h1
    · split at h
      · rename_i n1 n2 n3
        rw [if_neg n1, if_neg n2, if_pos n3]
        exact tableR_k l h
      · split at h
        · rename_i n1 n2 n3 n4
          rw [if_neg n1, if_neg n2, if_neg n3, if_pos n4]
          exact key _ (twoR_k l h)
        · split at h
          · rename_i n1 n2 n3 n4 n5
            rw [if_neg n1, if_neg n2, if_neg n3, if_neg n4, if_pos n5]
            exact key _ (memR_k l h)
          · split at h
            · rename_i n1 n2 n3 n4 n5 n6
              rw [if_neg n1, if_neg n2, if_neg n3, if_neg n4, if_neg n5, if_pos n6]
              refine key _ ?_
              obtain ⟨q1, q2⟩ := constR_q c l _ rfl
              have a := signed_cases l (if c = 66 then 64 else 32)
              by_cases h1 : (signedL l (if c = 66 then 64 else 32)).2.2 = 0
              · rw [q2 h1]
                exact ⟨by simp only; omega, rfl⟩
              · rw [q1 h1] at h; exact absurd h h1
            · rename_i n1 n2 n3 n4 n5 n6
              rw [if_neg n1, if_neg n2, if_neg n3, if_neg n4, if_neg n5, if_neg n6]
              simp
theorem codeL0_le (l : List UInt8) : (codeL0 l).1 ≤ 200000 := by
  cases l with
  | nil => simp [codeL0]
  | cons b r =>
    unfold codeL0
    simp only
    have := b.toNat_lt
    split <;> simp only <;> omega
/-- an instruction that is one: how many bytes, its code, its labels -/
theorem decodeR_k (l : List UInt8) (h : (decodeR l).2.e = 0) : 1 ≤ (decodeR l).2.k ∧ (decodeR l).2.k ≤ l.length ∧ (decodeR l).1 ≤ 200000 ∧ (decodeR l).2.l.length ≤ 100 := by
  unfold decodeR at h ⊢
  simp only at h ⊢
  by_cases h1 : codeE (codeL0 l).1 (codeL0 l).2.2 = 0
  · rw [if_neg (fun x => x h1)] at h ⊢
    have hce : (codeL0 l).2.2 = 0 := by
      apply Decidable.byContradiction
      intro hn
      unfold codeE at h1
      rw [if_pos hn] at h1
      exact hn h1
    by_cases h2 : (numbersR (codeL0 l).1 (l.drop (codeL0 l).2.1)).e = 0
    · rw [if_neg (fun x => x h2)] at h ⊢
      obtain ⟨a, b⟩ := codeL0_k l hce
      obtain ⟨c, d⟩ := numbersR_k _ _ h2
      rw [List.length_drop] at c
      have := codeL0_le l
      simp only
      omega
    · rw [if_pos h2] at h; exact absurd h h2
  · rw [if_pos h1] at h; exact absurd h h1
theorem insL_go {bs : List UInt8} {f at_ : Nat} {s : NS} {xs : List DI} {r : Nat × Nat × List DI} (h : insL bs (f + 1) at_ s xs = r) (h1 : at_ < bs.length) (hc : s.closed = false) (h2 : (decodeR (bs.drop at_)).2.e = 0) (st : Nat × NS) (hst : stepN (codesD xs ++ [((decodeR (bs.drop at_)).1 : Int)]) (decodeR (bs.drop at_)).1 xs.length s = st) (h3 : st.1 = 0) :
    insL bs f (at_ + (decodeR (bs.drop at_)).2.k) st.2 (xs ++ [diOf (decodeR (bs.drop at_))]) = r := by
  rw [insL_step h1 hc h2 st hst, if_neg (fun x => x h3)] at h
  exact h
end Go.Proofs.YtpanlhbdphobdaaGreatDoor
