/-
  The document's instructions: Decode: contract.
-/
import Derived.Test.YtpanlhbdphobdaaGreatDoorDeBS
import Derived.Deep.DeepCutAuto
import Derived.Deep.CutBlock
namespace Go.Proofs.YtpanlhbdphobdaaGreatDoor
open Go.RowKit
set_option linter.unusedVariables false

/-- the variables of the document's Decode: the results, the instruction, the place -/
structure DS (w0 w : World) (b : Nat) (code a bb al : Nat) (Al : Option Addr) (cl : Nat) (xs : List Nat) (at_ e : Nat) : Prop where
  h4 : w.heap[b]? = some (.cells #[.int .i64 0, .int .u64 0, .int .u64 0, .int .i64 0, .slice none 0 0] 25 (0, 0))
  h5 : w.heap[b + 1]? = some (.cells #[.int .i64 0, .int .i64 0] 55 (0, 0))
  h6 : w.heap[b + 2]? = some (.cells #[.int .i64 (code : Int), .int .u64 (a : Int), .int .u64 (bb : Int), .int .i64 (al : Int), .slice Al xs.length cl] 25 (0, 0))
  h7 : w.heap[b + 3]? = some (.cells #[.int .i64 (at_ : Int), .int .i64 (e : Int)] 55 (0, 0))
  own : w.ownsRow (b + 4) 22 1 (.slice Al xs.length cl) xs.length (xs.map U)
  bel : Below b w0 w
theorem DS.size {w0 w : World} {b code a bb al cl at_ e : Nat} {Al : Option Addr} {xs : List Nat} (h : DS w0 w b code a bb al Al cl xs at_ e) : b + 4 ≤ w.heap.size := blk_lt h.h7
theorem DS.below {w0 w w' : World} {b code a bb al cl at_ e : Nat} {Al : Option Addr} {xs : List Nat} (h : DS w0 w b code a bb al Al cl xs at_ e) (hb : Below w.heap.size w w') : DS w0 w' b code a bb al Al cl xs at_ e :=
  ⟨(hb.block b (blk_lt h.h4)).trans h.h4, (hb.block _ (blk_lt h.h5)).trans h.h5, (hb.block _ (blk_lt h.h6)).trans h.h6, (hb.block _ (blk_lt h.h7)).trans h.h7, own_only3 h.own (Only.of_below (S := []) hb) (by simp), h.bel.trans (hb.mono (by have := h.size; omega))⟩
theorem DS.put6 {w0 w : World} {b code a bb al cl at_ e : Nat} {Al : Option Addr} {xs : List Nat} (h : DS w0 w b code a bb al Al cl xs at_ e) :
    (∀ x : Nat, DS w0 (w.setCell ⟨b + 2, 0, none⟩ (.int .i64 (x : Int))) b x a bb al Al cl xs at_ e) ∧ (∀ x : Nat, DS w0 (w.setCell ⟨b + 2, 1, none⟩ (.int .u64 (x : Int))) b code x bb al Al cl xs at_ e) ∧ (∀ x : Nat, DS w0 (w.setCell ⟨b + 2, 2, none⟩ (.int .u64 (x : Int))) b code a x al Al cl xs at_ e) ∧ (∀ x : Nat, DS w0 (w.setCell ⟨b + 2, 3, none⟩ (.int .i64 (x : Int))) b code a bb x Al cl xs at_ e) := by
  have key : ∀ (i : Nat) (u : Value), (w.setCell ⟨b + 2, i, none⟩ u).heap[b]? = w.heap[b]? ∧ (w.setCell ⟨b + 2, i, none⟩ u).heap[b + 1]? = w.heap[b + 1]? ∧ (w.setCell ⟨b + 2, i, none⟩ u).heap[b + 3]? = w.heap[b + 3]? ∧ (w.setCell ⟨b + 2, i, none⟩ u).ownsRow (b + 4) 22 1 (.slice Al xs.length cl) xs.length (xs.map U) ∧ Below b w0 (w.setCell ⟨b + 2, i, none⟩ u) := fun i u => by
    have ho : Only [b + 2] w (w.setCell ⟨b + 2, i, none⟩ u) := Only.setCell w (p := ⟨b + 2, i, none⟩) (by simp) u
    exact ⟨ho.block _ (blk_lt h.h4) (by simp), ho.block _ (blk_lt h.h5) (by simp), ho.block _ (blk_lt h.h7) (by simp), own_only3 h.own ho (fun g hg => by have := own_ge h.own g hg; simp; omega), h.bel.trans (ho.below (by have := h.size; omega) (by simp))⟩
  refine ⟨fun x => ?_, fun x => ?_, fun x => ?_, fun x => ?_⟩
  · obtain ⟨k1, k2, k3, k4, k5⟩ := key 0 (.int .i64 (x : Int))
    exact ⟨k1.trans h.h4, k2.trans h.h5, by rw [setCell_blk h.h6 0 _]; rfl, k3.trans h.h7, k4, k5⟩
  · obtain ⟨k1, k2, k3, k4, k5⟩ := key 1 (.int .u64 (x : Int))
    exact ⟨k1.trans h.h4, k2.trans h.h5, by rw [setCell_blk h.h6 1 _]; rfl, k3.trans h.h7, k4, k5⟩
  · obtain ⟨k1, k2, k3, k4, k5⟩ := key 2 (.int .u64 (x : Int))
    exact ⟨k1.trans h.h4, k2.trans h.h5, by rw [setCell_blk h.h6 2 _]; rfl, k3.trans h.h7, k4, k5⟩
  · obtain ⟨k1, k2, k3, k4, k5⟩ := key 3 (.int .i64 (x : Int))
    exact ⟨k1.trans h.h4, k2.trans h.h5, by rw [setCell_blk h.h6 3 _]; rfl, k3.trans h.h7, k4, k5⟩
/-- other labels: the row that holds them, in its place -/
theorem DS.label {w0 w w1 : World} {b code a bb al cl at_ e : Nat} {Al : Option Addr} {xs : List Nat} (h : DS w0 w b code a bb al Al cl xs at_ e) (ys : List Nat) (Al' : Option Addr) (cl' : Nat) (ho : w1.ownsRow (b + 4) 22 1 (.slice Al' ys.length cl') ys.length (ys.map U)) (hb : Below (b + 4) w w1) :
    DS w0 (w1.setCell ⟨b + 2, 4, none⟩ (.slice Al' ys.length cl')) b code a bb al Al' cl' ys at_ e := by
  have hs := h.size
  have h6 := (hb.block (b + 2) (by omega)).trans h.h6
  have hset' : Only [b + 2] w1 (w1.setCell ⟨b + 2, 4, none⟩ (.slice Al' ys.length cl')) := Only.setCell w1 (p := ⟨b + 2, 4, none⟩) (by simp) _
  have hsz := hb.size
  exact ⟨(hset'.block _ (by omega) (by simp)).trans ((hb.block _ (by omega)).trans h.h4), (hset'.block _ (by omega) (by simp)).trans ((hb.block _ (by omega)).trans h.h5), by rw [setCell_blk h6 4 _]; rfl, (hset'.block _ (by omega) (by simp)).trans ((hb.block _ (by omega)).trans h.h7), own_only3 ho hset' (fun g hg => by have := own_ge ho g hg; simp; omega), (h.bel.trans (hb.mono (by omega))).trans (hset'.below (by omega) (by simp))⟩
theorem DS.put7 {w0 w : World} {b code a bb al cl at_ e : Nat} {Al : Option Addr} {xs : List Nat} (h : DS w0 w b code a bb al Al cl xs at_ e) (at' e' : Nat) :
    DS w0 ((w.setCell ⟨b + 3, 0, none⟩ (.int .i64 (at' : Int))).setCell ⟨b + 3, 1, none⟩ (.int .i64 (e' : Int))) b code a bb al Al cl xs at' e' := by
  have ho : Only [b + 3] w ((w.setCell ⟨b + 3, 0, none⟩ (.int .i64 (at' : Int))).setCell ⟨b + 3, 1, none⟩ (.int .i64 (e' : Int))) := (Only.setCell w (p := ⟨b + 3, 0, none⟩) (by simp) _).trans (Only.setCell _ (p := ⟨b + 3, 1, none⟩) (by simp) _)
  refine ⟨(ho.block _ (blk_lt h.h4) (by simp)).trans h.h4, (ho.block _ (blk_lt h.h5) (by simp)).trans h.h5, (ho.block _ (blk_lt h.h6) (by simp)).trans h.h6, ?_, own_only3 h.own ho (fun g hg => by have := own_ge h.own g hg; simp; omega), h.bel.trans (ho.below (by have := h.size; omega) (by simp))⟩
  rw [setCell_blk (setCell_blk h.h7 0 _) 1 _]
  rfl

theorem DS.putAt {w0 w : World} {b code a bb al cl at_ e : Nat} {Al : Option Addr} {xs : List Nat} (h : DS w0 w b code a bb al Al cl xs at_ e) (at' : Nat) :
    DS w0 (w.setCell ⟨b + 3, 0, none⟩ (.int .i64 (at' : Int))) b code a bb al Al cl xs at' e := by
  have ho : Only [b + 3] w (w.setCell ⟨b + 3, 0, none⟩ (.int .i64 (at' : Int))) := Only.setCell w (p := ⟨b + 3, 0, none⟩) (by simp) _
  refine ⟨(ho.block _ (blk_lt h.h4) (by simp)).trans h.h4, (ho.block _ (blk_lt h.h5) (by simp)).trans h.h5, (ho.block _ (blk_lt h.h6) (by simp)).trans h.h6, ?_, own_only3 h.own ho (fun g hg => by have := own_ge h.own g hg; simp; omega), h.bel.trans (ho.below (by have := h.size; omega) (by simp))⟩
  rw [setCell_blk h.h7 0 _]
  rfl

/-- what the document's Decode leaves -/
structure RDec (w : World) (at_ : Nat) (res : Nat × DR) (en : Ending) (w' : World) : Prop where
  out : ∃ (code a b al : Nat) (Al : Option Addr) (cl : Nat) (xs : List Nat) (at' e' : Nat), en = .returned (.tuple #[.agg #[.int .i64 (code : Int), .int .u64 (a : Int), .int .u64 (b : Int), .int .i64 (al : Int), .slice Al xs.length cl], .agg #[.int .i64 (at' : Int), .int .i64 (e' : Int)]]) ∧
    Hid (w'.ownsRow (w.heap.size + 4) 22 1 (.slice Al xs.length cl) xs.length (xs.map U)) ∧ Hid (Below w.heap.size w w') ∧ e' = res.2.e ∧ Hid (e' = 0 → at' = at_ + res.2.k ∧ code = res.1 ∧ a = res.2.a ∧ b = res.2.b ∧ al = res.2.al ∧ xs = res.2.l)

/-- the end: both results are stored, whatever the order -/
theorem DS.fin_err {w0 w w' : World} {b code a bb al cl at_ e : Nat} {Al : Option Addr} {xs : List Nat} (h : DS w0 w b code a bb al Al cl xs at_ e) (hb : w0.heap.size = b) (ho : Only [b, b + 1] w w') (res : Nat × DR) (at0 at' e' : Nat) (he : e' ≠ 0) (hE : e' = res.2.e) :
    RDec w0 at0 res (.returned (.tuple #[.agg #[.int .i64 0, .int .u64 0, .int .u64 0, .int .i64 0, .slice none 0 0], .agg #[.int .i64 (at' : Int), .int .i64 (e' : Int)]])) w' := by
  subst hb
  exact ⟨0, 0, 0, 0, none, 0, [], at', e', rfl, own_nil _ _ _ _, h.bel.trans (ho.below (by have := h.size; omega) (by simp)), hE, fun x => absurd x he⟩

/-- the results stored: the world behind the stores -/
theorem DS.err {w0 w : World} {b code a bb al cl at_ e : Nat} {Al : Option Addr} {xs : List Nat} (h : DS w0 w b code a bb al Al cl xs at_ e) (V0 V1 V2 V3 V4 : Value) (AT EE : Int) :
    ∃ W : World, (((((((w.setCell ⟨b, 0, none⟩ V0).setCell ⟨b, 1, none⟩ V1).setCell ⟨b, 2, none⟩ V2).setCell ⟨b, 3, none⟩ V3).setCell ⟨b, 4, none⟩ V4).setCell ⟨b + 1, 0, none⟩ (.int .i64 AT)).setCell ⟨b + 1, 1, none⟩ (.int .i64 EE)) = W ∧
      Only [b, b + 1] w W ∧ W.heap[b]? = some (.cells #[V0, V1, V2, V3, V4] 25 (0, 0)) ∧ W.heap[b + 1]? = some (.cells #[.int .i64 AT, .int .i64 EE] 55 (0, 0)) := by
  have hs4 : ∀ (V : World) (i : Nat) (x : Value), Only [b] V (V.setCell ⟨b, i, none⟩ x) := fun V i x => Only.setCell V (p := ⟨b, i, none⟩) (by simp) x
  have hs5 : ∀ (V : World) (i : Nat) (x : Value), Only [b + 1] V (V.setCell ⟨b + 1, i, none⟩ x) := fun V i x => Only.setCell V (p := ⟨b + 1, i, none⟩) (by simp) x
  obtain ⟨V, hV⟩ : ∃ V, ((((w.setCell ⟨b, 0, none⟩ V0).setCell ⟨b, 1, none⟩ V1).setCell ⟨b, 2, none⟩ V2).setCell ⟨b, 3, none⟩ V3).setCell ⟨b, 4, none⟩ V4 = V := ⟨_, rfl⟩
  have ho1 : Only [b] w V := by rw [← hV]; exact ((((hs4 _ _ _).trans (hs4 _ _ _)).trans (hs4 _ _ _)).trans (hs4 _ _ _)).trans (hs4 _ _ _)
  have h4 : V.heap[b]? = some (.cells #[V0, V1, V2, V3, V4] 25 (0, 0)) := by rw [← hV, setCell_blk (setCell_blk (setCell_blk (setCell_blk (setCell_blk h.h4 0 _) 1 _) 2 _) 3 _) 4 _]; rfl
  have h5 := (ho1.block (b + 1) (blk_lt h.h5) (by simp)).trans h.h5
  rw [hV]
  have ho2 := (hs5 V 0 (.int .i64 AT)).trans (hs5 _ 1 (.int .i64 EE))
  refine ⟨_, rfl, ?_, ?_, ?_⟩
  · exact (ho1.more (by simp)).trans (ho2.more (by simp))
  · exact (ho2.block b (blk_lt h4) (by simp)).trans h4
  · rw [setCell_blk (setCell_blk h5 0 _) 1 _]; rfl

theorem DS.start (w : World) (code at_ : Nat) : DS w ((((w.alloc (.cells #[.int .i64 0, .int .u64 0, .int .u64 0, .int .i64 0, .slice none 0 0] 25)).alloc (.cells #[.int .i64 0, .int .i64 0] 55)).alloc (.cells #[.int .i64 (code : Int), .int .u64 0, .int .u64 0, .int .i64 0, .slice none 0 0] 25)).alloc (.cells #[.int .i64 (at_ : Int), .int .i64 0] 55)) w.heap.size code 0 0 0 none 0 [] at_ 0 := by
  have hn : ∀ (W : World) (o : Obj) (k : Nat), W.heap.size = k → (W.alloc o).heap[k]? = some o := fun W o k hk => by subst hk; exact heap_alloc_new W o
  have ho : ∀ (W : World) (o : Obj) (k : Nat), k < W.heap.size → (W.alloc o).heap[k]? = W.heap[k]? := fun W o k hk => Below.heap_alloc W o k hk
  refine ⟨?_, ?_, ?_, ?_, own_nil _ _ _ _, ((((Below.refl _ _).alloc (Nat.le_refl _) _).alloc (by simp) _).alloc (by simp <;> omega) _).alloc (by simp <;> omega) _⟩
  · rw [ho _ _ _ (by simp <;> omega), ho _ _ _ (by simp <;> omega), ho _ _ _ (by simp)]; exact hn _ _ _ rfl
  · rw [ho _ _ _ (by simp <;> omega), ho _ _ _ (by simp <;> omega)]; exact hn _ _ _ (by simp)
  · rw [ho _ _ _ (by simp)]; exact hn _ _ _ (by simp)
  · exact hn _ _ _ (by simp)

set_option maxRecDepth 100000 in
set_option maxHeartbeats 1600000 in
theorem refDecode_end (A : Option Addr) (n c : Nat) (w : World) (hn : n ≤ 400) :
    Calls Tryz.prog 28 #[.slice A n c, .int .i64 (n : Int)] w (RDec w n (decodeR [])) := by
  go_enter Tryz.func28, Tryz.ntmps28
  go_wp2_with fail
  refine bodyPost_ret (v := .tuple #[.agg #[.int .i64 0, .int .u64 0, .int .u64 0, .int .i64 0, .slice none 0 0], .agg #[.int .i64 (n : Int), .int .i64 3]]) (by simp [results, Tryz.results28, go_sem]) rfl ?_
  refine ⟨0, 0, 0, 0, none, 0, [], n, 3, rfl, own_nil _ _ _ _, ?_, rfl, fun x => absurd x (by omega)⟩
  exact ((Below.refl _ _).alloc (Nat.le_refl _) _).alloc (by simp) _

theorem codeE_zero {code : Nat} {nm : ByteArray} (hf : refForeign (code : Int) = false) (hn : refName (code : Int) = nm) (h : nm ≠ ⟨#[]⟩) : codeE code 0 = 0 := by
  unfold codeE
  rw [if_neg (fun x => x rfl), hf, if_neg (by simp)]
  cases hr : opRow (code : Int) with
  | none => exact absurd (hn.symm.trans (opRow_none hr)) h
  | some r => simp
theorem codeE_name {code : Nat} (hf : refForeign (code : Int) = false) (hn : refName (code : Int) = ⟨#[]⟩) : codeE code 0 = 4 := by
  unfold codeE
  rw [if_neg (fun x => x rfl), hf, if_neg (by simp)]
  cases hr : opRow (code : Int) with
  | none => simp
  | some r => exact absurd hn (opRow_ref hr).2.2.1
theorem codeE_foreign {code : Nat} (hf : refForeign (code : Int) = true) : codeE code 0 = 6 := by
  unfold codeE
  rw [if_neg (fun x => x rfl), hf, if_pos rfl]
theorem decodeR_code {l : List UInt8} {code k E : Nat} (h : codeL0 l = (code, k, 0)) (hk : codeE code 0 = E) (h0 : E ≠ 0) : E = (decodeR l).2.e := by
  unfold decodeR
  simp only
  rw [h]
  simp only
  rw [hk, if_pos h0]
  rfl
theorem decodeR_num {l : List UInt8} {code k E : Nat} (h : codeL0 l = (code, k, 0)) (hk : codeE code 0 = 0) (hE : E = (numbersR code (l.drop k)).e) (h0 : E ≠ 0) : E = (decodeR l).2.e := by
  unfold decodeR
  simp only
  rw [h]
  simp only
  rw [hk, if_neg (fun x => x rfl), if_pos (by rw [← hE]; exact h0), ← hE]
  rfl
theorem decodeR_good {l : List UInt8} {code k : Nat} (h : codeL0 l = (code, k, 0)) (hk : codeE code 0 = 0) (hE : (numbersR code (l.drop k)).e = 0) : decodeR l = (code, { numbersR code (l.drop k) with k := k + (numbersR code (l.drop k)).k }) := by
  unfold decodeR
  simp only
  rw [h]
  simp only
  rw [hk, if_neg (fun x => x rfl), if_neg (by rw [hE]; exact fun x => x rfl)]
theorem refNumR_ok {bs : List UInt8} {at_ q0 at2 : Nat} {bits : Int} (h : refNumR bs at_ 0 bits = (q0, at2, 0)) : unsignedL (bs.drop at_) bits = (q0, at2 - at_, 0) ∧ at_ ≤ at2 := by
  unfold refNumR at h
  rw [if_neg (fun x => x rfl)] at h
  simp only [Prod.mk.injEq] at h
  obtain ⟨a, b, c⟩ := h
  refine ⟨?_, by omega⟩
  rw [← a, ← c, show at2 - at_ = (unsignedL (bs.drop at_) bits).2.1 from by omega]
theorem refNumR_bad {bs : List UInt8} {at_ e q0 at2 q2 : Nat} {bits : Int} (h : refNumR bs at_ e bits = (q0, at2, q2)) (hq : q2 ≠ 0) : (e ≠ 0 ∧ q0 = 0 ∧ at2 = at_ ∧ q2 = e) ∨ (e = 0 ∧ (unsignedL (bs.drop at_) bits).2.2 = q2 ∧ q0 = (unsignedL (bs.drop at_) bits).1) := by
  unfold refNumR at h
  by_cases he : e = 0
  · subst he
    rw [if_neg (fun x => x rfl)] at h
    simp only [Prod.mk.injEq] at h
    exact .inr ⟨rfl, h.2.2, h.1.symm⟩
  · rw [if_pos he] at h
    simp only [Prod.mk.injEq] at h
    exact .inl ⟨he, h.1.symm, h.2.1.symm, h.2.2.symm⟩
theorem fin0 {P Q : Prop} (h : ((0 : Nat) = 0 ∧ P) ∨ ((0 : Nat) ≠ 0 ∧ Q)) : P := by
  rcases h with h | h
  · exact h.2
  · exact absurd rfl h.1
theorem DS.fin_ok {w0 w w' : World} {b code a bb al cl at1 at0 at2 : Nat} {Al : Option Addr} {xs : List Nat} {l m : List UInt8} (h : DS w0 w b code a bb al Al cl xs at2 0) (hb : w0.heap.size = b) (ho : Only [b, b + 1] w w') (hc : codeL0 l = (code, at1 - at0, 0)) (hk : codeE code 0 = 0) (hd : l.drop (at1 - at0) = m) (hle : at0 ≤ at1)
    (hf : (numbersR code m).e = 0 ∧ at2 = at1 + (numbersR code m).k ∧ a = (numbersR code m).a ∧ bb = (numbersR code m).b ∧ al = (numbersR code m).al ∧ xs = (numbersR code m).l) :
    RDec w0 at0 (decodeR l) (.returned (.tuple #[.agg #[.int .i64 (code : Int), .int .u64 (a : Int), .int .u64 (bb : Int), .int .i64 (al : Int), .slice Al xs.length cl], .agg #[.int .i64 (at2 : Int), .int .i64 0]])) w' := by
  subst hb
  obtain ⟨f1, f2, f3, f4, f5, f6⟩ := hf
  · rw [← hd] at f1 f2 f3 f4 f5 f6
    have hD := decodeR_good hc hk f1
    rw [hD]
    refine ⟨code, a, bb, al, Al, cl, xs, at2, 0, rfl, own_only3 h.own ho (fun g hg => by have := own_ge h.own g hg; simp; omega), h.bel.trans (ho.below (by have := h.size; omega) (by simp)), f1.symm, fun _ => ⟨?_, rfl, f3, f4, f5, f6⟩⟩
    show at2 = at0 + (at1 - at0 + (numbersR code (l.drop (at1 - at0))).k)
    omega
theorem numR_zero {c : Nat} {l : List UInt8} (h : refForm (c : Int) = 0) : numbersR c l = ⟨0, 0, 0, 0, 0, []⟩ := by unfold numbersR; simp [h]
theorem numR_block {c : Nat} {l : List UInt8} (h : refForm (c : Int) = 1) : numbersR c l = blockR l := by unfold numbersR; simp [h]
theorem numR_one {c : Nat} {l : List UInt8} (h : refForm (c : Int) = 2 ∨ refForm (c : Int) = 4 ∨ refForm (c : Int) = 6 ∨ refForm (c : Int) = 7 ∨ refForm (c : Int) = 9) : numbersR c l = oneR l := by unfold numbersR; rcases h with h | h | h | h | h <;> simp [h]
theorem numR_table {c : Nat} {l : List UInt8} (h : refForm (c : Int) = 3) : numbersR c l = tableR l := by unfold numbersR; simp [h]
theorem numR_two {c : Nat} {l : List UInt8} (h : refForm (c : Int) = 5 ∨ refForm (c : Int) = 10) : numbersR c l = twoR l := by unfold numbersR; rcases h with h | h <;> simp [h]
theorem numR_mem {c : Nat} {l : List UInt8} (h : refForm (c : Int) = 8) : numbersR c l = memR l := by unfold numbersR; simp [h]
theorem numR_const {c : Nat} {l : List UInt8} (h : refForm (c : Int) = 11) : numbersR c l = constR c l := by unfold numbersR; simp [h]

/-- behind the numbers -/
structure D1 (w0 w : World) (b code at1 n : Nat) (nr : DR) : Prop where
  out : ∃ (a bb al : Nat) (Al : Option Addr) (cl : Nat) (xs : List Nat) (at' e' : Nat), Hid (DS w0 w b code a bb al Al cl xs at' e') ∧ at1 ≤ at' ∧ at' ≤ n ∧
    Hid ((e' = 0 ∧ nr.e = 0 ∧ at' = at1 + nr.k ∧ a = nr.a ∧ bb = nr.b ∧ al = nr.al ∧ xs = nr.l) ∨ (e' ≠ 0 ∧ e' = nr.e))
/-- one number -/
theorem D1.one {w0 w : World} {b code at1 : Nat} {bs : List UInt8} {q0 at2 q2 : Nat} (hd : DS w0 w b code q0 0 0 none 0 [] at2 q2) (hr : refNumR bs at1 0 32 = (q0, at2, q2)) (h1 : at1 ≤ at2) (h2 : at2 ≤ bs.length) : D1 w0 w b code at1 bs.length (oneR (bs.drop at1)) := by
  refine ⟨q0, 0, 0, none, 0, [], at2, q2, hd, h1, h2, ?_⟩
  obtain ⟨o1, o2⟩ := oneR_q (bs.drop at1)
  by_cases hq : q2 = 0
  · subst hq
    obtain ⟨k, k2⟩ := refNumR_ok hr
    rw [k] at o2
    rw [o2 rfl]
    exact .inl ⟨rfl, rfl, by show at2 = at1 + (at2 - at1); omega, rfl, rfl, rfl, rfl⟩
  · rcases refNumR_bad hr hq with ⟨a, _⟩ | ⟨_, a, _⟩
    · exact absurd rfl a
    · exact .inr ⟨hq, by rw [o1 (by rw [a]; exact hq), a]⟩
theorem D1.two {w0 w : World} {b code at1 : Nat} {bs : List UInt8} {q0 at2 q2 p0 at3 p2 : Nat} (hd : DS w0 w b code q0 p0 0 none 0 [] at3 p2) (hr : refNumR bs at1 0 32 = (q0, at2, q2)) (hr2 : refNumR bs at2 q2 32 = (p0, at3, p2)) (h1 : at1 ≤ at3) (h2 : at3 ≤ bs.length) : D1 w0 w b code at1 bs.length (twoR (bs.drop at1)) := by
  refine ⟨q0, p0, 0, none, 0, [], at3, p2, hd, h1, h2, ?_⟩
  obtain ⟨o1, o2, o3⟩ := twoR_q (bs.drop at1) _ rfl
  by_cases hq : q2 = 0
  · subst hq
    obtain ⟨k, k2⟩ := refNumR_ok hr
    rw [k] at o2 o3
    simp only at o2 o3
    rw [List.drop_drop, show at1 + (at2 - at1) = at2 from by omega] at o2 o3
    by_cases hp : p2 = 0
    · subst hp
      obtain ⟨m, m2⟩ := refNumR_ok hr2
      rw [m] at o3
      rw [o3 trivial rfl]
      exact .inl ⟨rfl, rfl, by simp only; omega, rfl, rfl, rfl, rfl⟩
    · rcases refNumR_bad hr2 hp with ⟨a, _⟩ | ⟨_, a, _⟩
      · exact absurd rfl a
      · exact .inr ⟨hp, by rw [o2 trivial, a]⟩
  · rcases refNumR_bad hr hq with ⟨a, _⟩ | ⟨_, a, _⟩
    · exact absurd rfl a
    · have hp : p2 = q2 ∧ p2 ≠ 0 := by
        unfold refNumR at hr2
        rw [if_pos hq] at hr2
        simp only [Prod.mk.injEq] at hr2
        omega
      exact .inr ⟨hp.2, by rw [o1 (by rw [a]; exact hq), a, hp.1]⟩
theorem unsigned_err {l : List UInt8} {n : Int} (h : (unsignedL l n).2.2 ≠ 0) : (unsignedL l n).1 = 0 := by
  unfold unsignedL at h ⊢
  simp only at h ⊢
  split
  · rfl
  · split
    · rfl
    · rename_i h1 h2
      rw [if_neg h1, if_neg h2] at h
      exact absurd rfl h
theorem refNumR_err {bs : List UInt8} {at_ e q0 at2 q2 : Nat} {bits : Int} (h : refNumR bs at_ e bits = (q0, at2, q2)) (hq : q2 ≠ 0) : q0 = 0 ∧ at2 = at_ := by
  unfold refNumR at h
  by_cases he : e = 0
  · subst he
    rw [if_neg (fun x => x rfl)] at h
    simp only [Prod.mk.injEq] at h
    obtain ⟨a, b, c⟩ := h
    have h0 : (unsignedL (bs.drop at_) bits).2.2 ≠ 0 := by rw [c]; exact hq
    have h1 := unsigned_err h0
    have h2 := unsigned_cases (bs.drop at_) bits
    omega
  · rw [if_pos he] at h
    simp only [Prod.mk.injEq] at h
    omega
theorem refNumR_pre {bs : List UInt8} {at_ e q0 at2 q2 : Nat} {bits : Int} (h : refNumR bs at_ e bits = (q0, at2, q2)) (he : e ≠ 0) : q0 = 0 ∧ at2 = at_ ∧ q2 = e := by
  unfold refNumR at h
  rw [if_pos he] at h
  simp only [Prod.mk.injEq] at h
  omega
theorem refNumR_lt {bs : List UInt8} {at_ e q0 at2 q2 : Nat} (h : refNumR bs at_ e 32 = (q0, at2, q2)) : q0 ≤ 4294967295 := by
  unfold refNumR at h
  by_cases he : e = 0
  · subst he
    rw [if_neg (fun x => x rfl)] at h
    simp only [Prod.mk.injEq] at h
    have := unsignedL_lt32 (bs.drop at_)
    omega
  · rw [if_pos he] at h
    simp only [Prod.mk.injEq] at h
    omega
/-- the numbers of a memory's op, without a memory's number -/
theorem D1.memz {w0 w : World} {b code at1 : Nat} {bs : List UInt8} {q0 at2 q2 p0 at3 p2 : Nat} (hd : DS w0 w b code 0 p0 q0 none 0 [] at3 p2) (hr : refNumR bs at1 0 32 = (q0, at2, q2)) (hr2 : refNumR bs at2 q2 64 = (p0, at3, p2)) (hm : q0 / 64 % 2 = 0) (hal : q0 ≤ 31) (h1 : at1 ≤ at3) (h2 : at3 ≤ bs.length) : D1 w0 w b code at1 bs.length (memR (bs.drop at1)) := by
  refine ⟨0, p0, q0, none, 0, [], at3, p2, hd, h1, h2, ?_⟩
  by_cases hq : q2 = 0
  · subst hq
    obtain ⟨k, k2⟩ := refNumR_ok hr
    obtain ⟨m1, m2⟩ := memR_zero (l := bs.drop at1) (by rw [k]) (by rw [k]; simp only; omega) (by rw [k]; exact hm) _ rfl
    rw [k] at m1 m2
    simp only at m1 m2
    rw [List.drop_drop, show at1 + (at2 - at1) = at2 from by omega] at m1 m2
    by_cases hp : p2 = 0
    · subst hp
      obtain ⟨m, mm⟩ := refNumR_ok hr2
      rw [m] at m1 m2
      obtain ⟨a1, a2, a3, a4, a5⟩ := m2 rfl
      exact .inl ⟨rfl, m1, by rw [a1]; simp only; omega, a2.symm, a3.symm, a4.symm, a5.symm⟩
    · rcases refNumR_bad hr2 hp with ⟨a, _⟩ | ⟨_, a, _⟩
      · exact absurd rfl a
      · exact .inr ⟨hp, by rw [m1, a]⟩
  · rcases refNumR_bad hr hq with ⟨a, _⟩ | ⟨_, a, _⟩
    · exact absurd rfl a
    · have hp := (refNumR_pre hr2 hq).2.2
      exact .inr ⟨by omega, by rw [memR_q (by rw [a]; exact hq), a, hp]⟩
/-- with a memory's number -/
theorem D1.memo {w0 w : World} {b code at1 : Nat} {bs : List UInt8} {q0 at2 s0 at3 s2 p0 at4 p2 al : Nat} (hd : DS w0 w b code s0 p0 al none 0 [] at4 p2) (hr : refNumR bs at1 0 32 = (q0, at2, 0)) (hrs : refNumR bs at2 0 32 = (s0, at3, s2)) (hr2 : refNumR bs at3 s2 64 = (p0, at4, p2)) (hm : q0 / 64 % 2 = 1) (ha : q0 = al + 64) (hal : al ≤ 31) (h1 : at1 ≤ at4) (h2 : at4 ≤ bs.length) : D1 w0 w b code at1 bs.length (memR (bs.drop at1)) := by
  refine ⟨s0, p0, al, none, 0, [], at4, p2, hd, h1, h2, ?_⟩
  obtain ⟨k, k2⟩ := refNumR_ok hr
  obtain ⟨m1, m2, m3⟩ := memR_one (l := bs.drop at1) (by rw [k]) (by rw [k]; simp only; omega) (by rw [k]; exact hm) _ _ rfl rfl
  rw [k] at m1 m2 m3
  simp only at m1 m2 m3
  rw [List.drop_drop, show at1 + (at2 - at1) = at2 from by omega] at m1 m2 m3
  by_cases hs : s2 = 0
  · subst hs
    obtain ⟨ks, ks2⟩ := refNumR_ok hrs
    rw [ks] at m2 m3
    simp only at m2 m3
    rw [List.drop_drop, show at2 + (at3 - at2) = at3 from by omega] at m2 m3
    by_cases hp : p2 = 0
    · subst hp
      obtain ⟨m, mm⟩ := refNumR_ok hr2
      rw [m] at m2 m3
      obtain ⟨a1, a2, a3, a4, a5⟩ := m3 trivial rfl
      exact .inl ⟨rfl, m2 trivial, by rw [a1]; simp only; omega, a2.symm, a3.symm, by rw [a4]; omega, a5.symm⟩
    · rcases refNumR_bad hr2 hp with ⟨a, _⟩ | ⟨_, a, _⟩
      · exact absurd rfl a
      · exact .inr ⟨hp, by rw [m2 trivial, a]⟩
  · rcases refNumR_bad hrs hs with ⟨a, _⟩ | ⟨_, a, _⟩
    · exact absurd rfl a
    · have hp := (refNumR_pre hr2 hs).2.2
      exact .inr ⟨by omega, by rw [m1 (by rw [a]; exact hs), a, hp]⟩
theorem mem_bad {bs : List UInt8} {at1 q0 at2 al : Nat} (hr : refNumR bs at1 0 32 = (q0, at2, 0)) (ha : q0 = al + 64 * (q0 / 64 % 2)) (hal : 31 < al) : (memR (bs.drop at1)).e = 4 := by
  obtain ⟨k, k2⟩ := refNumR_ok hr
  exact memR_big (by rw [k]) (by rw [k]; simp only; omega)
/-- a number with its sign -/
theorem D1.const {w0 w : World} {b code at1 : Nat} {l : List UInt8} {n : Nat} {v : Int} {s e a at2 : Nat} (hd : DS w0 w b code a 0 0 none 0 [] at2 e) (hat : at1 + s = at2) (hq : signedL l (if code = 66 then 64 else 32) = (v, s, e)) (ha : e = 0 → a = wordN (decide (code = 66)) v) (h2 : at1 + s ≤ n) : D1 w0 w b code at1 n (constR code l) := by
  subst hat
  refine ⟨a, 0, 0, none, 0, [], at1 + s, e, hd, by omega, h2, ?_⟩
  obtain ⟨o1, o2⟩ := constR_q code l _ hq
  by_cases he : e = 0
  · subst he
    rw [o2 rfl]
    exact .inl ⟨rfl, rfl, rfl, ha rfl, rfl, rfl, rfl⟩
  · exact .inr ⟨he, (o1 he).symm⟩
/-- how far the labels have been read: k of v -/
structure TabSt (w0 w : World) (b code at1 n v k : Nat) (l : List UInt8) : Prop where
  out : ∃ (Al : Option Addr) (cl : Nat) (xs : List Nat) (K at' e' : Nat), Hid (DS w0 w b code 0 0 0 Al cl xs at' e') ∧ xs.length = k ∧ at1 ≤ at' ∧ at' ≤ n ∧
    Hid ((e' = 0 ∧ at' = at1 + K ∧ labsR l = appL xs K (labelsL (v - k) (l.drop K))) ∨ (e' ≠ 0 ∧ (labsR l).1 = e'))
theorem TabSt.start {w0 w : World} {b code at1 : Nat} {bs : List UInt8} {q0 at2 q2 : Nat} (hd : Hid (DS w0 w b code 0 0 0 none 0 [] at2 q2)) (hr : refNumR bs at1 0 32 = (q0, at2, q2)) (hq : q0 ≤ 100) (h1 : at1 ≤ at2) (h2 : at2 ≤ bs.length) : TabSt w0 w b code at1 bs.length q0 0 (bs.drop at1) := by
  refine ⟨none, 0, [], at2 - at1, at2, q2, hd, rfl, h1, h2, ?_⟩
  by_cases hz : q2 = 0
  · subst hz
    obtain ⟨k, k2⟩ := refNumR_ok hr
    refine .inl ⟨rfl, by omega, ?_⟩
    rw [labsR_start (by rw [k]) (by rw [k]; exact hq), k]
    rfl
  · rcases refNumR_bad hr hz with ⟨a, _⟩ | ⟨_, a, _⟩
    · exact absurd rfl a
    · exact .inr ⟨hz, by unfold labsR; rw [if_pos (by rw [a]; exact hz)]; exact a⟩
theorem tab_next {at1 : Nat} {bs : List UInt8} {xs : List Nat} {K at' v k q0 at2 q2 : Nat} (h : labsR (bs.drop at1) = appL xs K (labelsL (v - k) ((bs.drop at1).drop K))) (hat : at' = at1 + K) (hk : k < v) (hr : refNumR bs at' 0 32 = (q0, at2, q2)) :
    (q2 = 0 ∧ at2 = at1 + (K + (at2 - at')) ∧ labsR (bs.drop at1) = appL (xs ++ [q0]) (K + (at2 - at')) (labelsL (v - (k + 1)) ((bs.drop at1).drop (K + (at2 - at'))))) ∨ (q2 ≠ 0 ∧ (labsR (bs.drop at1)).1 = q2) := by
  subst hat
  have hs : v - k = (v - (k + 1)) + 1 := by omega
  have hdd : (bs.drop at1).drop K = bs.drop (at1 + K) := by rw [List.drop_drop]
  by_cases hz : q2 = 0
  · subst hz
    obtain ⟨m, m2⟩ := refNumR_ok hr
    refine .inl ⟨rfl, by omega, ?_⟩
    rw [h, hs, appL_step (by rw [hdd, m]), hdd, m, ← hdd, List.drop_drop]
  · rcases refNumR_bad hr hz with ⟨a, _⟩ | ⟨_, a, _⟩
    · exact absurd rfl a
    · exact .inr ⟨hz, by rw [h, hs, appL_bad (by rw [hdd, a]; exact hz), hdd]; exact a⟩
theorem tab_done {bs : List UInt8} {at1 K v : Nat} {xs : List Nat} (h : labsR (bs.drop at1) = appL xs K (labelsL (v - v) ((bs.drop at1).drop K))) : labsR (bs.drop at1) = (0, K, xs) := by
  rw [Nat.sub_self, appL_zero] at h
  exact h
theorem tab_out {bs : List UInt8} {at1 K at' e' v : Nat} {xs : List Nat} (h : (e' = 0 ∧ at' = at1 + K ∧ labsR (bs.drop at1) = appL xs K (labelsL (v - v) ((bs.drop at1).drop K))) ∨ (e' ≠ 0 ∧ (labsR (bs.drop at1)).1 = e')) : (e' = 0 ∧ at' = at1 + K ∧ labsR (bs.drop at1) = (0, K, xs)) ∨ (e' ≠ 0 ∧ (labsR (bs.drop at1)).1 = e') := by
  rcases h with ⟨x, y, z⟩ | h
  · exact .inl ⟨x, y, tab_done z⟩
  · exact .inr h
theorem tab_long {bs : List UInt8} {at1 q0 at2 : Nat} (hr : refNumR bs at1 0 32 = (q0, at2, 0)) (h : 100 < q0) : (tableR (bs.drop at1)).e = 15 := by
  obtain ⟨k, k2⟩ := refNumR_ok hr
  unfold tableR
  simp [k, h, failR]
/-- the labels, and the last one -/
theorem D1.table {w0 w : World} {b code at1 cl : Nat} {Al : Option Addr} {xs : List Nat} {bs : List UInt8} {K at' e' q0 at2 q2 : Nat} (hd : DS w0 w b code q0 0 0 Al cl xs at2 q2) (h : (e' = 0 ∧ at' = at1 + K ∧ labsR (bs.drop at1) = (0, K, xs)) ∨ (e' ≠ 0 ∧ (labsR (bs.drop at1)).1 = e')) (hr : refNumR bs at' e' 32 = (q0, at2, q2)) (h1 : at1 ≤ at2) (h2 : at2 ≤ bs.length) : D1 w0 w b code at1 bs.length (tableR (bs.drop at1)) := by
  refine ⟨q0, 0, 0, Al, cl, xs, at2, q2, hd, h1, h2, ?_⟩
  obtain ⟨t1, t2, t3⟩ := tableR_q (bs.drop at1) _ rfl
  rcases h with ⟨rfl, rfl, h⟩ | ⟨he, h⟩
  · rw [h] at t2 t3
    simp only at t2 t3
    rw [List.drop_drop] at t2 t3
    by_cases hz : q2 = 0
    · subst hz
      obtain ⟨m, m2⟩ := refNumR_ok hr
      rw [m] at t2 t3
      rw [t3 trivial rfl]
      exact .inl ⟨rfl, rfl, by simp only; omega, rfl, rfl, rfl, rfl⟩
    · rcases refNumR_bad hr hz with ⟨a, _⟩ | ⟨_, a, _⟩
      · exact absurd rfl a
      · exact .inr ⟨hz, by rw [t2 trivial, a]⟩
  · have hp := (refNumR_pre hr he).2.2
    exact .inr ⟨by omega, by rw [t1 (by rw [h]; exact he), h, hp]⟩
end Go.Proofs.YtpanlhbdphobdaaGreatDoor
