/-
  flash: a number read by a cursor: contracts.
-/
import Derived.Test.YtiaigkpnhmgphaaFlashG
import Derived.Test.YtiaigkpnhmgphaaNumPure
namespace Go.Proofs.Ytiaigkpnhmgphaa
open Go.RowKit
set_option linter.unusedVariables false

theorem partB_get (bs : List UInt8) (a n : Int) (k : Nat) (h0 : 0 ≤ a) (hk : (k : Int) < n) : (partB bs a n)[k]? = bs[(a + k).toNat]? := by
  unfold partB
  rw [List.getElem?_take, if_pos (by omega), List.getElem?_drop]
  congr 1
  omega
theorem take_one (l : List UInt8) (k : Nat) (b : UInt8) (h : l[k]? = some b) : l.take k ++ [b] = l.take (k + 1) := by
  obtain ⟨hk, hv⟩ := List.getElem?_eq_some_iff.1 h
  rw [List.take_succ_eq_append_getElem hk, hv]

theorem Only.then_below {S : List Nat} {a b d : World} (h : Only S a b) (k : Below a.heap.size b d) : Only S a d :=
  ⟨k.os.trans h.os, k.tape.trans h.tape, k.output.trans h.output, Nat.le_trans h.size k.size, fun i hi hn => (k.block i hi).trans (h.block i hi hn)⟩

/-- a function that tells of bytes whether they are a number, and lays it into the block y -/
def IsFn (F : FuncId) (x y : Nat) (o : Obj) (T : TypeId) (base : Nat) (V : Type) (val : V → Value) (res : List UInt8 → V × Nat × Nat) : Prop :=
  ∀ (A : Option Addr) (c : Nat) (l : List UInt8) (u : Value) (w : World), l.length ≤ 1000 → Hid (Reads w w.heap.size 1 A l.length (l.map B)) → w.heap[x]? = some o → w.heap[y]? = some (.cells #[u] T (0, 0)) →
    Calls Try.prog F #[.slice A l.length c, .pointer (some ⟨x, 0, none⟩), .pointer (some ⟨y, 0, none⟩)] w fun e w' => e = .returned (.int .i64 (res l).2.2) ∧ w' = w.setCell ⟨y, 0, none⟩ (val (res l).1)

/-- what a number's read leaves -/
structure NumPost (w : World) (g f c y : Nat) (T : TypeId) (A : Option Addr) (bs : List UInt8) (r fl fr to at_ : Int) {V : Type} (val : V → Value) (v : V) (k e0 : Nat) (e : Ending) (w' : World) : Prop where
  out : ∃ (e' r' d : Int) (v' : Value), e = .returned (.int .i64 e') ∧ Hid (FL w' f A c bs r' fl) ∧ Hid (CU w' g f fr to (at_ + d)) ∧ Hid (Only [f, g, y] w w') ∧ r ≤ r' ∧ r' ≤ r + 11 ∧ w'.heap[y]? = some (.cells #[v'] T (0, 0)) ∧
    ((e' = e0 ∧ d = k ∧ (e0 = 0 → v' = val v)) ∨ (e' = 9 ∧ d = 0 ∧ 0 ≤ fl ∧ fl < r'))

/-- the state in the middle of a number's read -/
structure NumMid (w w1 : World) (g f c x y base : Nat) (o : Obj) (T : TypeId) (A : Option Addr) (bs : List UInt8) (r fl fr to at_ : Int) {V : Type} (val : V → Value) (res : List UInt8 → V × Nat × Nat) (l : List UInt8) (k : Nat) (v1 : Value) : Prop where
  fl_ : FL w1 f A c bs (r + k) fl
  cu : CU w1 g f fr to (at_ + k)
  only : Only [f, g, y] w w1
  bx : w1.heap[x]? = some o
  by_ : w1.heap[y]? = some (.cells #[val (res (l.take k)).1] T (0, 0))
  own : OwnB w1 base v1 (l.take k)
  bef : ∀ j, j < k → (res (l.take j)).2.2 = 3

set_option maxHeartbeats 3200000 in
set_option maxRecDepth 100000 in
theorem number_any (F : FuncId) (g f c x y : Nat) (o : Obj) (T : TypeId) (A : Option Addr) (bs : List UInt8) (r fl fr to at_ : Int) {V : Type} (val : V → Value) (res : List UInt8 → V × Nat × Nat) (hres : IsNum res) (w : World) (u : Value)
    (hcf : ∀ (args : Array Value) (W : World), (callFunc F args).run Try.prog W = .ok (.enter F args) W) (hF : IsFn F x y o T w.heap.size V val res)
    (hf : Hid (FL w f A c bs r fl)) (hc : Hid (CU w g f fr to at_)) (hr1 : 0 ≤ r) (hr2 : r ≤ 900000) (hl : bs.length ≤ 1000)
    (h1 : 0 ≤ at_) (h2 : at_ ≤ to) (h4 : to ≤ (bs.length : Int)) (hgx : g < x) (hxy : x < y) (hx : Hid (w.heap[x]? = some o)) (hy : Hid (w.heap[y]? = some (.cells #[u] T (0, 0)))) :
    Calls Try.prog 27 #[.pointer (some ⟨g, 0, none⟩), .func (.func F) #[] #[.pointer (some ⟨x, 0, none⟩), .pointer (some ⟨y, 0, none⟩)]] w
      (NumPost w g f c y T A bs r fl fr to at_ val (res (partB bs at_ (to - at_))).1 (res (partB bs at_ (to - at_))).2.1 (res (partB bs at_ (to - at_))).2.2) := by
  obtain ⟨l, hlL⟩ : ∃ l, partB bs at_ (to - at_) = l := ⟨_, rfl⟩
  have hll : (l.length : Int) = to - at_ := by rw [← hlL]; exact part_len bs at_ (to - at_) h1 (by omega) (by omega)
  have hget : Hid (∀ k : Nat, (k : Int) < to - at_ → l[k]? = bs[(at_ + k).toNat]?) := by show ∀ _, _; intro k hk; rw [← hlL]; exact partB_get bs at_ (to - at_) k h1 hk
  rw [hlL]
  clear hlL
  have HLL := hide hll; clear hll
  obtain ⟨base, hbase⟩ : ∃ b, w.heap.size = b := ⟨_, rfl⟩
  rw [hbase] at hF
  have HF := hide hF; clear hF
  have hyb : y < base := by rw [← hbase]; exact blk_lt hy.out
  have hbw : base ≤ w.heap.size := by omega
  have HBS := hide hbase
  clear hbase
  have hfg := hc.out.lt
  have c3 := cell_blk hc.out.blk 3
  simp at c3
  go_enter Try.func27, Try.ntmps27
  go_wp2_with fail
  refine (HF.out none 0 [] u w (by simp) Reads.none_ hx.out hy.out).mono ?_; rintro e w1 ⟨rfl, hw1⟩
  have hm0 : Hid (NumMid w w1 g f c x y base o T A bs r fl fr to at_ val res l 0 (.slice none 0 0)) := by
    have hs : Only [y] w w1 := by rw [hw1]; exact Only.setCell w (p := ⟨y, 0, none⟩) (by simp) _
    refine ⟨by simpa using hf.out.keep hs (by simp; omega) (by simp; omega), by simpa using hc.out.keep hs (by simp; omega), hs.more (by simp), ?_, ?_, own_nil _ _ _ _, fun j hj => by omega⟩
    · exact (hs.block x (blk_lt hx.out) (by simp; omega)).trans hx.out
    · rw [hw1, setCell_blk hy.out]; rfl
  clear hw1 c3
  go_wp2_with fail
  go_loopw [6, 7] (fun v1 e w1 => ∃ k : Nat, k ≤ l.length ∧ e = .int .i64 (res (l.take k)).2.2 ∧ Hid (NumMid w w1 g f c x y base o T A bs r fl fr to at_ val res l k v1)) (fun v1 _ _ => match v1 with | .slice _ n _ => 20 - n | _ => 0)
  case atStart => exact ⟨0, by omega, rfl, hm0⟩
  case round =>
    obtain ⟨k, hk, rfl, hm⟩ := hrel
    obtain ⟨A1, c1, rfl, hc1, hc2⟩ := own_form hm.out.own
    have hlk : (l.take k).length = k := by rw [List.length_take]; omega
    rw [hlk] at hc1 hm ⊢
    have HLK := hide hlk; clear hlk
    obtain ⟨ev, hev⟩ : ∃ ev : Nat, (res (l.take k)).2.2 = ev := ⟨_, rfl⟩
    rw [hev]
    have hev4 : ev ≤ 4 := by rw [← hev]; exact hres.le _
    have hk10 : ev = 3 → k < 10 := by
      intro h3
      apply Decidable.byContradiction
      intro hn
      exact hres.ten (l.take k) (by rw [HLK.out]; omega) (by rw [hev]; exact h3)
    have HEV := hide hev; clear hev
    by_cases h3 : ev = 3
    · have hk10' := hk10 h3
      clear hk10
      subst h3
      have hroom : Room k 1 1 := room_of (by omega) (by omega)
      have hll := HLL.out
      by_cases hkl : k < l.length
      · obtain ⟨b, hb⟩ : ∃ b, l[k]? = some b := ⟨_, List.getElem?_eq_getElem hkl⟩
        have hb' : Hid (bs[(at_ + k).toNat]? = some b) := by show _ = _; rw [← hget.out k (by omega)]; exact hb
        have hHb := hide hb; clear hb
        by_cases hfl : fl < 0 ∨ r + k < fl
        · have HB := hide (byte_ok g f c A bs (r + k) fl fr to (at_ + k) b wr (hide hm.out.fl_) (hide hm.out.cu) (by omega) (by omega) (by omega) (by omega) (by omega) (by omega) hfl hb')
          clear hfl hll
          go_wp2_with fail
          refine HB.out.mono ?_; rintro e w2 ⟨rfl, k2, k3, k4⟩
          have hown2 := hide (own_cast (own_only2 hm.out.own k4.out (fun q hq => by have := own_ge hm.out.own q hq; simp; omega)) HLK.out rfl)
          have hb2 : base ≤ w2.heap.size := by have := k4.out.size; have := hm.out.only.size; omega
          go_wp2_with (at_builtin; refine wpList_push rfl _ _ rfl base u8_elem _ k ((l.take k).map B) rfl w2 _ _ rfl hown2.out rfl rfl hroom hb2 ?_; intro v' w3 ho3 hg3)
          rw [show (.int .u8 (b.toNat : Int) : Value) = B b from rfl, ← List.map_singleton, ← List.map_append, take_one _ _ _ hHb.out] at ho3
          have hlk1 : (l.take (k + 1)).length = k + 1 := by rw [List.length_take]; omega
          have ho3' : OwnB w3 base v' (l.take (k + 1)) := own_cast ho3 hlk1.symm rfl
          have HO3 := hide ho3'; clear ho3 ho3'
          obtain ⟨A3, c3, rfl, hc3, hc4⟩ := own_form HO3.out
          have HLK1 := hide hlk1; clear hlk1
          have hg3' := hide (hg3.below hb2 (fun q hq => own_ge hown2.out q hq)); clear hg3
          have hm2 : Hid (NumMid w w2 g f c x y base o T A bs (r + 1) fl fr to (at_ + 1) val res l k (.slice A1 k c1)) := by
            refine ⟨by have := k2.out; rwa [show r + k + 1 = r + 1 + k from by omega] at this, by have := k3.out; rwa [show at_ + k + 1 = at_ + 1 + k from by omega] at this, hm.out.only.trans (k4.out.more (by simp)), (k4.out.block x (blk_lt hm.out.bx) (by simp; omega)).trans hm.out.bx, (k4.out.block y (blk_lt hm.out.by_) (by simp; omega)).trans hm.out.by_, own_cast hown2.out HLK.out.symm rfl, hm.out.bef⟩
          have hx3 : w3.heap[x]? = some o := (hg3'.out.block x (by omega)).trans hm2.out.bx
          have hy3 := (hg3'.out.block y (by omega)).trans hm2.out.by_
          have hF3 := HF.out A3 c3 (l.take (k + 1)) _ w3 (by rw [HLK1.out]; omega) (Reads.of_own HO3.out) hx3 hy3
          rw [HLK1.out] at hF3 ⊢
          refine hF3.mono ?_; rintro e w4 ⟨rfl, hw4⟩
          clear hF3
          have hs : Only [y] w3 w4 := by rw [hw4]; exact Only.setCell w3 (p := ⟨y, 0, none⟩) (by simp) _
          have hm4 : Hid (NumMid w w4 g f c x y base o T A bs r fl fr to at_ val res l (k + 1) (.slice A3 (k + 1) c3)) := by
            refine ⟨?_, ?_, ?_, ?_, ?_, ?_, ?_⟩
            · have := (hm2.out.fl_.below hg3'.out (by omega)).keep hs (by simp; omega) (by simp; omega)
              rwa [show r + 1 + (k : Int) = r + ((k + 1 : Nat) : Int) from by omega] at this
            · have := (hm2.out.cu.below hg3'.out (by omega)).keep hs (by simp; omega)
              rwa [show at_ + 1 + (k : Int) = at_ + ((k + 1 : Nat) : Int) from by omega] at this
            · exact (hm2.out.only.then_below (by rw [HBS.out]; exact hg3'.out)).trans (hs.more (by simp))
            · exact (hs.block x (blk_lt hx3) (by simp; omega)).trans hx3
            · rw [hw4, setCell_blk hy3]; rfl
            · have := own_only HO3.out hs (by simp; omega)
              rwa [HLK1.out] at this
            · intro j hj
              by_cases hjk : j = k
              · subst hjk; exact HEV.out
              · exact hm.out.bef j (by omega)
          clear hs hw4 hx3 hy3
          go_wp2_with fail
          go_roundw
          case rel => exact ⟨k + 1, by omega, rfl, hm4⟩
          case measure => simp; omega
        · have hfl1 : 0 ≤ fl := by omega
          have hfl2 : fl ≤ r + k := by omega
          have HB := hide (byte_fault g f c A bs (r + k) fl fr to (at_ + k) wr (hide hm.out.fl_) (hide hm.out.cu) (by omega) (by omega) (by omega) (by omega) (by omega) (by omega) hfl1 hfl2)
          clear hfl hll
          go_wp2_with fail
          refine HB.out.mono ?_; rintro e w2 ⟨rfl, k2, k3, k4⟩
          have z3 := frozen_blk k3.out.blk 3
          have d3 := cell_blk k3.out.blk 3
          simp at d3
          go_wp2_with fail
          go_ret
          have hs : Only [g] w2 (w2.setCell ⟨g, 3, none⟩ (.int .i64 at_)) := Only.setCell w2 (p := ⟨g, 3, none⟩) (by simp) _
          have hy2 := (k4.out.block y (blk_lt hm.out.by_) (by simp; omega)).trans hm.out.by_
          exact ⟨9, r + k + 1, 0, _, rfl, k2.out.keep hs (by simp; omega) (by simp; omega), by have := k3.out.move at_; rwa [show at_ + 0 = at_ from by omega], (hm.out.only.trans (k4.out.more (by simp))).trans (hs.more (by simp)), by omega, by omega, (hs.block y (blk_lt hy2) (by simp; omega)).trans hy2, .inr ⟨rfl, rfl, by omega, by omega⟩⟩
      · have hkl' : k = l.length := by omega
        have hto : at_ + (k : Int) = to := by omega
        have HB := hide (byte_short_o g f fr to wr (by have := hm.out.cu; rwa [hto] at this) (by omega) (by omega))
        have HKL := hide hkl'; clear hkl hkl' hll
        have HTO := hide hto; clear hto
        go_wp2_with fail
        refine HB.out.mono ?_; rintro e w2 ⟨rfl, k4⟩
        have hc2' : Hid (CU w2 g f fr to (at_ + k)) := hm.out.cu.keep k4.out (by simp)
        have z3 := frozen_blk hc2'.out.blk 3
        have d3 := cell_blk hc2'.out.blk 3
        simp at d3
        go_wp2_with fail
        go_ret
        have hs : Only [g] w2 (w2.setCell ⟨g, 3, none⟩ (.int .i64 at_)) := Only.setCell w2 (p := ⟨g, 3, none⟩) (by simp) _
        have hy2 := (k4.out.block y (blk_lt hm.out.by_) (by simp)).trans hm.out.by_
        have hlt : l.take k = l := by rw [HKL.out, List.take_length]
        have hE := HEV.out
        rw [hlt] at hE
        refine ⟨3, r + k, 0, _, rfl, (hm.out.fl_.keep k4.out (by simp) (by simp)).keep hs (by simp; omega) (by simp; omega), by have := hc2'.out.move at_; rwa [show at_ + 0 = at_ from by omega], (hm.out.only.trans (k4.out.more (by simp))).trans (hs.more (by simp)), by omega, by omega, (hs.block y (blk_lt hy2) (by simp; omega)).trans hy2, .inl ⟨by rw [hE]; rfl, by rw [hres.none_ l (by rw [hE]; omega)]; rfl, fun h => ?_⟩⟩
        rw [hE] at h
        omega
    · clear hk10
      have hdone := hres.done hk hm.out.bef (by rw [HEV.out]; exact h3)
      obtain ⟨hd1, hd2⟩ := hdone
      have HD1 := hide hd1; clear hd1
      have hrr : r + (k : Int) ≤ r + 11 := by
        apply Decidable.byContradiction
        intro hn
        exact hres.ten (l.take 10) (by rw [List.length_take]; omega) (hm.out.bef 10 (by omega))
      by_cases h0 : ev = 0
      · subst h0
        have hd3 := hd2 (by rw [HD1.out, HEV.out])
        have HD3 := hide hd3; clear hd3 hd2
        go_wp2_with fail
        go_ret
        exact ⟨0, r + k, k, _, rfl, hm.out.fl_, hm.out.cu, hm.out.only, by omega, hrr, hm.out.by_, .inl ⟨by rw [HD1.out, HEV.out]; rfl, by rw [HD3.out], fun _ => by rw [HD1.out]⟩⟩
      · have z3 := frozen_blk hm.out.cu.blk 3
        have d3 := cell_blk hm.out.cu.blk 3
        simp at d3
        have hne0 : ((ev : Int) == 0) = false := by simp; omega
        have hne3 : ((ev : Int) == 3) = false := by simp; omega
        have hne0' : ((ev : Int) != 0) = true := by simp; omega
        clear hd2 h0 h3
        go_wp2_with fail
        go_ret
        have hs : Only [g] wr (wr.setCell ⟨g, 3, none⟩ (.int .i64 at_)) := Only.setCell wr (p := ⟨g, 3, none⟩) (by simp) _
        have hev0 : ev ≠ 0 := by intro h; subst h; simp at hne0
        exact ⟨ev, r + k, 0, _, rfl, hm.out.fl_.keep hs (by simp; omega) (by simp; omega), by have := hm.out.cu.move at_; rwa [show at_ + 0 = at_ from by omega], hm.out.only.trans (hs.more (by simp)), by omega, hrr, (hs.block y (blk_lt hm.out.by_) (by simp; omega)).trans hm.out.by_, .inl ⟨by rw [HD1.out, HEV.out], by rw [hres.none_ l (by rw [HD1.out, HEV.out]; exact hev0)]; rfl, fun h => by rw [HD1.out, HEV.out] at h; exact absurd h hev0⟩⟩
end Go.Proofs.Ytiaigkpnhmgphaa
