/-
  flash: a number read by a cursor: contracts.
  flash: a cursor's Unsigned and Signed: contracts.
  flash: FlashFails: the law's walk.
-/
import Derived.Test.YtpanlhbdphobdaaGreatDoorApAF
import Derived.Test.YtpanlhbdphobdaaGreatDoorApAP
namespace Go.Proofs.YtpanlhbdphobdaaGreatDoor
open Go.RowKit
set_option linter.unusedVariables false

theorem partB_get (bs : List UInt8) (a n : Int) (k : Nat) (h0 : 0 ≤ a) (hk : (k : Int) < n) : (partB bs a n)[k]? = bs[(a + k).toNat]? := by
  unfold partB
  rw [List.getElem?_take, if_pos (by omega), List.getElem?_drop]
  congr 1
  omega
theorem take_one (l : List UInt8) (k : Nat) (b : UInt8) (h : l[k]? = some b) : l.take k ++ [b] = l.take (k + 1) := by
  obtain ⟨hk, hv⟩ := List.getElem?_eq_some_iff.1 h
  rw [List.take_succ_eq_append_getElem hk, hv]


/-- a function that tells of bytes whether they are a number, and lays it into the block y -/
def IsFn (F : FuncId) (x y : Nat) (o : Obj) (T : TypeId) (base : Nat) (V : Type) (val : V → Value) (res : List UInt8 → V × Nat × Nat) : Prop :=
  ∀ (A : Option Addr) (c : Nat) (l : List UInt8) (u : Value) (w : World), l.length ≤ 1000 → Hid (Reads w w.heap.size 1 A l.length (l.map B)) → w.heap[x]? = some o → w.heap[y]? = some (.cells #[u] T (0, 0)) →
    Calls Tryz.prog F #[.slice A l.length c, .pointer (some ⟨x, 0, none⟩), .pointer (some ⟨y, 0, none⟩)] w fun e w' => e = .returned (.int .i64 (res l).2.2) ∧ w' = w.setCell ⟨y, 0, none⟩ (val (res l).1)

/-- what a number's read leaves -/
structure NumPost (w : World) (g f c y : Nat) (T : TypeId) (A : Option Addr) (bs : List UInt8) (r fl fr tu at_ : Int) {V : Type} (val : V → Value) (v : V) (k e0 : Nat) (e : Ending) (w' : World) : Prop where
  out : ∃ (e' r' d : Int) (v' : Value), e = .returned (.int .i64 e') ∧ Hid (FL w' f A c bs r' fl) ∧ Hid (CU w' g f fr tu (at_ + d)) ∧ Hid (Only [f, g, y] w w') ∧ r ≤ r' ∧ r' ≤ r + 11 ∧ w'.heap[y]? = some (.cells #[v'] T (0, 0)) ∧
    ((e' = e0 ∧ d = k ∧ (e0 = 0 → v' = val v)) ∨ (e' = 9 ∧ d = 0 ∧ 0 ≤ fl ∧ fl < r'))

/-- the state in the middle of a number's read -/
structure NumMid (w w1 : World) (g f c x y base : Nat) (o : Obj) (T : TypeId) (A : Option Addr) (bs : List UInt8) (r fl fr tu at_ : Int) {V : Type} (val : V → Value) (res : List UInt8 → V × Nat × Nat) (l : List UInt8) (k : Nat) (v1 : Value) : Prop where
  fl_ : FL w1 f A c bs (r + k) fl
  cu : CU w1 g f fr tu (at_ + k)
  only : Only [f, g, y] w w1
  bx : w1.heap[x]? = some o
  by_ : w1.heap[y]? = some (.cells #[val (res (l.take k)).1] T (0, 0))
  own : OwnB w1 base v1 (l.take k)
  bef : ∀ j, j < k → (res (l.take j)).2.2 = 3

set_option maxHeartbeats 3200000 in
set_option maxRecDepth 100000 in
theorem number_any (F : FuncId) (g f c x y : Nat) (o : Obj) (T : TypeId) (A : Option Addr) (bs : List UInt8) (r fl fr tu at_ : Int) {V : Type} (val : V → Value) (res : List UInt8 → V × Nat × Nat) (hres : IsNum res) (w : World) (u : Value)
    (hcf : ∀ (args : Array Value) (W : World), (callFunc F args).run Tryz.prog W = .ok (.enter F args) W) (hF : IsFn F x y o T w.heap.size V val res)
    (hf : Hid (FL w f A c bs r fl)) (hc : Hid (CU w g f fr tu at_)) (hr1 : 0 ≤ r) (hr2 : r ≤ 900000) (hl : bs.length ≤ 1000)
    (h1 : 0 ≤ at_) (h2 : at_ ≤ tu) (h4 : tu ≤ (bs.length : Int)) (hgx : g < x) (hxy : x < y) (hx : Hid (w.heap[x]? = some o)) (hy : Hid (w.heap[y]? = some (.cells #[u] T (0, 0)))) :
    Calls Tryz.prog 146 #[.pointer (some ⟨g, 0, none⟩), .func (.func F) #[] #[.pointer (some ⟨x, 0, none⟩), .pointer (some ⟨y, 0, none⟩)]] w
      (NumPost w g f c y T A bs r fl fr tu at_ val (res (partB bs at_ (tu - at_))).1 (res (partB bs at_ (tu - at_))).2.1 (res (partB bs at_ (tu - at_))).2.2) := by
  obtain ⟨l, hlL⟩ : ∃ l, partB bs at_ (tu - at_) = l := ⟨_, rfl⟩
  have hll : (l.length : Int) = tu - at_ := by rw [← hlL]; exact part_len bs at_ (tu - at_) h1 (by omega) (by omega)
  have hget : Hid (∀ k : Nat, (k : Int) < tu - at_ → l[k]? = bs[(at_ + k).toNat]?) := by show ∀ _, _; intro k hk; rw [← hlL]; exact partB_get bs at_ (tu - at_) k h1 hk
  rw [hlL]
  clear hlL
  have HLL := hide hll; clear hll
  obtain ⟨base, hbase⟩ : ∃ b, w.heap.size = b := ⟨_, rfl⟩
  rw [hbase] at hF
  have HF := hide hF; clear hF
  have hyb : y < base := by rw [← hbase]; exact blk_lt hy.out
  have hbw : base ≤ w.heap.size := by omega
  have HBS := hide hbase
  clear hbase
  have hfg := hc.out.lt
  have c3 := cell_blk hc.out.blk 3
  simp at c3
  go_enter Tryz.func146, Tryz.ntmps146
  go_wp2_with fail
  refine (HF.out none 0 [] u w (by simp) Reads.none_ hx.out hy.out).mono ?_; rintro e w1 ⟨rfl, hw1⟩
  have hm0 : Hid (NumMid w w1 g f c x y base o T A bs r fl fr tu at_ val res l 0 (.slice none 0 0)) := by
    have hs : Only [y] w w1 := by rw [hw1]; exact Only.setCell w (p := ⟨y, 0, none⟩) (by simp) _
    refine ⟨by simpa using hf.out.keep hs (by simp; omega) (by simp; omega), by simpa using hc.out.keep hs (by simp; omega), hs.more (by simp), ?_, ?_, own_nil _ _ _ _, fun j hj => by omega⟩
    · exact (hs.block x (blk_lt hx.out) (by simp; omega)).trans hx.out
    · rw [hw1, setCell_blk hy.out]; rfl
  clear hw1 c3
  go_wp2_with fail
  go_loopw [6, 7] (fun v1 e w1 => ∃ k : Nat, k ≤ l.length ∧ e = .int .i64 (res (l.take k)).2.2 ∧ Hid (NumMid w w1 g f c x y base o T A bs r fl fr tu at_ val res l k v1)) (fun v1 _ _ => match v1 with | .slice _ n _ => 20 - n | _ => 0)
  case atStart => exact ⟨0, by omega, rfl, hm0⟩
  case round =>
    obtain ⟨k, hk, rfl, hm⟩ := hrel
    obtain ⟨A1, c1, rfl, hc1, hc2⟩ := own_form hm.out.own
    have hlk : (l.take k).length = k := by rw [List.length_take]; omega
    rw [hlk] at hc1 hm ⊢
    have HLK := hide hlk; clear hlk
    obtain ⟨ev, hev⟩ : ∃ ev : Nat, (res (l.take k)).2.2 = ev := ⟨_, rfl⟩
    rw [hev]
    have hev4 : ev ≤ 4 := by rw [← hev]; exact hres.le _
    have hk10 : ev = 3 → k < 10 := by
      intro h3
      apply Decidable.byContradiction
      intro hn
      exact hres.ten (l.take k) (by rw [HLK.out]; omega) (by rw [hev]; exact h3)
    have HEV := hide hev; clear hev
    by_cases h3 : ev = 3
    · have hk10' := hk10 h3
      clear hk10
      subst h3
      have hroom : Room k 1 1 := room_of (by omega) (by omega)
      have hll := HLL.out
      by_cases hkl : k < l.length
      · obtain ⟨b, hb⟩ : ∃ b, l[k]? = some b := ⟨_, List.getElem?_eq_getElem hkl⟩
        have hb' : Hid (bs[(at_ + k).toNat]? = some b) := by show _ = _; rw [← hget.out k (by omega)]; exact hb
        have hHb := hide hb; clear hb
        by_cases hfl : fl < 0 ∨ r + k < fl
        · have HB := hide (byte_ok g f c A bs (r + k) fl fr tu (at_ + k) b wr (hide hm.out.fl_) (hide hm.out.cu) (by omega) (by omega) (by omega) (by omega) (by omega) (by omega) hfl hb')
          clear hfl hll
          go_wp2_with fail
          refine HB.out.mono ?_; rintro e w2 ⟨rfl, k2, k3, k4⟩
          have hown2 := hide (own_cast (own_only2 hm.out.own k4.out (fun q hq => by have := own_ge hm.out.own q hq; simp; omega)) HLK.out rfl)
          have hb2 : base ≤ w2.heap.size := by have := k4.out.size; have := hm.out.only.size; omega
          go_wp2_with (at_builtin; refine wpList_push rfl _ _ rfl base u8_elem _ k ((l.take k).map B) rfl w2 _ _ rfl hown2.out rfl rfl hroom hb2 ?_; intro v' w3 ho3 hg3)
          rw [show (.int .u8 (b.toNat : Int) : Value) = B b from rfl, ← List.map_singleton, ← List.map_append, take_one _ _ _ hHb.out] at ho3
          have hlk1 : (l.take (k + 1)).length = k + 1 := by rw [List.length_take]; omega
          have ho3' : OwnB w3 base v' (l.take (k + 1)) := own_cast ho3 hlk1.symm rfl
          have HO3 := hide ho3'; clear ho3 ho3'
          obtain ⟨A3, c3, rfl, hc3, hc4⟩ := own_form HO3.out
          have HLK1 := hide hlk1; clear hlk1
          have hg3' := hide (hg3.below hb2 (fun q hq => own_ge hown2.out q hq)); clear hg3
          have hm2 : Hid (NumMid w w2 g f c x y base o T A bs (r + 1) fl fr tu (at_ + 1) val res l k (.slice A1 k c1)) := by
            refine ⟨by have := k2.out; rwa [show r + k + 1 = r + 1 + k from by omega] at this, by have := k3.out; rwa [show at_ + k + 1 = at_ + 1 + k from by omega] at this, hm.out.only.trans (k4.out.more (by simp)), (k4.out.block x (blk_lt hm.out.bx) (by simp; omega)).trans hm.out.bx, (k4.out.block y (blk_lt hm.out.by_) (by simp; omega)).trans hm.out.by_, own_cast hown2.out HLK.out.symm rfl, hm.out.bef⟩
          have hx3 : w3.heap[x]? = some o := (hg3'.out.block x (by omega)).trans hm2.out.bx
          have hy3 := (hg3'.out.block y (by omega)).trans hm2.out.by_
          have hF3 := HF.out A3 c3 (l.take (k + 1)) _ w3 (by rw [HLK1.out]; omega) (Reads.of_own HO3.out) hx3 hy3
          rw [HLK1.out] at hF3 ⊢
          refine hF3.mono ?_; rintro e w4 ⟨rfl, hw4⟩
          clear hF3
          have hs : Only [y] w3 w4 := by rw [hw4]; exact Only.setCell w3 (p := ⟨y, 0, none⟩) (by simp) _
          have hm4 : Hid (NumMid w w4 g f c x y base o T A bs r fl fr tu at_ val res l (k + 1) (.slice A3 (k + 1) c3)) := by
            refine ⟨?_, ?_, ?_, ?_, ?_, ?_, ?_⟩
            · have := (hm2.out.fl_.below hg3'.out (by omega)).keep hs (by simp; omega) (by simp; omega)
              rwa [show r + 1 + (k : Int) = r + ((k + 1 : Nat) : Int) from by omega] at this
            · have := (hm2.out.cu.below hg3'.out (by omega)).keep hs (by simp; omega)
              rwa [show at_ + 1 + (k : Int) = at_ + ((k + 1 : Nat) : Int) from by omega] at this
            · exact (hm2.out.only.then_below (by rw [HBS.out]; exact hg3'.out)).trans (hs.more (by simp))
            · exact (hs.block x (blk_lt hx3) (by simp; omega)).trans hx3
            · rw [hw4, setCell_blk hy3]; rfl
            · have := own_only HO3.out hs (by simp; omega)
              rwa [HLK1.out] at this
            · intro j hj
              by_cases hjk : j = k
              · subst hjk; exact HEV.out
              · exact hm.out.bef j (by omega)
          clear hs hw4 hx3 hy3
          go_wp2_with fail
          go_roundw
          case rel => exact ⟨k + 1, by omega, rfl, hm4⟩
          case measure => simp; omega
        · have hfl1 : 0 ≤ fl := by omega
          have hfl2 : fl ≤ r + k := by omega
          have HB := hide (byte_fault g f c A bs (r + k) fl fr tu (at_ + k) wr (hide hm.out.fl_) (hide hm.out.cu) (by omega) (by omega) (by omega) (by omega) (by omega) (by omega) hfl1 hfl2)
          clear hfl hll
          go_wp2_with fail
          refine HB.out.mono ?_; rintro e w2 ⟨rfl, k2, k3, k4⟩
          have z3 := frozen_blk k3.out.blk 3
          have d3 := cell_blk k3.out.blk 3
          simp at d3
          go_wp2_with fail
          go_ret
          have hs : Only [g] w2 (w2.setCell ⟨g, 3, none⟩ (.int .i64 at_)) := Only.setCell w2 (p := ⟨g, 3, none⟩) (by simp) _
          have hy2 := (k4.out.block y (blk_lt hm.out.by_) (by simp; omega)).trans hm.out.by_
          exact ⟨9, r + k + 1, 0, _, rfl, k2.out.keep hs (by simp; omega) (by simp; omega), by have := k3.out.move at_; rwa [show at_ + 0 = at_ from by omega], (hm.out.only.trans (k4.out.more (by simp))).trans (hs.more (by simp)), by omega, by omega, (hs.block y (blk_lt hy2) (by simp; omega)).trans hy2, .inr ⟨rfl, rfl, by omega, by omega⟩⟩
      · have hkl' : k = l.length := by omega
        have hto : at_ + (k : Int) = tu := by omega
        have HB := hide (byte_short_o g f fr tu wr (by have := hm.out.cu; rwa [hto] at this) (by omega) (by omega))
        have HKL := hide hkl'; clear hkl hkl' hll
        have HTO := hide hto; clear hto
        go_wp2_with fail
        refine HB.out.mono ?_; rintro e w2 ⟨rfl, k4⟩
        have hc2' : Hid (CU w2 g f fr tu (at_ + k)) := hm.out.cu.keep k4.out (by simp)
        have z3 := frozen_blk hc2'.out.blk 3
        have d3 := cell_blk hc2'.out.blk 3
        simp at d3
        go_wp2_with fail
        go_ret
        have hs : Only [g] w2 (w2.setCell ⟨g, 3, none⟩ (.int .i64 at_)) := Only.setCell w2 (p := ⟨g, 3, none⟩) (by simp) _
        have hy2 := (k4.out.block y (blk_lt hm.out.by_) (by simp)).trans hm.out.by_
        have hlt : l.take k = l := by rw [HKL.out, List.take_length]
        have hE := HEV.out
        rw [hlt] at hE
        refine ⟨3, r + k, 0, _, rfl, (hm.out.fl_.keep k4.out (by simp) (by simp)).keep hs (by simp; omega) (by simp; omega), by have := hc2'.out.move at_; rwa [show at_ + 0 = at_ from by omega], (hm.out.only.trans (k4.out.more (by simp))).trans (hs.more (by simp)), by omega, by omega, (hs.block y (blk_lt hy2) (by simp; omega)).trans hy2, .inl ⟨by rw [hE]; rfl, by rw [hres.none_ l (by rw [hE]; omega)]; rfl, fun h => ?_⟩⟩
        rw [hE] at h
        omega
    · clear hk10
      have hdone := hres.done hk hm.out.bef (by rw [HEV.out]; exact h3)
      obtain ⟨hd1, hd2⟩ := hdone
      have HD1 := hide hd1; clear hd1
      have hrr : r + (k : Int) ≤ r + 11 := by
        apply Decidable.byContradiction
        intro hn
        exact hres.ten (l.take 10) (by rw [List.length_take]; omega) (hm.out.bef 10 (by omega))
      by_cases h0 : ev = 0
      · subst h0
        have hd3 := hd2 (by rw [HD1.out, HEV.out])
        have HD3 := hide hd3; clear hd3 hd2
        go_wp2_with fail
        go_ret
        exact ⟨0, r + k, k, _, rfl, hm.out.fl_, hm.out.cu, hm.out.only, by omega, hrr, hm.out.by_, .inl ⟨by rw [HD1.out, HEV.out]; rfl, by rw [HD3.out], fun _ => by rw [HD1.out]⟩⟩
      · have z3 := frozen_blk hm.out.cu.blk 3
        have d3 := cell_blk hm.out.cu.blk 3
        simp at d3
        have hne0 : ((ev : Int) == 0) = false := by simp; omega
        have hne3 : ((ev : Int) == 3) = false := by simp; omega
        have hne0' : ((ev : Int) != 0) = true := by simp; omega
        clear hd2 h0 h3
        go_wp2_with fail
        go_ret
        have hs : Only [g] wr (wr.setCell ⟨g, 3, none⟩ (.int .i64 at_)) := Only.setCell wr (p := ⟨g, 3, none⟩) (by simp) _
        have hev0 : ev ≠ 0 := by intro h; subst h; simp at hne0
        exact ⟨ev, r + k, 0, _, rfl, hm.out.fl_.keep hs (by simp; omega) (by simp; omega), by have := hm.out.cu.move at_; rwa [show at_ + 0 = at_ from by omega], hm.out.only.trans (hs.more (by simp)), by omega, hrr, (hs.block y (blk_lt hm.out.by_) (by simp; omega)).trans hm.out.by_, .inl ⟨by rw [HD1.out, HEV.out], by rw [hres.none_ l (by rw [HD1.out, HEV.out]; exact hev0)]; rfl, fun h => by rw [HD1.out, HEV.out] at h; exact absurd h hev0⟩⟩
end Go.Proofs.YtpanlhbdphobdaaGreatDoor

namespace Go.Proofs.YtpanlhbdphobdaaGreatDoor
open Go.RowKit
set_option linter.unusedVariables false

theorem callF {P : Program} {F : FuncId} {fn : Func} (h1 : P.funcs[F]? = some fn) (h2 : (fn.name == "runtime.NumGoroutine") = false) (h3 : fn.body.isNone = false) (args : Array Value) (W : World) : (callFunc F args).run P W = .ok (.enter F args) W := by
  unfold callFunc
  have h2' : ¬ fn.name = "runtime.NumGoroutine" := by simpa using h2
  have h3' : ¬ fn.body = none := fun e => by rw [e] at h3; cases h3
  simp [h1, h2', h3']

set_option maxHeartbeats 800000 in
theorem fnU (x y base : Nat) (n : Int) (hxy : x < y) : IsFn 147 x y (.cells #[.int .i64 n] 3 (0, 0)) 22 base Nat (fun v => .int .u64 v) (fun l => unsignedL l n) := by
  intro A c l u w hl hr hx hy
  have cx := cell_blk hx 0
  have cy := cell_blk hy 0
  simp at cx cy
  have zy := frozen_blk hy 0
  clear hx hy
  obtain ⟨v, size, e, hR⟩ : ∃ v size e, Hid (unsignedL l n = (v, size, e)) := ⟨_, _, _, rfl⟩
  show Calls _ _ _ _ fun e w' => e = .returned (.int .i64 (unsignedL l n).2.2) ∧ w' = w.setCell ⟨y, 0, none⟩ (.int .u64 (unsignedL l n).1)
  rw [hR.out]
  go_enter Tryz.func147, Tryz.ntmps147
  go_wp2_with fail
  refine (unsigned_any A c l n w hr (by omega) v size e hR).mono ?_; rintro e w1 ⟨rfl, rfl⟩
  go_wp2_with fail
  go_ret
  exact ⟨rfl, rfl⟩

set_option maxHeartbeats 800000 in
theorem fnS (x y base : Nat) (n : Int) (hxy : x < y) : IsFn 177 x y (.cells #[.int .i64 n] 3 (0, 0)) 2 base Int (fun v => .int .i64 v) (fun l => signedL l n) := by
  intro A c l u w hl hr hx hy
  have cx := cell_blk hx 0
  have cy := cell_blk hy 0
  simp at cx cy
  have zy := frozen_blk hy 0
  clear hx hy
  obtain ⟨v, size, e, hR⟩ : ∃ v size e, Hid (signedL l n = (v, size, e)) := ⟨_, _, _, rfl⟩
  show Calls _ _ _ _ fun e w' => e = .returned (.int .i64 (signedL l n).2.2) ∧ w' = w.setCell ⟨y, 0, none⟩ (.int .i64 (signedL l n).1)
  rw [hR.out]
  go_enter Tryz.func177, Tryz.ntmps177
  go_wp2_with fail
  refine (signed_any A c l n w hr (by omega) v size e hR).mono ?_; rintro e w1 ⟨rfl, rfl⟩
  go_wp2_with fail
  go_ret
  exact ⟨rfl, rfl⟩

/-- what a cursor's number leaves: it answers, and stands behind it; or the flash has failed -/
structure IntPost (w : World) (g f c : Nat) (A : Option Addr) (bs : List UInt8) (r fl fr tu at_ : Int) {V : Type} (val : V → Value) (z v : V) (k e0 : Nat) (e : Ending) (w' : World) : Prop where
  out : ∃ (e' r' d : Int) (v' : V), e = .returned (.tuple #[val v', .int .i64 e']) ∧ Hid (FL w' f A c bs r' fl) ∧ Hid (CU w' g f fr tu (at_ + d)) ∧ Hid (Only [f, g] w w') ∧ r ≤ r' ∧ r' ≤ r + 11 ∧
    Hid ((e' = e0 ∧ d = k ∧ v' = v) ∨ (e' = 9 ∧ d = 0 ∧ v' = z ∧ 0 ≤ fl ∧ fl < r'))

set_option maxHeartbeats 1600000 in
set_option maxRecDepth 100000 in
theorem cur_unsigned (g f c : Nat) (A : Option Addr) (bs : List UInt8) (r fl fr tu at_ n : Int) (w : World)
    (hf : Hid (FL w f A c bs r fl)) (hc : Hid (CU w g f fr tu at_)) (hr1 : 0 ≤ r) (hr2 : r ≤ 900000) (hl : bs.length ≤ 1000)
    (h1 : 0 ≤ at_) (h2 : at_ ≤ tu) (h4 : tu ≤ (bs.length : Int)) :
    Calls Tryz.prog 115 #[.pointer (some ⟨g, 0, none⟩), .int .i64 n] w
      (IntPost w g f c A bs r fl fr tu at_ (fun v : Nat => .int .u64 v) 0 (unsignedL (partB bs at_ (tu - at_)) n).1 (unsignedL (partB bs at_ (tu - at_)) n).2.1 (unsignedL (partB bs at_ (tu - at_)) n).2.2) := by
  have hz : Hid ((unsignedL (partB bs at_ (tu - at_)) n).2.2 ≠ 0 → (unsignedL (partB bs at_ (tu - at_)) n).1 = 0) := by
    show _ → _
    intro h
    rcases unsignedL_form (partB bs at_ (tu - at_)) n with ⟨a, b⟩ | ⟨a, b | ⟨o, b⟩⟩
    · rw [b]
    · rw [b]
    · rw [b] at h; exact absurd rfl h
  have hcf := callF (P := Tryz.prog) Tryz.func147 (by kernel_rfl) (by kernel_rfl)
  have HCF := hide hcf; clear hcf
  go_enter Tryz.func115, Tryz.ntmps115
  go_wp2_with fail
  have hfs := blk_lt hf.out.blk
  have hgs := blk_lt hc.out.blk
  have hb0 : Below w.heap.size w ((w.alloc (.cells #[.int .i64 n] 3)).alloc (.cells #[.int .u64 0] 22)) := ((Below.refl _ _).alloc (Nat.le_refl _) _).alloc (by simp) _
  have HX : Hid (((w.alloc (.cells #[.int .i64 n] 3)).alloc (.cells #[.int .u64 0] 22)).heap[w.heap.size]? = some (.cells #[.int .i64 n] 3 (0, 0))) := by
    show _ = _
    rw [Below.heap_alloc _ _ _ (by simp)]
    exact heap_alloc_new w _
  have HY : Hid (((w.alloc (.cells #[.int .i64 n] 3)).alloc (.cells #[.int .u64 0] 22)).heap[w.heap.size + 1]? = some (.cells #[.int .u64 0] 22 (0, 0))) := by
    show _ = _
    have := heap_alloc_new (w.alloc (.cells #[.int .i64 n] 3)) (.cells #[.int .u64 0] 22)
    simpa using this
  have HB0 := hide hb0; clear hb0
  have hnum := number_any 147 g f c w.heap.size (w.heap.size + 1) _ 22 A bs r fl fr tu at_ (fun v : Nat => .int .u64 v) (fun l => unsignedL l n) (unsigned_num n) _ (.int .u64 0) HCF.out (fnU _ _ _ n (by omega)) (hide (hf.out.below HB0.out hfs)) (hide (hc.out.below HB0.out hgs)) hr1 hr2 hl h1 h2 h4 hgs (by omega) HX HY
  refine hnum.mono ?_; rintro e w1 ⟨e', r', d, v', rfl, k1, k2, k3, k4, k5, k6, k7⟩
  clear hnum
  have cy := cell_blk k6 0
  simp at cy
  have K6 := hide k6; clear k6
  have ho : Hid (Only [f, g] w w1) := by
    have h := k3.out
    have hb := HB0.out
    refine ⟨h.os.trans hb.os, h.tape.trans hb.tape, h.output.trans hb.output, Nat.le_trans hb.size h.size, fun i hi hn => (h.block i (Nat.lt_of_lt_of_le hi hb.size) ?_).trans (hb.block i hi)⟩
    simp at hn ⊢
    omega
  have K7 := hide k7; clear k7
  by_cases h0 : e' = 0
  · subst h0
    go_wp2_with fail
    go_ret2
    rcases K7.out with ⟨a, b, d'⟩ | ⟨a, _⟩
    · rw [d' (by omega)]
      exact ⟨0, r', d, _, rfl, k1, k2, ho, k4, k5, .inl ⟨a, b, rfl⟩⟩
    · omega
  · have hne : (e' != 0) = true := by simpa using h0
    have H0 := hide h0; clear h0
    go_wp2_with fail
    go_ret2
    rcases K7.out with ⟨a, b, d'⟩ | ⟨a, b, d', e''⟩
    · exact ⟨e', r', d, 0, rfl, k1, k2, ho, k4, k5, .inl ⟨a, b, (hz.out (by have := H0.out; omega)).symm⟩⟩
    · exact ⟨e', r', d, 0, rfl, k1, k2, ho, k4, k5, .inr ⟨a, b, rfl, d', e''⟩⟩

set_option maxHeartbeats 1600000 in
set_option maxRecDepth 100000 in
theorem cur_signed (g f c : Nat) (A : Option Addr) (bs : List UInt8) (r fl fr tu at_ n : Int) (w : World)
    (hf : Hid (FL w f A c bs r fl)) (hc : Hid (CU w g f fr tu at_)) (hr1 : 0 ≤ r) (hr2 : r ≤ 900000) (hl : bs.length ≤ 1000)
    (h1 : 0 ≤ at_) (h2 : at_ ≤ tu) (h4 : tu ≤ (bs.length : Int)) :
    Calls Tryz.prog 149 #[.pointer (some ⟨g, 0, none⟩), .int .i64 n] w
      (IntPost w g f c A bs r fl fr tu at_ (fun v : Int => .int .i64 v) 0 (signedL (partB bs at_ (tu - at_)) n).1 (signedL (partB bs at_ (tu - at_)) n).2.1 (signedL (partB bs at_ (tu - at_)) n).2.2) := by
  have hz : Hid ((signedL (partB bs at_ (tu - at_)) n).2.2 ≠ 0 → (signedL (partB bs at_ (tu - at_)) n).1 = 0) := by
    show _ → _
    intro h
    rcases signedL_form (partB bs at_ (tu - at_)) n with ⟨a, b⟩ | ⟨a, b | ⟨o, b⟩⟩
    · rw [b]
    · rw [b]
    · rw [b] at h; exact absurd rfl h
  have hcf := callF (P := Tryz.prog) Tryz.func177 (by kernel_rfl) (by kernel_rfl)
  have HCF := hide hcf; clear hcf
  go_enter Tryz.func149, Tryz.ntmps149
  go_wp2_with fail
  have hfs := blk_lt hf.out.blk
  have hgs := blk_lt hc.out.blk
  have hb0 : Below w.heap.size w ((w.alloc (.cells #[.int .i64 n] 3)).alloc (.cells #[.int .i64 0] 2)) := ((Below.refl _ _).alloc (Nat.le_refl _) _).alloc (by simp) _
  have HX : Hid (((w.alloc (.cells #[.int .i64 n] 3)).alloc (.cells #[.int .i64 0] 2)).heap[w.heap.size]? = some (.cells #[.int .i64 n] 3 (0, 0))) := by
    show _ = _
    rw [Below.heap_alloc _ _ _ (by simp)]
    exact heap_alloc_new w _
  have HY : Hid (((w.alloc (.cells #[.int .i64 n] 3)).alloc (.cells #[.int .i64 0] 2)).heap[w.heap.size + 1]? = some (.cells #[.int .i64 0] 2 (0, 0))) := by
    show _ = _
    have := heap_alloc_new (w.alloc (.cells #[.int .i64 n] 3)) (.cells #[.int .i64 0] 2)
    simpa using this
  have HB0 := hide hb0; clear hb0
  have hnum := number_any 177 g f c w.heap.size (w.heap.size + 1) _ 2 A bs r fl fr tu at_ (fun v : Int => .int .i64 v) (fun l => signedL l n) (signed_num n) _ (.int .i64 0) HCF.out (fnS _ _ _ n (by omega)) (hide (hf.out.below HB0.out hfs)) (hide (hc.out.below HB0.out hgs)) hr1 hr2 hl h1 h2 h4 hgs (by omega) HX HY
  refine hnum.mono ?_; rintro e w1 ⟨e', r', d, v', rfl, k1, k2, k3, k4, k5, k6, k7⟩
  clear hnum
  have cy := cell_blk k6 0
  simp at cy
  have K6 := hide k6; clear k6
  have ho : Hid (Only [f, g] w w1) := by
    have h := k3.out
    have hb := HB0.out
    refine ⟨h.os.trans hb.os, h.tape.trans hb.tape, h.output.trans hb.output, Nat.le_trans hb.size h.size, fun i hi hn => (h.block i (Nat.lt_of_lt_of_le hi hb.size) ?_).trans (hb.block i hi)⟩
    simp at hn ⊢
    omega
  have K7 := hide k7; clear k7
  by_cases h0 : e' = 0
  · subst h0
    go_wp2_with fail
    go_ret2
    rcases K7.out with ⟨a, b, d'⟩ | ⟨a, _⟩
    · rw [d' (by omega)]
      exact ⟨0, r', d, _, rfl, k1, k2, ho, k4, k5, .inl ⟨a, b, rfl⟩⟩
    · omega
  · have hne : (e' != 0) = true := by simpa using h0
    have H0 := hide h0; clear h0
    go_wp2_with fail
    go_ret2
    rcases K7.out with ⟨a, b, d'⟩ | ⟨a, b, d', e''⟩
    · exact ⟨e', r', d, 0, rfl, k1, k2, ho, k4, k5, .inl ⟨a, b, (hz.out (by have := H0.out; omega)).symm⟩⟩
    · exact ⟨e', r', d, 0, rfl, k1, k2, ho, k4, k5, .inr ⟨a, b, rfl, d', e''⟩⟩
end Go.Proofs.YtpanlhbdphobdaaGreatDoor

namespace Go.Proofs.YtpanlhbdphobdaaGreatDoor
open Go.RowKit
set_option linter.unusedVariables false

theorem u8_bd {n : Int} (h : (Lit.int .u8 n).wf = true) : 0 ≤ n ∧ n ≤ 255 := by
  simpa [Lit.wf, IntKind.min, IntKind.max, IntKind.signed, IntKind.bits] using h

/-- what a read without a sign answers, in cases -/
theorem unsigned_cases (l : List UInt8) (n : Int) : ((unsignedL l n).2.2 = 0 ∧ 1 ≤ (unsignedL l n).2.1 ∧ (unsignedL l n).2.1 ≤ l.length) ∨ ((unsignedL l n).2.2 ≠ 0 ∧ (unsignedL l n).2.2 ≤ 4 ∧ (unsignedL l n).2.1 = 0) := by
  have h := unsigned_num n
  by_cases h0 : (unsignedL l n).2.2 = 0
  · obtain ⟨a, b, _⟩ := h.self l h0
    exact .inl ⟨h0, b, a⟩
  · exact .inr ⟨h0, h.le l, h.none_ l h0⟩
theorem signed_cases (l : List UInt8) (n : Int) : ((signedL l n).2.2 = 0 ∧ 1 ≤ (signedL l n).2.1 ∧ (signedL l n).2.1 ≤ l.length) ∨ ((signedL l n).2.2 ≠ 0 ∧ (signedL l n).2.2 ≤ 4 ∧ (signedL l n).2.1 = 0) := by
  have h := signed_num n
  by_cases h0 : (signedL l n).2.2 = 0
  · obtain ⟨a, b, _⟩ := h.self l h0
    exact .inl ⟨h0, b, a⟩
  · exact .inr ⟨h0, h.le l, h.none_ l h0⟩

set_option maxHeartbeats 400000 in
theorem bytes_range2 (f c : Nat) (A : Option Addr) (bs : List UInt8) (r fl a n : Int) (w : World) (hf : Hid (FL w f A c bs r fl)) (hl : bs.length ≤ 65536)
    (h1 : 0 ≤ a) (h2 : 0 ≤ n) (h3 : a ≤ bs.length) (h4 : (bs.length : Int) - a < n) :
    Calls Tryz.prog 191 #[.pointer (some ⟨f, 0, none⟩), .int .i64 a, .int .i64 n] w fun e w' => e = .returned (.tuple #[.slice none 0 0, .int .i64 2]) ∧ Hid (Only [] w w') := by
  have c0 := cell_blk hf.out.blk 0
  simp at c0
  go_enter Tryz.func191, Tryz.ntmps191
  go_wp2_with fail
  go_ret2
  exact ⟨rfl, ⟨rfl, rfl, rfl, Nat.le_refl _, fun _ _ _ => rfl⟩⟩

end Go.Proofs.YtpanlhbdphobdaaGreatDoor
