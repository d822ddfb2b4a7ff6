import Derived.Test.YtcfmbdkhefdgdaaGreatQAL
import Derived.Test.YtcfmbdkhefdgdaaGreatQAI
import Derived.Test.YtcfmbdkhefdgdaaGreatQAD
import Derived.Test.YtcfmbdkhefdgdaaGreatQAA
import Derived.Test.YtcfmbdkhefdgdaaGreatQAJ
import Derived.Test.YtcfmbdkhefdgdaaGreatQAB
set_option linter.unusedVariables false
namespace Go.Proofs.YtcfmbdkhefdgdaaGreat
open Go.RowKit
def WPost (w : World) (nb : Nat) (Al : Option Addr) (n cl : Nat) (vs vo : Value) (r : Nat × Nat × NS) (e : Ending) (w' : World) : Prop :=
  ∃ vs' vo', e = .returned (.tuple #[.int .i64 (r.1 : Int), .int .i64 (r.2.1 : Int)]) ∧ Hid (NE w' nb Al n cl vs' vo' r.2.2) ∧ Hid (NW w w' nb vs vo vs' vo')
theorem IL.below {w w' : World} {nb : Nat} {Al : Option Addr} {n : Nat} {xs : List (Int × Int × Int × Int × Value)} {cs : List Int} (h : IL w Al n xs cs) (hr : Reads w nb 5 Al n (xs.flatMap insD)) (hb : Below nb w w') (hs : nb ≤ w'.heap.size) : IL w' Al n xs cs :=
  ⟨(hr.below hb).more hs, h.len, h.codes, h.bd, h.one⟩
theorem drop_cons {α : Type} {l : List α} {k : Nat} {c : α} (h : l[k]? = some c) : l.drop k = c :: l.drop (k + 1) := by
  obtain ⟨hk, hv⟩ := List.getElem?_eq_some_iff.1 h
  rw [List.drop_eq_getElem_cons hk, hv]
set_option maxHeartbeats 1600000 in
theorem walk_any (nb : Nat) (Al : Option Addr) (n cl : Nat) (vs vo : Value) (w : World) (xs : List (Int × Int × Int × Int × Value)) (cs : List Int) (h : Hid (NE w nb Al n cl vs vo initN)) (hI : Hid (IL w Al n xs cs)) (hr : Hid (Reads w nb 5 Al n (xs.flatMap insD))) (hn : n ≤ 900000) :
    Calls Tryz.prog 96 #[.pointer (some ⟨nb, 0, none⟩)] w (WPost w nb Al n cl vs vo (goN cs cs 0 initN)) := by
  have hcn : cs.length = n := by rw [← hI.out.codes, List.length_map, hI.out.len]
  have HCN := hide hcn; clear hcn
  have e0 := cell_blk h.out.blk 0
  simp at e0
  go_enter Tryz.func96, Tryz.ntmps96
  go_wp2_with fail
  go_loopw [11] (fun i w1 => ∃ (k : Nat) (vs1 vo1 : Value) (s1 : NS), i = .int .i64 k ∧ k ≤ n ∧ Hid (NE w1 nb Al n cl vs1 vo1 s1) ∧ Hid (NW w w1 nb vs vo vs1 vo1) ∧ Hid (NInv cs k s1) ∧ Hid (NSz k s1) ∧ Hid (goN cs cs 0 initN = goN cs (cs.drop k) k s1)) (fun i _ => n - (intOf i).toNat)
  case atStart => exact ⟨0, vs, vo, initN, rfl, by omega, h, ⟨Only.refl _ _, Lies.refl _ _, Lies.refl _ _⟩, NInv.init cs, ⟨by simp [initN], by simp [initN], by simp [initN]⟩, rfl⟩
  case round =>
    obtain ⟨k, vs1, vo1, s1, rfl, hk, h1, hw1, hInv, hS, hg⟩ := hrel
    by_cases hlt : k < n
    · obtain ⟨c, hc⟩ : ∃ c, cs[k]? = some c := ⟨_, List.getElem?_eq_getElem (by rw [HCN.out]; exact hlt)⟩
      have HC := hide hc; clear hc
      have I1 := hide (hI.out.below hr.out (hw1.out.below h.out) (Nat.le_of_lt (blk_lt h1.out.blk)))
      have HST := hide (step_any nb Al n cl vs1 vo1 s1 k c wr xs cs h1 I1 hInv hS hlt hn HC)
      obtain ⟨en, s2, hE⟩ : ∃ en s2, stepN cs c k s1 = (en, s2) := ⟨_, _, rfl⟩
      rw [hE] at HST
      have HE := hide hE; clear hE
      go_wp2_with fail
      refine HST.out.mono ?_; rintro e w2 ⟨vs2, vo2, rfl, k1, k2⟩
      have hgo := hg.out
      rw [drop_cons HC.out, goN, HE.out] at hgo
      simp only at hgo
      by_cases hen : en = 0
      · subst hen
        rw [if_neg (by omega)] at hgo
        have HGO := hide hgo; clear hgo
        have hi2 := hide (hInv.out.step HC.out (by rw [HE.out]))
        have hs2 := hide (hS.out.step (cs := cs) (c := c))
        rw [HE.out] at hi2 hs2
        go_wp2_with fail
        go_roundw
        case rel => exact ⟨k + 1, vs2, vo2, s2, by go_num, by omega, k1, hw1.out.trans k2.out, hi2, hs2, HGO⟩
        case measure => simp [intOf] <;> omega
      · rw [if_pos hen] at hgo
        have HGO := hide hgo; clear hgo
        have f0 : ((en : Int) == 0) = false := by simp; omega
        have f1 : ((en : Int) != 0) = true := by simp; omega
        clear hen
        go_wp2_with fail
        go_ret2
        rw [HGO.out]
        exact ⟨vs2, vo2, rfl, k1, hw1.out.trans k2.out⟩
    · have hkn : k = n := by omega
      clear hlt
      have hgo := hg.out
      rw [List.drop_of_length_le (by rw [HCN.out]; omega), goN] at hgo
      have d0 := cell_blk h1.out.blk 0
      have d3 := cell_blk h1.out.blk 3
      simp at d0 d3
      by_cases hcl : s1.closed = true
      · rw [if_pos hcl] at hgo
        have HGO := hide hgo; clear hgo
        rw [hcl] at d3
        clear hcl
        go_wp2_with fail
        go_ret2
        rw [HGO.out]
        exact ⟨vs1, vo1, rfl, h1, hw1⟩
      · rw [if_neg hcl, hkn] at hgo
        have HGO := hide hgo; clear hgo
        rw [show s1.closed = false from by simpa using hcl] at d3
        clear hcl
        go_wp2_with fail
        go_ret2
        rw [HGO.out]
        exact ⟨vs1, vo1, rfl, h1, hw1⟩
def SPost (w : World) (r : Nat × Nat × NS) (e : Ending) (w' : World) : Prop :=
  ∃ v' ss, e = .returned (.tuple #[v', .int .i64 ((if r.2.1 = 0 then 0 else r.1 : Nat) : Int), .int .i64 (r.2.1 : Int)]) ∧ Hid (ss = if r.2.1 = 0 then r.2.2.spans else []) ∧ Hid (w'.ownsRow w.heap.size 249 3 v' ss.length (ss.flatMap spanD)) ∧ Hid (Below w.heap.size w w')
set_option maxHeartbeats 800000 in
theorem spans_any (Al : Option Addr) (n cl : Nat) (w : World) (xs : List (Int × Int × Int × Int × Value)) (cs : List Int) (hI : Hid (IL w Al n xs cs)) (hn : n ≤ 900000) :
    Calls Tryz.prog 61 #[.slice Al n cl] w (SPost w (goN cs cs 0 initN)) := by
  obtain ⟨W, hW⟩ : ∃ W, w.alloc (.cells #[.slice Al n cl, .slice none 0 0, .slice none 0 0, .bool false, .int .i64 0] 191) = W := ⟨_, rfl⟩
  have hb : Below w.heap.size w W := by rw [← hW]; exact (Below.refl _ _).alloc (Nat.le_refl _) _
  have hNE : Hid (NE W w.heap.size Al n cl (.slice none 0 0) (.slice none 0 0) initN) := by
    refine ⟨by rw [← hW]; exact heap_alloc_new w _, own_nil _ _ _ _, own_nil _ _ _ _, fun g hg => by cases hg⟩
  have hsz : w.heap.size < W.heap.size := blk_lt hNE.out.blk
  have hr := hide (hI.out.reads.below hb)
  have hIW : Hid (IL W Al n xs cs) := ⟨hr.out.more (by omega), hI.out.len, hI.out.codes, hI.out.bd, hI.out.one⟩
  have HWK := hide (walk_any w.heap.size Al n cl _ _ W xs cs hNE hIW hr hn)
  obtain ⟨pl, en, sf, hE⟩ : ∃ pl en sf, goN cs cs 0 initN = (pl, en, sf) := ⟨_, _, _, rfl⟩
  rw [hE] at HWK ⊢
  have HB := hide hb; clear hb hE
  have HW := hide hW; clear hW
  go_enter Tryz.func61, Tryz.ntmps61
  go_wp2_with fail
  rw [HW.out]
  refine HWK.out.mono ?_; rintro e w2 ⟨vs2, vo2, rfl, k1, k2⟩
  have hbel : Hid (Below w.heap.size w w2) := HB.out.trans (k2.out.below hNE.out)
  by_cases hen : en = 0
  · subst hen
    have d1 := cell_blk k1.out.blk 1
    simp at d1
    go_wp2_with fail
    go_ret3
    exact ⟨vs2, sf.spans, rfl, by show _ = _; rw [if_pos rfl], own_base k1.out.sp (fun g hg => by have := own_ge k1.out.sp g hg; omega), hbel⟩
  · have f0 : ((en : Int) == 0) = false := by simp; omega
    have f1 : ((en : Int) != 0) = true := by simp; omega
    have HEN := hide hen; clear hen
    go_wp2_with fail
    go_ret3
    refine ⟨.slice none 0 0, [], ?_, by show _ = _; rw [if_neg HEN.out], own_nil _ _ _ _, hbel⟩
    simp only
    rw [if_neg HEN.out]
    rfl
end Go.Proofs.YtcfmbdkhefdgdaaGreat
namespace Go.Proofs.YtcfmbdkhefdgdaaGreat
open Go.RowKit
structure Row {α : Type} (w : World) (size : Nat) (dec : α → List Value) (s : Sl α) : Prop where
  r : Reads w w.heap.size size s.at_ s.l.length (s.l.flatMap dec)
  c : s.l.length ≤ s.cap
  m : s.cap ≤ maxLen
theorem Row.below {α : Type} {w w' : World} {size : Nat} {dec : α → List Value} {s : Sl α} (h : Row w size dec s) (hb : Below w.heap.size w w') : Row w' size dec s :=
  ⟨(h.r.below hb).more hb.size, h.c, h.m⟩
theorem addr_pos (a : Addr) (j : Nat) (hj : 0 < j) : a.add j = ⟨a.block, a.off + j, none⟩ := by
  conv => lhs; unfold Addr.add
  split
  · omega
  · rfl
theorem Row.at_ {α : Type} {w : World} {size : Nat} {dec : α → List Value} {s : Sl α} (h : Row w size dec s) (hd : ∀ a, (dec a).length = size) {i : Nat} {x : α} (hx : s.l[i]? = some x) :
    ∃ ad : Addr, s.at_ = some ad ∧ ad.block < w.heap.size ∧ (∀ u, (dec x)[0]? = some u → 0 < size → w.cell? (ad.add (i * size)) = some u) ∧
      ∀ j, 0 < j → j < size → ∀ u, (dec x)[j]? = some u → w.cell? ⟨(ad.add (i * size)).block, (ad.add (i * size)).off + j, none⟩ = some u := by
  have hi := lt_some hx
  obtain ⟨ad, h1, hb, h2⟩ := h.r.2 (by omega)
  have hk : ∀ j, j < size → ∀ u, (dec x)[j]? = some u → w.cell? ((ad.add (i * size)).add j) = some u := by
    intro j hj u hu
    rw [add_of_add]
    refine h2 _ _ ?_
    rw [flatMap_get (size := size) hd s.l i j x hx hj]
    exact hu
  refine ⟨ad, h1, hb, fun u hu h0 => ?_, fun j h0 hj u hu => ?_⟩
  · have := hk 0 h0 u hu
    rwa [show (ad.add (i * size)).add 0 = ad.add (i * size) from by simp [Addr.add]] at this
  · rw [← addr_pos _ j h0]
    exact hk j hj u hu
def bD (b : UInt8) : List Value := [B b]
def uD (n : Nat) : List Value := [U n]
def iD (n : Int) : List Value := [.int .i64 n]
theorem map_bD (l : List UInt8) : l.flatMap bD = l.map B := by unfold bD; rw [← List.map_eq_flatMap]
theorem map_uD (l : List Nat) : l.flatMap uD = l.map U := by unfold uD; rw [← List.map_eq_flatMap]
theorem Row.bytes {w : World} {s : Sl UInt8} (h : Row w 1 bD s) : Reads w w.heap.size 1 s.at_ s.l.length (s.l.map B) := by rw [← map_bD]; exact h.r
theorem Row.nums {w : World} {s : Sl Nat} (h : Row w 1 uD s) : Reads w w.heap.size 1 s.at_ s.l.length (s.l.map U) := by rw [← map_uD]; exact h.r
structure XL where
  code : Int
  a : Nat
  b : Nat
  al : Int
  l : Sl Nat
def XL.x (y : XL) : XI := ⟨y.code, y.a, y.b, y.al, y.l.l⟩
def XL.t (y : XL) : Int × Int × Int × Int × Value := (y.code, (y.a : Int), (y.b : Int), y.al, y.l.val)
def XL.cs (y : XL) : List Value := insD y.t
structure SgL where
  p : Sl UInt8
  r : Sl UInt8
def SgL.g (y : SgL) : MSg := ⟨y.p.l, y.r.l⟩
def SgL.cs (y : SgL) : List Value := [y.p.val, y.r.val]
structure BdL where
  loc : Sl UInt8
  l : Sl XL
def BdL.g (y : BdL) : MBd := ⟨y.loc.l, y.l.l.map XL.x⟩
def BdL.val (y : BdL) : Value := .agg #[y.loc.val, y.l.val]
structure FuL where
  sig : Int
  bd : BdL
def FuL.g (y : FuL) : MFu := ⟨y.sig, y.bd.g⟩
def FuL.cs (y : FuL) : List Value := [.int .i64 y.sig, y.bd.loc.val, y.bd.l.val]
structure ElL where
  at_ : Nat
  fs : Sl Int
def ElL.g (y : ElL) : MEl := ⟨y.at_, y.fs.l⟩
def ElL.cs (y : ElL) : List Value := [.int .u64 (y.at_ : Int), y.fs.val]
structure DaL where
  mem : Int
  at_ : Nat
  bs : Sl UInt8
def DaL.g (y : DaL) : MDa := ⟨y.mem, y.at_, y.bs.l⟩
def DaL.cs (y : DaL) : List Value := [.int .i64 y.mem, .int .u64 (y.at_ : Int), y.bs.val]
def MIm.cs (y : MIm) : List Value := [.string ⟨y.m.toArray⟩, .string ⟨y.n.toArray⟩, .int .i64 y.sig]
def MLm.cs (y : MLm) : List Value := [.int .i64 y.mn, .int .i64 y.mx, .bool y.wide]
def MGl.cs (y : MGl) : List Value := [.int .u8 (y.t.toNat : Int), .bool y.mu, .int .u64 (y.v : Int)]
def MEx.cs (y : MEx) : List Value := [.string ⟨y.name.toArray⟩, .int .i64 y.kind, .int .i64 y.ix]
structure MoL where
  sigs : Sl SgL
  imps : Sl MIm
  funcs : Sl FuL
  table : Int
  mems : Sl MLm
  gls : Sl MGl
  exs : Sl MEx
  start : Int
  els : Sl ElL
  das : Sl DaL
def MoL.g (m : MoL) : Mo := ⟨m.sigs.l.map SgL.g, m.imps.l, m.funcs.l.map FuL.g, m.table, m.mems.l, m.gls.l, m.exs.l, m.start, m.els.l.map ElL.g, m.das.l.map DaL.g⟩
def MoL.cs (m : MoL) : List Value := [m.sigs.val, m.imps.val, m.funcs.val, .int .i64 m.table, m.mems.val, m.gls.val, m.exs.val, .int .i64 m.start, m.els.val, m.das.val]
def I64 (n : Int) : Prop := -9223372036854775808 ≤ n ∧ n ≤ 9223372036854775807
def U64 (n : Nat) : Prop := n < 18446744073709551616
structure BdIn (w : World) (y : BdL) : Prop where
  loc : Row w 1 bD y.loc
  l : Row w 5 XL.cs y.l
  lab : ∀ x ∈ y.l.l, Row w 1 uD x.l
  num : ∀ x ∈ y.l.l, x.x.In
theorem BdIn.below {w w' : World} {y : BdL} (h : BdIn w y) (hb : Below w.heap.size w w') : BdIn w' y :=
  ⟨h.loc.below hb, h.l.below hb, fun x hx => (h.lab x hx).below hb, h.num⟩
structure MoIn (w : World) (m : MoL) : Prop where
  sigs : Row w 2 SgL.cs m.sigs
  sig : ∀ x ∈ m.sigs.l, Row w 1 bD x.p ∧ Row w 1 bD x.r
  imps : Row w 3 MIm.cs m.imps
  imp : ∀ x ∈ m.imps.l, I64 x.sig ∧ x.m.length ≤ 9223372036854775807 ∧ x.n.length ≤ 9223372036854775807
  funcs : Row w 3 FuL.cs m.funcs
  func : ∀ x ∈ m.funcs.l, I64 x.sig ∧ BdIn w x.bd
  table : I64 m.table
  mems : Row w 3 MLm.cs m.mems
  mem : ∀ x ∈ m.mems.l, I64 x.mn ∧ I64 x.mx
  gls : Row w 3 MGl.cs m.gls
  gl : ∀ x ∈ m.gls.l, U64 x.v
  exs : Row w 3 MEx.cs m.exs
  ex : ∀ x ∈ m.exs.l, I64 x.kind ∧ I64 x.ix ∧ x.name.length ≤ 9223372036854775807
  start : I64 m.start
  els : Row w 2 ElL.cs m.els
  el : ∀ x ∈ m.els.l, U64 x.at_ ∧ Row w 1 iD x.fs ∧ ∀ n ∈ x.fs.l, I64 n
  das : Row w 3 DaL.cs m.das
  da : ∀ x ∈ m.das.l, I64 x.mem ∧ U64 x.at_ ∧ Row w 1 bD x.bs
theorem MoIn.below {w w' : World} {m : MoL} (h : MoIn w m) (hb : Below w.heap.size w w') : MoIn w' m :=
  ⟨h.sigs.below hb, fun x hx => ⟨(h.sig x hx).1.below hb, (h.sig x hx).2.below hb⟩, h.imps.below hb, h.imp, h.funcs.below hb, fun x hx => ⟨(h.func x hx).1, (h.func x hx).2.below hb⟩, h.table,
   h.mems.below hb, h.mem, h.gls.below hb, h.gl, h.exs.below hb, h.ex, h.start, h.els.below hb, fun x hx => ⟨(h.el x hx).1, (h.el x hx).2.1.below hb, (h.el x hx).2.2⟩,
   h.das.below hb, fun x hx => ⟨(h.da x hx).1, (h.da x hx).2.1, (h.da x hx).2.2.below hb⟩⟩
structure MoAt (w : World) (g : Nat) (m : MoL) : Prop where
  blk : w.heap[g]? = some (.cells m.cs.toArray 79 (0, 0))
  in_ : MoIn w m
theorem MoAt.below {w w' : World} {g : Nat} {m : MoL} (h : MoAt w g m) (hb : Below w.heap.size w w') : MoAt w' g m :=
  ⟨(hb.block g (blk_lt h.blk)).trans h.blk, h.in_.below hb⟩
theorem MoAt.lt {w : World} {g : Nat} {m : MoL} (h : MoAt w g m) : g < w.heap.size := blk_lt h.blk
theorem MoAt.cell {w : World} {g : Nat} {m : MoL} (h : MoAt w g m) {k : Nat} {u : Value} (hu : m.cs[k]? = some u) : w.cell? ⟨g, k, none⟩ = some u := by
  rw [cell_blk h.blk k, List.getElem?_toArray]; exact hu
structure MoCells (w : World) (g : Nat) (m : MoL) : Prop where
  c0 : w.cell? ⟨g, 0, none⟩ = some (.slice m.sigs.at_ m.sigs.l.length m.sigs.cap)
  c1 : w.cell? ⟨g, 1, none⟩ = some (.slice m.imps.at_ m.imps.l.length m.imps.cap)
  c2 : w.cell? ⟨g, 2, none⟩ = some (.slice m.funcs.at_ m.funcs.l.length m.funcs.cap)
  c3 : w.cell? ⟨g, 3, none⟩ = some (.int .i64 m.table)
  c4 : w.cell? ⟨g, 4, none⟩ = some (.slice m.mems.at_ m.mems.l.length m.mems.cap)
  c5 : w.cell? ⟨g, 5, none⟩ = some (.slice m.gls.at_ m.gls.l.length m.gls.cap)
  c6 : w.cell? ⟨g, 6, none⟩ = some (.slice m.exs.at_ m.exs.l.length m.exs.cap)
  c7 : w.cell? ⟨g, 7, none⟩ = some (.int .i64 m.start)
  c8 : w.cell? ⟨g, 8, none⟩ = some (.slice m.els.at_ m.els.l.length m.els.cap)
  c9 : w.cell? ⟨g, 9, none⟩ = some (.slice m.das.at_ m.das.l.length m.das.cap)
theorem MoAt.cells {w : World} {g : Nat} {m : MoL} (h : MoAt w g m) : MoCells w g m :=
  ⟨h.cell rfl, h.cell rfl, h.cell rfl, h.cell rfl, h.cell rfl, h.cell rfl, h.cell rfl, h.cell rfl, h.cell rfl, h.cell rfl⟩
theorem below_dr {B : Nat} {a w : World} (h : Below B a w) (n : Nat) : Below B a (w.drewN n) := ⟨h.os, h.tape, h.output, h.size, h.block⟩
theorem set_two {w : World} {g : Nat} {a b : Value} {t : TypeId} (h : w.heap[g]? = some (.cells #[a, b] t (0, 0))) (u v : Value) {B : Nat} (hB : B ≤ g) :
    ((w.setCell ⟨g, 0, none⟩ u).setCell ⟨g, 1, none⟩ v).cell? ⟨g, 0, none⟩ = some u ∧ ((w.setCell ⟨g, 0, none⟩ u).setCell ⟨g, 1, none⟩ v).cell? ⟨g, 1, none⟩ = some v ∧ Below B w ((w.setCell ⟨g, 0, none⟩ u).setCell ⟨g, 1, none⟩ v) := by
  have h2 := setCell_blk (setCell_blk h 0 u) 1 v
  exact ⟨cell_blk h2 0, cell_blk h2 1, ((Below.refl _ _).setCell (p := ⟨g, 0, none⟩) hB _).setCell (p := ⟨g, 1, none⟩) hB _⟩
theorem box_new (w : World) (cs : Array Value) (t : TypeId) : ∃ W, w.alloc (.cells cs t) = W ∧ Below w.heap.size w W ∧ W.heap[w.heap.size]? = some (.cells cs t (0, 0)) ∧ W.heap.size = w.heap.size + 1 :=
  ⟨_, rfl, (Below.refl _ _).alloc (Nat.le_refl _) _, heap_alloc_new w _, by simp⟩
theorem sl_len {α : Type} {s : Sl α} {w : World} {size : Nat} {dec : α → List Value} (h : Row w size dec s) : s.l.length ≤ 9223372036854775807 := by
  have := h.c; have := h.m; unfold maxLen at *; omega
end Go.Proofs.YtcfmbdkhefdgdaaGreat
namespace Go.Proofs.YtcfmbdkhefdgdaaGreat
open Go.RowKit
theorem wfU64 {n : Int} (h : (Lit.int .u64 n).wf = true) : 0 ≤ n ∧ n ≤ 18446744073709551615 := by
  simpa [Lit.wf, IntKind.min, IntKind.max, IntKind.signed, IntKind.bits] using h
theorem wfU8 {n : Int} (h : (Lit.int .u8 n).wf = true) : 0 ≤ n ∧ n ≤ 255 := by
  simpa [Lit.wf, IntKind.min, IntKind.max, IntKind.signed, IntKind.bits] using h
theorem wfI64 {n : Int} (h : (Lit.int .i64 n).wf = true) : I64 n := by
  unfold I64
  simpa [Lit.wf, IntKind.min, IntKind.max, IntKind.signed, IntKind.bits] using h
def b8 (n : Int) : UInt8 := UInt8.ofNat n.toNat
theorem b8_val {n : Int} (h : (Lit.int .u8 n).wf = true) : ((b8 n).toNat : Int) = n := by
  have := wfU8 h
  unfold b8
  rw [UInt8.toNat_ofNat']
  omega
def slB (s : Sl Int) : Sl UInt8 := ⟨s.at_, s.cap, s.l.map b8⟩
def slU (s : Sl Int) : Sl Nat := ⟨s.at_, s.cap, s.l.map Int.toNat⟩
def sgL (x : SgA) : SgL := ⟨slB x.1, slB x.2.1⟩
def imL (x : ImA) : MIm := ⟨x.1.data.toList, x.2.1.data.toList, x.2.2.1⟩
def xiL (x : RIA) : XL := ⟨x.1, x.2.1.toNat, x.2.2.1.toNat, x.2.2.2.1, slU x.2.2.2.2.1⟩
def bdL (x : BdA) : BdL := ⟨slB x.1, ⟨x.2.1.at_, x.2.1.cap, x.2.1.l.map xiL⟩⟩
def fnL (x : FnA) : FuL := ⟨x.1, bdL x.2.1⟩
def lmL (x : LmA) : MLm := ⟨x.1, x.2.1, x.2.2.1⟩
def glL (x : GlA) : MGl := ⟨b8 x.1, x.2.1, x.2.2.1.toNat⟩
def exL (x : ExA) : MEx := ⟨x.1.data.toList, x.2.1, x.2.2.1⟩
def elL (x : ElA) : ElL := ⟨x.1.toNat, x.2.1⟩
def dtL (x : DtA) : DaL := ⟨x.1, x.2.1.toNat, slB x.2.2.1⟩
def slM {α β : Type} (f : α → β) (s : Sl α) : Sl β := ⟨s.at_, s.cap, s.l.map f⟩
def moL (x : MoA) : MoL := ⟨slM sgL x.1, slM imL x.2.1, slM fnL x.2.2.1, x.2.2.2.1, slM lmL x.2.2.2.2.1, slM glL x.2.2.2.2.2.1, slM exL x.2.2.2.2.2.2.1, x.2.2.2.2.2.2.2.1, slM elL x.2.2.2.2.2.2.2.2.1, slM dtL x.2.2.2.2.2.2.2.2.2.1⟩
theorem slM_val {α β : Type} (f : α → β) (s : Sl α) : (slM f s).val = s.val := by simp [Sl.val, slM]
theorem slB_val (s : Sl Int) : (slB s).val = s.val := by simp [Sl.val, slB]
theorem slU_val (s : Sl Int) : (slU s).val = s.val := by simp [Sl.val, slU]
theorem moL_cs (x : MoA) : (moL x).cs = moD x := by
  unfold MoL.cs moL moD
  simp only [slM_val]
  rfl
theorem flat_map {α β : Type} {dec : α → List Value} {dec2 : β → List Value} {ok : α → Prop} (f : α → β) (hd : ∀ a, ok a → dec2 (f a) = dec a) : ∀ (l : List α), (∀ a ∈ l, ok a) → (l.map f).flatMap dec2 = l.flatMap dec
  | [], _ => rfl
  | a :: r, h => by
    rw [List.map_cons, List.flatMap_cons, List.flatMap_cons, hd a (h a (by simp)), flat_map f hd r (fun b hb => h b (by simp [hb]))]
theorem row_map {α β : Type} {w : World} {size bytes : Nat} {dec : α → List Value} {dec2 : β → List Value} {ok : α → Prop} {s : Sl α} (f : α → β) (h : s.Ok w dec size bytes ok) (hd : ∀ a, ok a → dec2 (f a) = dec a) : Row w size dec2 (slM f s) := by
  refine ⟨?_, by simpa [slM] using h.len, h.cap⟩
  have := h.reads
  show Reads w w.heap.size size s.at_ (s.l.map f).length ((s.l.map f).flatMap dec2)
  rw [List.length_map, flat_map f hd s.l h.all]
  exact this
theorem by_row {w : World} {s : Sl Int} (h : s.Ok w byD 1 1 byOk) : Row w 1 bD (slB s) :=
  row_map b8 h fun a ha => by unfold bD byD B; rw [b8_val ha]
theorem u_row {w : World} {s : Sl Int} (h : s.Ok w wdD 1 8 wdOk) : Row w 1 uD (slU s) :=
  row_map Int.toNat h fun a ha => by have := wfU64 ha; unfold uD wdD U; rw [show ((a.toNat : Nat) : Int) = a from by omega]
theorem i_row {w : World} {s : Sl Int} (h : s.Ok w nmD 1 8 nmOk) : Row w 1 iD s := ⟨h.reads, h.len, h.cap⟩
theorem map_mem {α β : Type} {f : α → β} {s : Sl α} {y : β} (h : y ∈ (slM f s).l) : ∃ x ∈ s.l, f x = y := List.mem_map.1 h
theorem xi_in {w : World} {x : RIA} (h : riaOk w x) : (xiL x).x.In ∧ XL.cs (xiL x) = riaD x ∧ Row w 1 uD (xiL x).l := by
  obtain ⟨h1, h2, h3, h4, h5, _⟩ := h
  have a := wfI64 h1; have b := wfU64 h2; have c := wfU64 h3; have d := wfI64 h4
  refine ⟨⟨a.1, a.2, ?_, ?_, d.1, d.2, ?_⟩, ?_, u_row h5⟩
  · show x.2.1.toNat < _; omega
  · show x.2.2.1.toNat < _; omega
  · intro n hn
    obtain ⟨m, hm, rfl⟩ := List.mem_map.1 hn
    have := wfU64 (h5.all m hm)
    omega
  · show [Value.int .i64 x.1, .int .u64 ((x.2.1.toNat : Nat) : Int), .int .u64 ((x.2.2.1.toNat : Nat) : Int), .int .i64 x.2.2.2.1, (slU x.2.2.2.2.1).val] = _
    rw [slU_val, show ((x.2.1.toNat : Nat) : Int) = x.2.1 from by omega, show ((x.2.2.1.toNat : Nat) : Int) = x.2.2.1 from by omega]
    rfl
theorem bd_in {w : World} {x : BdA} (h : bdOk w x) : BdIn w (bdL x) := by
  obtain ⟨h1, h2, _⟩ := h
  refine ⟨by_row h1, row_map xiL h2 fun a ha => (xi_in ha).2.1, fun y hy => ?_, fun y hy => ?_⟩
  · obtain ⟨z, hz, rfl⟩ := List.mem_map.1 hy
    exact (xi_in (h2.all z hz)).2.2
  · obtain ⟨z, hz, rfl⟩ := List.mem_map.1 hy
    exact (xi_in (h2.all z hz)).1
theorem str_back (s : ByteArray) : (⟨s.data.toList.toArray⟩ : ByteArray) = s := by simp
theorem mo_in {w : World} {x : MoA} (h : moOk w x) : MoIn w (moL x) := by
  obtain ⟨h1, h2, h3, h4, h5, h6, h7, h8, h9, h10, _⟩ := h
  refine ⟨row_map sgL h1 fun a _ => ?_, fun y hy => ?_, row_map imL h2 fun a _ => ?_, fun y hy => ?_, row_map fnL h3 fun a _ => ?_, fun y hy => ?_, wfI64 h4, row_map lmL h5 fun a _ => rfl, fun y hy => ?_, row_map glL h6 fun a ha => ?_, fun y hy => ?_,
    row_map exL h7 fun a _ => ?_, fun y hy => ?_, wfI64 h8, row_map elL h9 fun a ha => ?_, fun y hy => ?_, row_map dtL h10 fun a ha => ?_, fun y hy => ?_⟩
  · show [(slB a.1).val, (slB a.2.1).val] = _
    rw [slB_val, slB_val]; rfl
  · obtain ⟨z, hz, rfl⟩ := map_mem hy
    exact ⟨by_row (h1.all z hz).1, by_row (h1.all z hz).2.1⟩
  · show [Value.string ⟨a.1.data.toList.toArray⟩, .string ⟨a.2.1.data.toList.toArray⟩, .int .i64 a.2.2.1] = _
    rw [str_back, str_back]; rfl
  · obtain ⟨z, hz, rfl⟩ := map_mem hy
    obtain ⟨k1, k2, k3, _⟩ := h2.all z hz
    refine ⟨wfI64 k3, ?_, ?_⟩
    · show z.1.data.toList.length ≤ _
      have : z.1.data.toList.length = z.1.size := by simp
      omega
    · show z.2.1.data.toList.length ≤ _
      have : z.2.1.data.toList.length = z.2.1.size := by simp
      omega
  · show [Value.int .i64 a.1, (slB a.2.1.1).val, (slM xiL a.2.1.2.1).val] = _
    rw [slB_val, slM_val]; rfl
  · obtain ⟨z, hz, rfl⟩ := map_mem hy
    exact ⟨wfI64 (h3.all z hz).1, bd_in (h3.all z hz).2.1⟩
  · obtain ⟨z, hz, rfl⟩ := map_mem hy
    exact ⟨wfI64 (h5.all z hz).1, wfI64 (h5.all z hz).2.1⟩
  · obtain ⟨k1, _, k2, _⟩ := ha
    have := wfU64 k2
    show [Value.int .u8 ((b8 a.1).toNat : Int), .bool a.2.1, .int .u64 ((a.2.2.1.toNat : Nat) : Int)] = _
    rw [b8_val k1, show ((a.2.2.1.toNat : Nat) : Int) = a.2.2.1 from by omega]; rfl
  · obtain ⟨z, hz, rfl⟩ := map_mem hy
    have := wfU64 (h6.all z hz).2.2.1
    show z.2.2.1.toNat < _
    omega
  · show [Value.string ⟨a.1.data.toList.toArray⟩, .int .i64 a.2.1, .int .i64 a.2.2.1] = _
    rw [str_back]; rfl
  · obtain ⟨z, hz, rfl⟩ := map_mem hy
    obtain ⟨k1, k2, k3, _⟩ := h7.all z hz
    refine ⟨wfI64 k2, wfI64 k3, ?_⟩
    show z.1.data.toList.length ≤ _
    have : z.1.data.toList.length = z.1.size := by simp
    omega
  · have := wfU64 ha.1
    show [Value.int .u64 ((a.1.toNat : Nat) : Int), a.2.1.val] = _
    rw [show ((a.1.toNat : Nat) : Int) = a.1 from by omega]; rfl
  · obtain ⟨z, hz, rfl⟩ := map_mem hy
    obtain ⟨k1, k2, _⟩ := h9.all z hz
    have := wfU64 k1
    exact ⟨by show z.1.toNat < _; omega, i_row k2, fun n hn => wfI64 (k2.all n hn)⟩
  · have := wfU64 ha.2.1
    show [Value.int .i64 a.1, .int .u64 ((a.2.1.toNat : Nat) : Int), (slB a.2.2.1).val] = _
    rw [slB_val, show ((a.2.1.toNat : Nat) : Int) = a.2.1 from by omega]; rfl
  · obtain ⟨z, hz, rfl⟩ := map_mem hy
    obtain ⟨k1, k2, k3, _⟩ := h10.all z hz
    have := wfU64 k2
    exact ⟨wfI64 k1, by show z.2.1.toNat < _; omega, by_row k3⟩
structure BdLen (mr mp ml : Nat) (y : BdL) : Prop where
  loc : y.loc.l.length ≤ mp
  l : y.l.l.length ≤ mr
  lab : ∀ x ∈ y.l.l, x.l.l.length ≤ ml
structure MoRe (m : MoL) : Prop where
  sigs : m.sigs.l.length ≤ 140737488351232
  sig : ∀ x ∈ m.sigs.l, x.p.l.length ≤ 140737488351232 ∧ x.r.l.length ≤ 140737488351232
  imps : m.imps.l.length ≤ 140737488351232
  imp : ∀ x ∈ m.imps.l, x.m.length ≤ 140737488351232 ∧ x.n.length ≤ 140737488351232
  funcs : m.funcs.l.length ≤ 140737488351232
  func : ∀ x ∈ m.funcs.l, BdLen 140737488351232 140737488351232 140737488351232 x.bd
  mems : m.mems.l.length ≤ 140737488351232
  gls : m.gls.l.length ≤ 140737488351232
  exs : m.exs.l.length ≤ 140737488351232
  ex : ∀ x ∈ m.exs.l, x.name.length ≤ 140737488351232
  els : m.els.l.length ≤ 140737488351232
  el : ∀ x ∈ m.els.l, x.fs.l.length ≤ 140737488351232
  das : m.das.l.length ≤ 140737488351232
  da : ∀ x ∈ m.das.l, x.bs.l.length ≤ 140737488351232
theorem ok_len {α : Type} {w : World} {size bytes : Nat} {dec : α → List Value} {ok : α → Prop} {s : Sl α} (h : s.Ok w dec size bytes ok) (hb : 0 < bytes) : s.l.length ≤ 140737488351232 :=
  Nat.le_trans (Nat.le_mul_of_pos_right _ hb) h.reach
theorem slM_len {α β : Type} {f : α → β} {s : Sl α} : (slM f s).l.length = s.l.length := by simp [slM]
theorem slB_len {s : Sl Int} : (slB s).l.length = s.l.length := by simp [slB]
theorem slU_len {s : Sl Int} : (slU s).l.length = s.l.length := by simp [slU]
theorem mo_re {w : World} {x : MoA} (h : moOk w x) : MoRe (moL x) := by
  obtain ⟨h1, h2, h3, h4, h5, h6, h7, h8, h9, h10, _⟩ := h
  have hl : ∀ {α β : Type} {size bytes : Nat} {dec : α → List Value} {ok : α → Prop} {s : Sl α} (f : α → β), s.Ok w dec size bytes ok → 0 < bytes → (slM f s).l.length ≤ 140737488351232 := fun f h hb => by rw [slM_len]; exact ok_len h hb
  refine ⟨hl _ h1 (by omega), fun y hy => ?_, hl _ h2 (by omega), fun y hy => ?_, hl _ h3 (by omega), fun y hy => ?_, hl _ h5 (by omega), hl _ h6 (by omega), hl _ h7 (by omega), fun y hy => ?_, hl _ h9 (by omega), fun y hy => ?_, hl _ h10 (by omega), fun y hy => ?_⟩
  · obtain ⟨z, hz, rfl⟩ := map_mem hy
    obtain ⟨k1, k2, _⟩ := h1.all z hz
    exact ⟨by show (slB z.1).l.length ≤ _; rw [slB_len]; exact ok_len k1 (by omega), by show (slB z.2.1).l.length ≤ _; rw [slB_len]; exact ok_len k2 (by omega)⟩
  · obtain ⟨z, hz, rfl⟩ := map_mem hy
    obtain ⟨k1, k2, _, _⟩ := h2.all z hz
    exact ⟨by show z.1.data.toList.length ≤ _; simpa using k1, by show z.2.1.data.toList.length ≤ _; simpa using k2⟩
  · obtain ⟨z, hz, rfl⟩ := map_mem hy
    obtain ⟨_, ⟨k1, k2, _⟩, _⟩ := h3.all z hz
    refine ⟨by show (slB z.2.1.1).l.length ≤ _; rw [slB_len]; exact ok_len k1 (by omega), by show (slM xiL z.2.1.2.1).l.length ≤ _; rw [slM_len]; exact ok_len k2 (by omega), fun y hy => ?_⟩
    obtain ⟨u, hu, rfl⟩ := List.mem_map.1 hy
    show (slU u.2.2.2.2.1).l.length ≤ _
    rw [slU_len]
    exact ok_len (k2.all u hu).2.2.2.2.1 (by omega)
  · obtain ⟨z, hz, rfl⟩ := map_mem hy
    obtain ⟨k1, _, _, _⟩ := h7.all z hz
    show z.1.data.toList.length ≤ _
    simpa using k1
  · obtain ⟨z, hz, rfl⟩ := map_mem hy
    exact ok_len (h9.all z hz).2.1 (by omega)
  · obtain ⟨z, hz, rfl⟩ := map_mem hy
    show (slB z.2.2.1).l.length ≤ _
    rw [slB_len]
    exact ok_len (h10.all z hz).2.2.1 (by omega)
structure MoSm (m : MoL) : Prop where
  sigs : m.sigs.l.length ≤ 60
  sig : ∀ x ∈ m.sigs.l, x.p.l.length + x.r.l.length ≤ 60
  imps : m.imps.l.length ≤ 25
  imp : ∀ x ∈ m.imps.l, x.m.length + x.n.length ≤ 100
  funcs : m.funcs.l.length ≤ 110
  func : ∀ x ∈ m.funcs.l, BdLen 150 60 110 x.bd
  mems : m.mems.l.length ≤ 8
  gls : m.gls.l.length ≤ 60
  exs : m.exs.l.length ≤ 60
  ex : ∀ x ∈ m.exs.l, x.name.length ≤ 60
  els : m.els.l.length ≤ 25
  el : ∀ x ∈ m.els.l, x.fs.l.length ≤ 30
  das : m.das.l.length ≤ 25
  da : ∀ x ∈ m.das.l, x.bs.l.length ≤ 4100
end Go.Proofs.YtcfmbdkhefdgdaaGreat
