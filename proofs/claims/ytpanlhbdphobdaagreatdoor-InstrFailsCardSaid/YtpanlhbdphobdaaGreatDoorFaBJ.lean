/-
  A law's arguments of any shape (integers, slices of structs with slices in them ..), as the rows read them, in the words of our own (Reads).
  Rows of a call's own that grow: append of one element of any size.
  op: all ops, in a row of the call's own: contracts. (Written by wip/gen-opn.py.)
  op: how two ops are compared: the contract that the sort asks for.
-/
import Derived.Test.YtpanlhbdphobdaaGreatDoorDeAC
import Derived.ChangeArms
import Derived.ChangeOld
import Derived.Deep.Slices
import Derived.SizedLaws
import Derived.Test.YtpanlhbdphobdaaGreatDoorDeAE
import Derived.Test.YtpanlhbdphobdaaGreatDoorDeAD
import Derived.Maps.RangeWalk
import Derived.Deep.QuietTactic
import Derived.Deep.RegionHeld3
import Derived.Deep.RegionLaw
import Derived.Deep.AppendLies
import Derived.Deep.DeepCutAuto
import Derived.BigQuiet
import Derived.IntWalk
import Derived.Outline
import Derived.Test.YtpanlhbdphobdaaGreatDoorFaBH
import Derived.Test.YtpanlhbdphobdaaGreatDoorSortLay
import Derived.Shelf.SlSortCmp.WholeK
namespace Go.Proofs.YtpanlhbdphobdaaGreatDoor
open Go.RowKit Go.ChangeShapes Go.WideShapes Go.Deep

/-- whatever reads as type e lies as 'dec a', for an a that is right -/
def Opens {H : Type} (enc : TypeId × Value → H) (P : Program) (w : World) (e : TypeId) {α : Type} (dec : α → List Value) (ok : α → Prop) : Prop :=
  ∀ (spare : Nat → Bool) (held : Bool) (m : Nat) (cs : List Value) (y : DataW H × List MemPlace), DataW.trod enc P w 0 spare held m e cs = some y → (∀ n ∈ y.1.weights P e, n ≤ reachBytes) → ∃ a : α, cs = dec a ∧ ok a

/-- the cells behind place 'off' of a struct's, the fields from here on -/
def OpensF {H : Type} (enc : TypeId × Value → H) (P : Program) (w : World) (fs : List Field) (off : Nat) {α : Type} (dec : α → List Value) (ok : α → Prop) : Prop :=
  ∀ (spare : Nat → Bool) (held : Bool) (m : Nat) (cs : List Value), cs.length = off + (fs.map fun f => P.cellsOf f.type).sum → (∀ f ∈ fs, ∃ y, DataW.trod enc P w 0 spare held m f.type ((cs.drop f.offset).take (P.cellsOf f.type)) = some y ∧ ∀ n ∈ y.1.weights P f.type, n ≤ reachBytes) → ∃ a : α, cs.drop off = dec a ∧ ok a

section
variable {H : Type} {enc : TypeId × Value → H} {P : Program} {w : World}
theorem Opens.int {e : TypeId} {k : IntKind} (he : P.underlying e = some (.int k)) : Opens enc P w e (fun n : Int => [.int k n]) (fun n => (Lit.int k n).wf = true) := by
  intro spare held m cs y h _
  obtain ⟨n, rfl, _, hw⟩ := DataW.trod_int he h
  exact ⟨n, rfl, hw⟩
theorem Opens.bool {e : TypeId} (he : P.underlying e = some .bool) : Opens enc P w e (fun b : Bool => [.bool b]) (fun _ => True) := by
  intro spare held m cs y h _
  obtain ⟨b, rfl, _⟩ := DataW.trod_bool he h
  exact ⟨b, rfl, trivial⟩
theorem Opens.str {e : TypeId} (he : P.underlying e = some .string) : Opens enc P w e (fun s : ByteArray => [.string s]) (fun s => s.size ≤ maxLen) := by
  intro spare held m cs y h _
  obtain ⟨s, rfl, _, hs⟩ := DataW.trod_string he h
  exact ⟨s, rfl, hs⟩

/-- a slice: where it leads, its capacity, its elements -/
structure Sl (α : Type) where
  at_ : Option Addr
  cap : Nat
  l : List α

/-- a slice's value -/
def Sl.val {α : Type} (s : Sl α) : Value := .slice s.at_ s.l.length s.cap

theorem flatMap_get {α : Type} {dec : α → List Value} {size : Nat} (hd : ∀ a, (dec a).length = size) : ∀ (ys : List α) (i j : Nat) (a : α), ys[i]? = some a → j < size → (ys.flatMap dec)[i * size + j]? = (dec a)[j]? := by
  intro ys
  induction ys with
  | nil => intro i j a h; simp at h
  | cons b r ih =>
    intro i j a h hj
    rw [List.flatMap_cons]
    cases i with
    | zero =>
      have : b = a := by simpa using h
      subst this
      rw [Nat.zero_mul, Nat.zero_add, List.getElem?_append_left (by rw [hd]; exact hj)]
    | succ i =>
      rw [List.getElem?_append_right (by rw [hd, Nat.succ_mul]; omega), hd, show (i + 1) * size + j - size = i * size + j from by rw [Nat.succ_mul]; omega]
      exact ih i j a (by simpa using h) hj
theorem flatMap_len {α : Type} {dec : α → List Value} {size : Nat} (hd : ∀ a, (dec a).length = size) (ys : List α) : (ys.flatMap dec).length = ys.length * size := by
  induction ys with
  | nil => simp
  | cons b r ih => rw [List.flatMap_cons, List.length_append, hd, ih, List.length_cons, Nat.succ_mul]; omega

/-- what a slice that came in holds -/
structure Sl.Ok {α : Type} (w : World) (dec : α → List Value) (size bytes : Nat) (ok : α → Prop) (s : Sl α) : Prop where
  reads : Reads w w.heap.size size s.at_ s.l.length (s.l.flatMap dec)
  len : s.l.length ≤ s.cap
  cap : s.cap ≤ maxLen
  reach : s.l.length * bytes ≤ 140737488351232
  nil_ : s.at_ = none → s.l = [] ∧ s.cap = 0
  all : ∀ a ∈ s.l, ok a

theorem weightsAll_mem {e : TypeId} : ∀ {ds : List (DataW H)} {d : DataW H}, d ∈ ds → ∀ n ∈ d.weights P e, n ∈ DataW.weightsAll P e ds
  | [], d, h, _, _ => by simp at h
  | d0 :: r, d, h, n, hn => by
    simp only [DataW.weightsAll, List.mem_append]
    rcases List.mem_cons.1 h with rfl | h
    · exact .inl hn
    · exact .inr (weightsAll_mem h n hn)
theorem Opens.slice {t e : TypeId} {α : Type} {dec : α → List Value} {ok : α → Prop} {size bytes : Nat} (ht : P.underlying t = some (.slice e)) (hC : P.cellsOf e = size) (hB : P.bytesOf e = bytes) (hpos : 0 < size) (hd : ∀ a, (dec a).length = size) (h : Opens enc P w e dec ok) :
    Opens enc P w t (fun s : Sl α => [s.val]) (Sl.Ok w dec size bytes ok) := by
  intro spare held m cs y hy hw
  rcases open_slice ht hy with ⟨rfl, _⟩ | ⟨a, len, cap, k, n, D, Pl, rfl, _, hl, hm, hk, hyy, hi⟩
  · exact ⟨⟨none, 0, []⟩, rfl, ⟨Reads.none_, Nat.le_refl _, by show 0 ≤ maxLen; unfold maxLen; omega, by simp, fun _ => ⟨rfl, rfl⟩, by simp⟩⟩
  · have hkl : len ≤ k := by rw [hk]; split <;> omega
    have hreach : len * bytes ≤ 140737488351232 := by
      have := hw ((((List.range len).map D).length + ((List.range (k - len)).map fun j => D (len + j)).length) * P.bytesOf e) (by
        rw [hyy]
        simp only [DataW.weights, ht]
        exact List.mem_cons_self ..)
      rw [hB] at this
      simp only [List.length_map, List.length_range, reachBytes] at this
      exact Nat.le_trans (Nat.mul_le_mul_right _ (Nat.le_add_right _ _)) this
    have hel : ∀ i, i < len → ∃ b : α, (∀ j, j < size → w.cell? (a.add (i * size + j)) = (dec b)[j]?) ∧ ok b := by
      intro i hi'
      obtain ⟨cs', hc, ht'⟩ := hi i (by omega)
      rw [hC] at hc
      obtain ⟨_, hlen, hcell⟩ := World.cells?_some hc
      obtain ⟨b, rfl, hb⟩ := h spare held n cs' _ ht' (fun q hq => hw q (by
        rw [hyy]
        simp only [DataW.weights, ht]
        refine List.mem_cons_of_mem _ (List.mem_append_left _ ?_)
        exact weightsAll_mem (List.mem_map.2 ⟨i, List.mem_range.2 hi', rfl⟩) q hq))
      exact ⟨b, fun j hj => by rw [← hcell j hj, add_of_add], hb⟩
    have hex : ∃ ys : List α, ys.length = len ∧ ∀ (i : Nat) (b : α), ys[i]? = some b → (∀ j, j < size → w.cell? (a.add (i * size + j)) = (dec b)[j]?) ∧ ok b := by
      clear hi hl hm hk hkl hy h hyy hreach
      induction len with
      | zero => exact ⟨[], rfl, by simp⟩
      | succ len ih =>
        obtain ⟨ys, h1, h2⟩ := ih (fun i hi' => hel i (by omega))
        obtain ⟨b, hb⟩ := hel len (by omega)
        refine ⟨ys ++ [b], by simp [h1], fun i c hc => ?_⟩
        by_cases hil : i < ys.length
        · rw [List.getElem?_append_left hil] at hc
          exact h2 i c hc
        · rw [List.getElem?_append_right (by omega)] at hc
          have hi0 : i - ys.length = 0 := by
            have := (List.getElem?_eq_some_iff.1 hc).1
            simp at this
            omega
          rw [hi0] at hc
          have : b = c := by simpa using hc
          subst this
          rw [show i = len from by omega]
          exact hb
    obtain ⟨ys, h1, h2⟩ := hex
    subst h1
    refine ⟨⟨some a, cap, ys⟩, rfl, ⟨⟨flatMap_len hd ys, fun hn => ⟨a, rfl, ?_, fun j u hu => ?_⟩⟩, hl, hm, hreach, (fun h => by cases h), fun b hb => ?_⟩⟩
    · have hn' : 0 < ys.length := hn
      obtain ⟨h3, _⟩ := h2 0 ys[0] (List.getElem?_eq_getElem hn')
      have h4 := h3 0 hpos
      have hlt : 0 < (dec ys[0]).length := by rw [hd]; exact hpos
      rw [List.getElem?_eq_getElem hlt] at h4
      have := World.block_lt_of_cell? w _ h4
      rw [block_of_add] at this
      exact this
    · have hj : j < ys.length * size := by
        have := (List.getElem?_eq_some_iff.1 hu).1
        rw [flatMap_len hd] at this
        exact this
      have hq : j / size < ys.length := (Nat.div_lt_iff_lt_mul hpos).2 hj
      have hr : j % size < size := Nat.mod_lt _ hpos
      have hjj : j / size * size + j % size = j := by rw [Nat.mul_comm]; exact Nat.div_add_mod j size
      obtain ⟨h3, _⟩ := h2 _ _ (List.getElem?_eq_getElem hq)
      have h4 := h3 _ hr
      have h5 := flatMap_get hd ys _ _ _ (List.getElem?_eq_getElem hq) hr
      rw [hjj] at h4 h5
      rw [h4, ← h5]
      exact hu
    · obtain ⟨i, hi', hb'⟩ := List.getElem_of_mem hb
      exact (h2 i b (by rw [List.getElem?_eq_getElem hi', hb'])).2

theorem OpensF.nil {off : Nat} : OpensF enc P w [] off (fun _ : Unit => []) (fun _ => True) := by
  intro spare held m cs hl _
  exact ⟨(), by simp at hl; simp [hl], trivial⟩
theorem OpensF.cons {f : Field} {fs : List Field} {off k : Nat} {α β : Type} {dec : α → List Value} {ok : α → Prop} {dec' : β → List Value} {ok' : β → Prop} (ho : f.offset = off) (hk : P.cellsOf f.type = k)
    (h : Opens enc P w f.type dec ok) (hs : OpensF enc P w fs (off + k) dec' ok') : OpensF enc P w (f :: fs) off (fun p : α × β => dec p.1 ++ dec' p.2) (fun p => ok p.1 ∧ ok' p.2) := by
  intro spare held m cs hl hall
  obtain ⟨y, hy, hyw⟩ := hall f (by simp)
  obtain ⟨a, ha, hoka⟩ := h spare held m _ y hy hyw
  obtain ⟨b, hb, hokb⟩ := hs spare held m cs (by rw [hl, List.map_cons, List.sum_cons, hk]; omega) (fun g hg => hall g (by simp [hg]))
  refine ⟨(a, b), ?_, hoka, hokb⟩
  simp only
  rw [← ha, ← hb, ho, hk, ← List.drop_drop, List.take_append_drop]
theorem Opens.struct {t : TypeId} {fs : Array Field} {α : Type} {dec : α → List Value} {ok : α → Prop} (ht : P.underlying t = some (.struct fs)) (hC : P.cellsOf t = (fs.toList.map fun f => P.cellsOf f.type).sum)
    (h : OpensF enc P w fs.toList 0 dec ok) : Opens enc P w t dec ok := by
  intro spare held m cs y hy hw
  obtain ⟨xs, n, _, hyy, hlen, hxs, hf⟩ := DataW.trod_struct ht hy
  obtain ⟨a, ha, hok⟩ := h spare held n cs (by rw [hlen, hC, Nat.zero_add]) (fun f hf' => by
    obtain ⟨i, hi, hif⟩ := List.getElem_of_mem hf'
    have hi' : i < fs.size := by simpa using hi
    have h1 := hf i f (by rw [Array.getElem?_eq_getElem hi']; simpa using hif)
    have h2 : i < xs.length := by omega
    refine ⟨xs[i], by rw [h1, List.getElem?_eq_getElem h2], fun q hq => hw q ?_⟩
    rw [hyy]
    simp only [DataW.weights, ht]
    refine DataW.weights_mem_each (j := i) (t := f.type) (d := (xs[i]).1) ?_ ?_ q hq
    · rw [List.getElem?_map, Array.getElem?_toList, Array.getElem?_eq_getElem hi']
      simp only [Option.map_some, Option.some.injEq]
      rw [show fs[i] = f from by simpa using hif]
    · rw [List.getElem?_map, List.getElem?_eq_getElem h2]
      rfl)
  exact ⟨a, by simpa using ha, hok⟩
end
end Go.Proofs.YtpanlhbdphobdaaGreatDoor

namespace Go.Proofs.YtpanlhbdphobdaaGreatDoor
open Go.RowKit
set_option linter.unusedVariables false

/-- where a row that has been written lies -/
def Lies (w : World) (v v' : Value) : Prop := v'.ownBlock = v.ownBlock ∨ ∃ g, v'.ownBlock = some g ∧ w.heap.size ≤ g
theorem Lies.refl (w : World) (v : Value) : Lies w v v := .inl rfl
theorem Lies.trans {w w1 : World} {v v1 v2 : Value} (h : Lies w v v1) (k : Lies w1 v1 v2) (hs : w.heap.size ≤ w1.heap.size) : Lies w v v2 := by
  rcases k with k | ⟨g, k, hg⟩
  · rcases h with h | ⟨g, h, hg⟩
    · exact .inl (k.trans h)
    · exact .inr ⟨g, k.trans h, hg⟩
  · exact .inr ⟨g, k, by omega⟩
theorem Grows.only {w w' : World} {v v' : Value} (h : Grows w w' v v') : Only v.ownBlock.toList w w' :=
  ⟨h.by_.os, h.by_.tape, h.by_.output, h.by_.size, fun k hk hn => h.by_.block k hk (fun e => hn (by rw [← e]; simp))⟩
/-- a row stays while other blocks are written -/
theorem Lies.apart {w : World} {v v' : Value} {g : Nat} (h : Lies w v v') (hg : v.ownBlock ≠ some g) (hlt : g < w.heap.size) : v'.ownBlock ≠ some g := by
  rcases h with h | ⟨k, h, hk⟩
  · rw [h]; exact hg
  · rw [h]; intro e; injection e with e; omega
theorem wpList_push_n {P : Program} {w : World} {ops : Array Oper} {rest : List Oper} {o : Oper} {a : Act} {Q : Exit → Act → World → Prop} (hgd : o.guard = none) (s x : Operand) {t : TypeId}
    (ho : o.op = .call { callee := .builtin .append, args := #[s, x], argTypes := #[t, t] })
    (base : Nat) {e : TypeId} {size bytes : Nat} (hE : IsElem P t e size bytes)
    (v : Value) (n : Nat) (xs : List Value) (hs : a.eval s = v) (w0 : World) (us : List Value) (e' : TypeId) (hw : w = w0.alloc (.cells us.toArray e')) (hown : w0.ownsRow base e size v n xs)
    (hx : a.eval x = .slice (some ⟨w0.heap.size, 0, none⟩) 1 1) (hl : us.length = size) (h1 : ∀ u ∈ us, u.oneCell' = true)
    (hroom : Room n 1 bytes) (hbase : base ≤ w0.heap.size)
    (h : ∀ v' w', w'.ownsRow base e size v' (n + 1) (xs ++ us) → Grows w0 w' v v' → wpList P ops Q rest (a.put o.dst v') w') : wpList P ops Q (o :: rest) a w := by
  subst hw
  have hr : Reads (w0.alloc (.cells us.toArray e')) (w0.heap.size + 1) size (some ⟨w0.heap.size, 0, none⟩) 1 us := by
    have := Reads.of_new w0 us e' us.length rfl
    refine ⟨by rw [hl]; omega, fun _ => ⟨_, rfl, by simp, fun j u hu => ?_⟩⟩
    obtain ⟨ad, h2, _, h3⟩ := this.2 (by
      rcases Nat.eq_zero_or_pos us.length with h0 | h0
      · have : us = [] := List.eq_nil_of_length_eq_zero h0
        subst this
        simp at hu
      · exact h0)
    injection h2 with h2
    subst h2
    exact h3 j u hu
  exact wpList_append_any hgd s x ho base hE v n xs hs (hown.alloc _) (w0.heap.size + 1) _ 1 1 us hx hr h1 hroom (by simp; omega) fun v' w' h2 h3 => h v' w' h2 h3.alloc_first

/-- append of one element of as many cells as it has, which has just been laid into a block of its own, in a region that draws -/
theorem step_push {P : Program} {w : World} {ops : Array Oper} {o : Oper} {a : Act} {K : Act → World → Prop} {Q : Exit → Act → World → Prop} {E : Prop} (hgd : o.guard = none) (s x : Operand) {t : TypeId}
    (ho : o.op = .call { callee := .builtin .append, args := #[s, x], argTypes := #[t, t] })
    (base : Nat) {e : TypeId} {size bytes : Nat} (hE : IsElem P t e size bytes)
    (v : Value) (n : Nat) (xs : List Value) (hs : a.eval s = v) (w0 : World) (us : List Value) (e' : TypeId) (hw : w = (w0.alloc (.cells us.toArray e')).drew) (hown : w0.ownsRow base e size v n xs)
    (hx : a.eval x = .slice (some ⟨w0.heap.size, 0, none⟩) 1 1) (hl : us.length = size) (h1 : ∀ u ∈ us, u.oneCell' = true)
    (hroom : Room n 1 bytes) (hbase : base ≤ w0.heap.size)
    (h : ∀ v' w', w'.ownsRow base e size v' (n + 1) (xs ++ us) → Grows w0 w' v v' → K (a.put o.dst v') w') :
    if Region.wanted o (yielded ops a.tmps) = true then Oper.wp P o a w K Q else E := by
  have hwt : Region.wanted o (yielded ops a.tmps) = true := by simp [Region.wanted, hgd]
  rw [if_pos hwt]
  subst hw
  have hr : Reads (w0.alloc (.cells us.toArray e')).drew (w0.heap.size + 1) size (some ⟨w0.heap.size, 0, none⟩) 1 us := by
    have := Reads.of_new w0 us e' us.length rfl
    refine ⟨by rw [hl]; omega, fun _ => ⟨_, rfl, by simp, fun j u hu => ?_⟩⟩
    obtain ⟨ad, h2, _, h3⟩ := this.2 (by
      rcases Nat.eq_zero_or_pos us.length with h0 | h0
      · have : us = [] := List.eq_nil_of_length_eq_zero h0
        subst this
        simp at hu
      · exact h0)
    injection h2 with h2
    subst h2
    exact h3 j u hu
  refine wp_append_any s x ho base hE v n xs hs ((hown.alloc _).drew) (w0.heap.size + 1) _ 1 1 us hx hr h1 hroom (by simp; omega) fun v' w' h2 h3 => h v' w' h2 ?_
  have h4 : Grows (w0.alloc (.cells us.toArray e')) w' v v' := ⟨⟨h3.by_.os, h3.by_.tape, h3.by_.output, h3.by_.size, h3.by_.block⟩, h3.lies⟩
  exact h4.alloc_first

end Go.Proofs.YtpanlhbdphobdaaGreatDoor

namespace Go.Proofs.YtpanlhbdphobdaaGreatDoor
open Go.RowKit
set_option linter.unusedVariables false

theorem opinfo_elem : IsElem Tryz.prog 125 63 5 80 := IsElem.mk' Tryz.underlying125 (z := .agg #[.int .i64 0, .string ⟨#[]⟩, .int .i64 0, .slice none 0 0, .slice none 0 0]) (by kernel_rfl) rfl (by omega)

/-- an op where it lies: its code, its name, its form; its types lie elsewhere -/
structure IOp where
  c : Fin 100000
  name : ByteArray
  form : Int
  A1 : Option Addr
  n1 : Nat
  c1 : Nat
  A2 : Option Addr
  n2 : Nat
  c2 : Nat
instance : Inhabited IOp := ⟨⟨0, ⟨#[]⟩, 0, none, 0, 0, none, 0, 0⟩⟩
def opV (x : IOp) : List Value := [.int .i64 (x.c.val : Int), .string x.name, .int .i64 x.form, .slice x.A1 x.n1 x.c1, .slice x.A2 x.n2 x.c2]
theorem opV_len (x : IOp) : (opV x).length = 5 := rfl
def IOp.key (x : IOp) : Int × ByteArray × Int := ((x.c.val : Int), x.name, x.form)
def OpRow.key (r : OpRow) : Int × ByteArray × Int := (r.code, r.name, r.form)
/-- ops in a row of the call's own -/
structure AllS (w : World) (base : Nat) (v : Value) (n : Nat) (rs : List OpRow) (ys : List IOp) : Prop where
  own : w.ownsRow base 63 5 v n (ys.flatMap opV)
  len : rs.length = n
  key : ys.map IOp.key = rs.map OpRow.key
theorem AllS.below {w w' : World} {base : Nat} {v : Value} {n : Nat} {rs : List OpRow} {ys : List IOp} (h : AllS w base v n rs ys) (hb : Below w.heap.size w w') : AllS w' base v n rs ys :=
  ⟨own_only3 h.own (Only.of_below (S := []) hb) (by simp), h.len, h.key⟩
theorem AllS.nil (w : World) (base : Nat) : AllS w base (.slice none 0 0) 0 [] [] := ⟨own_nil _ _ _ _, rfl, rfl⟩
theorem AllS.push {w w3 : World} {base : Nat} {v v' : Value} {n : Nat} {rs : List OpRow} {ys : List IOp} (h : AllS w base v n rs ys) (r : OpRow) (hc : 0 ≤ r.code ∧ r.code < 100000) (A1 A2 : Option Addr) (c1 c2 : Nat)
    (ho : w3.ownsRow base 63 5 v' (n + 1) (ys.flatMap opV ++ [.int .i64 r.code, .string r.name, .int .i64 r.form, .slice A1 r.takes.size c1, .slice A2 r.gives.size c2])) : ∃ y, AllS w3 base v' (n + 1) (rs ++ [r]) (ys ++ [y]) := by
  refine ⟨⟨⟨r.code.toNat, by omega⟩, r.name, r.form, A1, r.takes.size, c1, A2, r.gives.size, c2⟩, own_cast ho rfl ?_, by simp [h.len], ?_⟩
  · simp [opV]; omega
  · rw [List.map_append, List.map_append, h.key]
    congr 1
    simp [IOp.key, OpRow.key]
    omega
theorem row_facts {r : OpRow} (h : r ∈ allRows) : (0 ≤ r.code ∧ r.code < 100000) ∧ r.Ok := ⟨allRows_code r h, opRow_ok (allRows_opRow r h)⟩
theorem spans_at : opSpans.all (fun s => (List.range s.many.toNat).all fun i => match numRow (s.first + ((i : Nat) : Int)) with | some q => sameRow q (spanRow s (s.first + ((i : Nat) : Int))) | none => false) = true := by decide +kernel
theorem span_at {s : OpSpan} (hs : s ∈ opSpans) {k : Nat} (hk : (k : Int) < s.many) : ∃ r, (spanRows s)[k]? = some r ∧ numRow (s.first + (k : Int)) = some r := by
  have hkm : k < s.many.toNat := by omega
  refine ⟨spanRow s (s.first + (k : Int)), by unfold spanRows; rw [List.getElem?_map, List.getElem?_range hkm]; rfl, ?_⟩
  have h1 := List.all_eq_true.1 spans_at s hs
  have h2 := List.all_eq_true.1 h1 k (List.mem_range.2 hkm)
  revert h2
  cases numRow (s.first + (k : Int)) with
  | none => intro h; cases h
  | some q => intro h; rw [sameRow_eq h]
theorem take_snoc {α : Type} {l : List α} {k : Nat} {r : α} (h : l[k]? = some r) : l.take (k + 1) = l.take k ++ [r] := by rw [List.take_add_one, h]; rfl

end Go.Proofs.YtpanlhbdphobdaaGreatDoor

namespace Go.Proofs.YtpanlhbdphobdaaGreatDoor
open Go.RowKit Go.Sort
set_option linter.unusedVariables false

def cmpOp (x y : IOp) : Int := (x.c.val : Int) - (y.c.val : Int)
theorem ltOp (x y : IOp) : ltOf cmpOp x y = decide (x.c.val < y.c.val) := by
  unfold ltOf cmpOp
  rw [decide_eq_decide]
  omega
theorem swoOp : SWO (ltOf cmpOp) where
  irrefl x := by rw [ltOp]; simp
  trans x y z h1 h2 := by rw [ltOp] at *; simp at *; omega
  ntrans x y z h1 h2 := by rw [ltOp] at *; simp at *; omega
set_option maxHeartbeats 800000 in
theorem cmp1_any (x y : IOp) (W : World) : Calls Tryz.prog 106 #[.agg (opV x).toArray, .agg (opV y).toArray] W fun e w' => e = .returned (.int .i64 (cmpOp x y)) ∧ ∃ q os', w' = grow (W.drewN q) os' := by
  have h1 := x.c.isLt
  have h2 := y.c.isLt
  have hv : cmpOp x y = (x.c.val : Int) - (y.c.val : Int) := rfl
  rw [hv]
  clear hv
  unfold opV
  generalize x.c.val = a at h1 ⊢
  generalize y.c.val = b at h2 ⊢
  go_enter Tryz.func106, Tryz.ntmps106
  go_wp2_with fail
  go_ret
  exact ⟨rfl, 0, _, by rw [alloc_eq_grow, alloc_eq_grow, grow_grow]; rfl⟩
theorem cmpLays_op (blk off size : Nat) (w : World) : CmpLays Tryz.prog 106 #[] opV 5 cmpOp blk off size w := fun _ _ _ _ x y => cmp1_any x y _
/-- the row as the sort wants it -/
theorem holds_own {w : World} {base g n c : Nat} {ys : List IOp} (h : w.ownsRow base 63 5 (.slice (some ⟨g, 0, none⟩) n c) n (ys.flatMap opV)) (hn : ys.length = n) : HoldsK opV 5 w g 0 ys.toArray := by
  subst hn
  obtain ⟨_, ⟨h1, _⟩ | ⟨g2, cap, cur, h1, _, hb, _, _, _, ht⟩⟩ := h
  · cases h1
  · injection h1 with h1 _ h2
    injection h1 with h1
    injection h1 with h1
    subst h1
    intro j hj
    rw [size_flatK] at hj
    have hj5 : j < ys.length * 5 := by simpa using hj
    have hq : j / 5 < ys.length := by omega
    have hcur : cur[j]? = some ((flatK opV 5 ys.toArray)[j]!) := by
      have e1 : (cur.toList.take (ys.length * 5))[j]? = cur[j]? := by rw [List.getElem?_take_of_lt hj5, Array.getElem?_toList]
      rw [← e1, ht, get_flatK _ _ _ _ hj]
      have e2 := flatMap_get (size := 5) (dec := opV) (fun _ => rfl) ys (j / 5) (j % 5) (ys[j / 5]) (List.getElem?_eq_getElem hq) (by omega)
      rw [show j / 5 * 5 + j % 5 = j from by omega] at e2
      rw [e2]
      have e3 : ys.toArray[j / 5]! = ys[j / 5] := by rw [getElem!_pos _ _ (by simpa using hq)]; rfl
      rw [e3, getElem!_pos _ _ (by rw [opV_len]; omega)]
      exact List.getElem?_eq_getElem _
    rw [Nat.zero_add]
    exact ⟨(cell_blk hb j).trans hcur, frozen_blk hb j⟩
theorem flat_at {d : Array IOp} {j : Nat} (hj : j < d.size * 5) : (d.toList.flatMap opV)[j]? = some ((flatK opV 5 d)[j]!) := by
  have hq : j / 5 < d.size := by omega
  rw [get_flatK _ _ _ _ hj]
  have e2 := flatMap_get (size := 5) (dec := opV) (fun _ => rfl) d.toList (j / 5) (j % 5) (d[j / 5]) (by rw [Array.getElem?_toList]; exact Array.getElem?_eq_getElem hq) (by omega)
  rw [show j / 5 * 5 + j % 5 = j from by omega] at e2
  rw [e2, getElem!_pos d _ hq, getElem!_pos _ _ (by rw [opV_len]; omega)]
  exact List.getElem?_eq_getElem _
/-- the row behind the sort -/
theorem own_sorted {w : World} {base g n c : Nat} {ys : List IOp} (h : w.ownsRow base 63 5 (.slice (some ⟨g, 0, none⟩) n c) n (ys.flatMap opV)) (d : Array IOp) (hd : d.size = n) (m : Nat) (os : Array Obj) :
    (sortWorldK opV 5 w g 0 m d os).ownsRow base 63 5 (.slice (some ⟨g, 0, none⟩) n c) n (d.toList.flatMap opV) ∧ Below base w (sortWorldK opV 5 w g 0 m d os) := by
  subst hd
  obtain ⟨_, ⟨h1, _⟩ | ⟨g2, cap, cur, h1, hbg, hb, hc1, hc2, hcs, ht⟩⟩ := h
  · cases h1
  · injection h1 with h1 _ h2
    injection h1 with h1
    injection h1 with h1
    subst h1
    have hlt := blk_lt hb
    have hblk : (sortWorldK opV 5 w g 0 m d os).heap[g]? = some (.cells (putCells id 0 (flatK opV 5 d) cur) 63 (0, 0)) := by
      simp only [sortWorldK, grow, putRowK, putRow, mapBlock]
      rw [Array.getElem?_append_left (by simpa using hlt), Array.getElem?_modify, if_pos rfl, show (Go.Sort.ahead w m).heap = w.heap from rfl, hb]
      rfl
    refine ⟨⟨by rw [flatMap_len (size := 5) (fun _ => rfl)]; simp, .inr ⟨g, cap, _, by rw [h2], hbg, hblk, by omega, hc2, by simp [putCells, hcs], ?_⟩⟩, ?_⟩
    · apply List.ext_getElem?
      intro j
      by_cases hj : j < d.size * 5
      · rw [flat_at hj, List.getElem?_take_of_lt hj, Array.getElem?_toList]
        have hjc : j < cur.size := by rw [hcs]; have := Nat.mul_le_mul_right 5 hc1; omega
        simp [putCells, Array.getElem?_mapIdx, Array.getElem?_eq_getElem hjc, hj]
      · rw [List.getElem?_eq_none (by simp; omega), List.getElem?_eq_none (by rw [flatMap_len (size := 5) (fun _ => rfl)]; simp; omega)]
    · refine ⟨rfl, rfl, rfl, by simp [sortWorldK, grow, putRowK, putRow, mapBlock], fun i hi => ?_⟩
      simp only [sortWorldK, grow, putRowK, putRow, mapBlock]
      rw [Array.getElem?_append_left (by simp; omega), Array.getElem?_modify, if_neg (by omega)]
      rfl
end Go.Proofs.YtpanlhbdphobdaaGreatDoor
