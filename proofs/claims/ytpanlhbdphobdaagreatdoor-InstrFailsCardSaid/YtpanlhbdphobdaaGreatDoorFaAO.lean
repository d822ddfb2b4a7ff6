/-
  A number read byte by byte: what the first bytes tell; in plain Lean.
  flash: a number read by a cursor: contracts.
-/
import Derived.Test.YtpanlhbdphobdaaGreatDoorDeAB
import Derived.Test.YtpanlhbdphobdaaGreatDoorDeAE
import Derived.Test.YtpanlhbdphobdaaGreatDoorDeAN
namespace Go.Proofs.YtpanlhbdphobdaaGreatDoor

theorem rawGo_prefix (cnt : Nat) : ∀ (l : List UInt8) (k i acc : Nat), (rawGo cnt (l.take k) i acc).2.2.2 ≠ 3 → rawGo cnt l i acc = rawGo cnt (l.take k) i acc := by
  intro l
  induction l with
  | nil => intro k i acc h; simp
  | cons c r ih =>
    intro k i acc h
    cases k with
    | zero => simp [rawGo] at h
    | succ k =>
      rw [List.take_succ_cons] at h ⊢
      unfold rawGo at h ⊢
      split
      · rfl
      · rename_i h1
        rw [if_neg h1] at h
        split
        · rfl
        · rename_i h2
          rw [if_neg h2] at h
          exact ih k _ _ h
/-- where it ends well, the bytes that it has taken end well -/
theorem rawGo_self (cnt : Nat) : ∀ (l : List UInt8) (i acc : Nat), (rawGo cnt l i acc).2.2.2 = 0 → (rawGo cnt l i acc).2.1 - i ≤ l.length ∧ i + 1 ≤ (rawGo cnt l i acc).2.1 ∧ rawGo cnt (l.take ((rawGo cnt l i acc).2.1 - i)) i acc = rawGo cnt l i acc := by
  intro l
  induction l with
  | nil => intro i acc h; simp [rawGo] at h
  | cons c r ih =>
    intro i acc h
    by_cases h1 : i + 1 = cnt ∧ 128 ≤ c.toNat
    · rw [rawGo, if_pos h1] at h; simp at h
    · by_cases h2 : c.toNat < 128
      · have e : rawGo cnt (c :: r) i acc = (acc ||| (c.toNat % 128 * 2 ^ (7 * i) % 2 ^ 64), i + 1, c.toNat, 0) := by rw [rawGo, if_neg h1, if_pos h2]
        rw [e]
        refine ⟨by simp, Nat.le_refl _, ?_⟩
        show rawGo cnt ((c :: r).take (i + 1 - i)) i acc = _
        rw [show i + 1 - i = 0 + 1 from by omega, List.take_succ_cons, rawGo, if_neg h1, if_pos h2]
      · have e : ∀ r', rawGo cnt (c :: r') i acc = rawGo cnt r' (i + 1) (acc ||| (c.toNat % 128 * 2 ^ (7 * i) % 2 ^ 64)) := fun r' => by rw [rawGo, if_neg h1, if_neg h2]
        rw [e] at h ⊢
        obtain ⟨a, b, d⟩ := ih _ _ h
        refine ⟨by rw [List.length_cons]; omega, by omega, ?_⟩
        obtain ⟨m, hm⟩ : ∃ m, (rawGo cnt r (i + 1) (acc ||| (c.toNat % 128 * 2 ^ (7 * i) % 2 ^ 64))).2.1 - i = m + 1 := ⟨(rawGo cnt r (i + 1) (acc ||| (c.toNat % 128 * 2 ^ (7 * i) % 2 ^ 64))).2.1 - i - 1, by omega⟩
        rw [hm, List.take_succ_cons, e]
        rw [show (rawGo cnt r (i + 1) (acc ||| (c.toNat % 128 * 2 ^ (7 * i) % 2 ^ 64))).2.1 - (i + 1) = m from by omega] at d
        exact d
theorem rawGo_ten (cnt : Nat) : ∀ (l : List UInt8) (i acc : Nat), i < cnt → cnt ≤ i + l.length → (rawGo cnt l i acc).2.2.2 ≠ 3 := by
  intro l
  induction l with
  | nil => intro i acc h h2; simp at h2; omega
  | cons c r ih =>
    intro i acc h h2
    unfold rawGo
    split
    · simp
    · split
      · simp
      · rename_i h1 h3
        exact ih _ _ (by have : i + 1 ≠ cnt := fun e => h1 ⟨e, by omega⟩; omega) (by rw [List.length_cons] at h2; omega)

theorem rawL_prefix (l : List UInt8) (k : Nat) (n : Int) (h : (rawL (l.take k) n).2.2.2 ≠ 3) : rawL l n = rawL (l.take k) n := by
  unfold rawL at h ⊢
  split
  · rfl
  · rename_i h1
    rw [if_neg h1] at h
    exact rawGo_prefix _ _ _ _ _ h
theorem rawL_self (l : List UInt8) (n : Int) (h : (rawL l n).2.2.2 = 0) : (rawL l n).2.1 ≤ l.length ∧ 1 ≤ (rawL l n).2.1 ∧ rawL (l.take (rawL l n).2.1) n = rawL l n := by
  unfold rawL at h ⊢
  split
  · rename_i h1; rw [if_pos h1] at h; simp at h
  · rename_i h1
    rw [if_neg h1] at h
    exact rawGo_self _ _ _ _ h
theorem rawL_ten (l : List UInt8) (n : Int) (h : 10 ≤ l.length) : (rawL l n).2.2.2 ≠ 3 := by
  unfold rawL
  split
  · simp
  · exact rawGo_ten _ _ _ _ (by unfold cntN; omega) (by unfold cntN; omega)

/-- how a number is read out of bytes: what it answers (of whatever kind), how many bytes it has, the error -/
structure IsNum {V : Type} (res : List UInt8 → V × Nat × Nat) : Prop where
  pre : ∀ l k, (res (l.take k)).2.2 ≠ 3 → res l = res (l.take k)
  self : ∀ l, (res l).2.2 = 0 → (res l).2.1 ≤ l.length ∧ 1 ≤ (res l).2.1 ∧ res (l.take (res l).2.1) = res l
  ten : ∀ l : List UInt8, 10 ≤ l.length → (res l).2.2 ≠ 3
  none_ : ∀ l, (res l).2.2 ≠ 0 → (res l).2.1 = 0
  le : ∀ l, (res l).2.2 ≤ 4

theorem unsignedL_form (l : List UInt8) (n : Int) : ((rawL l n).2.2.2 ≠ 0 ∧ unsignedL l n = (0, 0, (rawL l n).2.2.2)) ∨ ((rawL l n).2.2.2 = 0 ∧ (unsignedL l n = (0, 0, 4) ∨ ∃ o, unsignedL l n = (o, (rawL l n).2.1, 0))) := by
  unfold unsignedL
  simp only
  split
  · rename_i h; exact .inl ⟨h, rfl⟩
  · rename_i h
    refine .inr ⟨by omega, ?_⟩
    split
    · exact .inl rfl
    · exact .inr ⟨_, rfl⟩
theorem signedL_form (l : List UInt8) (n : Int) : ((rawL l n).2.2.2 ≠ 0 ∧ signedL l n = (0, 0, (rawL l n).2.2.2)) ∨ ((rawL l n).2.2.2 = 0 ∧ (signedL l n = (0, 0, 4) ∨ ∃ o, signedL l n = (o, (rawL l n).2.1, 0))) := by
  unfold signedL
  by_cases h : (rawL l n).2.2.2 = 0
  · refine .inr ⟨h, ?_⟩
    simp only [h, ne_eq, not_true_eq_false, if_false]
    generalize extendL (rawL l n).1 (min (7 * (rawL l n).2.1) n.toNat) = out
    generalize beyondL (rawL l n).2.2.1 (rawL l n).2.1 n.toNat = y
    by_cases hc : 0 < y.2 ∧ ¬ y.1 = (if out < 0 then 2 ^ y.2 - 1 else 0)
    · rw [if_pos hc]; exact .inl rfl
    · rw [if_neg hc]; exact .inr ⟨_, rfl⟩
  · refine .inl ⟨h, ?_⟩
    simp only [ne_eq, h, not_false_eq_true, if_true]
theorem unsignedL_of (l l' : List UInt8) (n : Int) (h : rawL l n = rawL l' n) : unsignedL l n = unsignedL l' n := by unfold unsignedL; rw [h]
theorem signedL_of (l l' : List UInt8) (n : Int) (h : rawL l n = rawL l' n) : signedL l n = signedL l' n := by unfold signedL; rw [h]
theorem rawL_le (l : List UInt8) (n : Int) : (rawL l n).2.2.2 ≤ 4 := by
  rcases rawL_cases l n with ⟨v, s, c, h, _⟩ | ⟨e, h, he⟩
  · rw [h]; show 0 ≤ 4; omega
  · rw [h]; show e ≤ 4; omega
theorem num_of {V : Type} (n : Int) (z : V) (res : List UInt8 → V × Nat × Nat)
    (hf : ∀ l, ((rawL l n).2.2.2 ≠ 0 ∧ res l = (z, 0, (rawL l n).2.2.2)) ∨ ((rawL l n).2.2.2 = 0 ∧ (res l = (z, 0, 4) ∨ ∃ o, res l = (o, (rawL l n).2.1, 0))))
    (ho : ∀ l l', rawL l n = rawL l' n → res l = res l') : IsNum res where
  pre := fun l k h => ho _ _ (rawL_prefix l k n fun hh => h (by
    rcases hf (l.take k) with ⟨a, b⟩ | ⟨a, _⟩
    · rw [b]; exact hh
    · omega))
  self := fun l h => by
    rcases hf l with ⟨a, b⟩ | ⟨a, b | ⟨o, b⟩⟩
    · rw [b] at h; exact absurd h a
    · rw [b] at h; cases h
    · obtain ⟨c, d, e⟩ := rawL_self l n a
      have e' := ho _ _ e
      rw [b] at e' ⊢
      exact ⟨c, d, e'⟩
  ten := fun l h hh => rawL_ten l n h (by
    rcases hf l with ⟨a, b⟩ | ⟨a, b | ⟨o, b⟩⟩
    · rw [b] at hh; exact hh
    · rw [b] at hh; cases hh
    · rw [b] at hh; cases hh)
  none_ := fun l h => by
    rcases hf l with ⟨a, b⟩ | ⟨a, b | ⟨o, b⟩⟩
    · rw [b]
    · rw [b]
    · rw [b] at h; exact absurd rfl h
  le := fun l => by
    rcases hf l with ⟨a, b⟩ | ⟨a, b | ⟨o, b⟩⟩
    · rw [b]; exact rawL_le l n
    · rw [b]; exact Nat.le_refl _
    · rw [b]; exact Nat.zero_le _
theorem unsigned_num (n : Int) : IsNum (fun l => unsignedL l n) := num_of n 0 _ (fun l => unsignedL_form l n) (fun l l' h => unsignedL_of l l' n h)
theorem signed_num (n : Int) : IsNum (fun l => signedL l n) := num_of n 0 _ (fun l => signedL_form l n) (fun l l' h => signedL_of l l' n h)

/-- the read ends at k bytes: what all bytes tell is what these do -/
theorem IsNum.done {V : Type} {res : List UInt8 → V × Nat × Nat} (h : IsNum res) {l : List UInt8} {k : Nat} (hk : k ≤ l.length) (hbef : ∀ j, j < k → (res (l.take j)).2.2 = 3) (he : (res (l.take k)).2.2 ≠ 3) :
    res l = res (l.take k) ∧ ((res l).2.2 = 0 → (res l).2.1 = k) := by
  have e := h.pre l k he
  refine ⟨e, fun h0 => ?_⟩
  obtain ⟨a, b, c⟩ := h.self (l.take k) (by rw [← e]; exact h0)
  rw [List.length_take] at a
  rw [e]
  rw [e] at h0
  apply Decidable.byContradiction
  intro hne
  have := hbef (res (l.take k)).2.1 (by omega)
  rw [List.take_take, Nat.min_eq_left (by omega)] at c
  rw [c, h0] at this
  cases this
end Go.Proofs.YtpanlhbdphobdaaGreatDoor

namespace Go.Proofs.YtpanlhbdphobdaaGreatDoor
open Go.RowKit
set_option linter.unusedVariables false

theorem partB_get (bs : List UInt8) (a n : Int) (k : Nat) (h0 : 0 ≤ a) (hk : (k : Int) < n) : (partB bs a n)[k]? = bs[(a + k).toNat]? := by
  unfold partB
  rw [List.getElem?_take, if_pos (by omega), List.getElem?_drop]
  congr 1
  omega
theorem take_one (l : List UInt8) (k : Nat) (b : UInt8) (h : l[k]? = some b) : l.take k ++ [b] = l.take (k + 1) := by
  obtain ⟨hk, hv⟩ := List.getElem?_eq_some_iff.1 h
  rw [List.take_succ_eq_append_getElem hk, hv]


/-- a function that tells of bytes whether they are a number, and lays it into the block y -/
def IsFn (F : FuncId) (x y : Nat) (o : Obj) (T : TypeId) (base : Nat) (V : Type) (val : V → Value) (res : List UInt8 → V × Nat × Nat) : Prop :=
  ∀ (A : Option Addr) (c : Nat) (l : List UInt8) (u : Value) (w : World), l.length ≤ 1000 → Hid (Reads w w.heap.size 1 A l.length (l.map B)) → w.heap[x]? = some o → w.heap[y]? = some (.cells #[u] T (0, 0)) →
    Calls Tryz.prog F #[.slice A l.length c, .pointer (some ⟨x, 0, none⟩), .pointer (some ⟨y, 0, none⟩)] w fun e w' => e = .returned (.int .i64 (res l).2.2) ∧ w' = w.setCell ⟨y, 0, none⟩ (val (res l).1)

/-- what a number's read leaves -/
structure NumPost (w : World) (g f c y : Nat) (T : TypeId) (A : Option Addr) (bs : List UInt8) (r fl fr tu at_ : Int) {V : Type} (val : V → Value) (v : V) (k e0 : Nat) (e : Ending) (w' : World) : Prop where
  out : ∃ (e' r' d : Int) (v' : Value), e = .returned (.int .i64 e') ∧ Hid (FL w' f A c bs r' fl) ∧ Hid (CU w' g f fr tu (at_ + d)) ∧ Hid (Only [f, g, y] w w') ∧ r ≤ r' ∧ r' ≤ r + 11 ∧ w'.heap[y]? = some (.cells #[v'] T (0, 0)) ∧ Hid (e' = 0 → r' = r ∨ fl < 0 ∨ r' ≤ fl) ∧
    ((e' = e0 ∧ d = k ∧ (e0 = 0 → v' = val v)) ∨ (e' = 9 ∧ d = 0 ∧ 0 ≤ fl ∧ fl < r'))

/-- the state in the middle of a number's read -/
structure NumMid (w w1 : World) (g f c x y base : Nat) (o : Obj) (T : TypeId) (A : Option Addr) (bs : List UInt8) (r fl fr tu at_ : Int) {V : Type} (val : V → Value) (res : List UInt8 → V × Nat × Nat) (l : List UInt8) (k : Nat) (v1 : Value) : Prop where
  fl_ : FL w1 f A c bs (r + k) fl
  cu : CU w1 g f fr tu (at_ + k)
  only : Only [f, g, y] w w1
  bx : w1.heap[x]? = some o
  by_ : w1.heap[y]? = some (.cells #[val (res (l.take k)).1] T (0, 0))
  own : OwnB w1 base v1 (l.take k)
  bef : ∀ j, j < k → (res (l.take j)).2.2 = 3
  ok : k = 0 ∨ fl < 0 ∨ r + k ≤ fl

set_option maxHeartbeats 3200000 in
set_option maxRecDepth 100000 in
theorem number_any (F : FuncId) (g f c x y : Nat) (o : Obj) (T : TypeId) (A : Option Addr) (bs : List UInt8) (r fl fr tu at_ : Int) {V : Type} (val : V → Value) (res : List UInt8 → V × Nat × Nat) (hres : IsNum res) (w : World) (u : Value)
    (hcf : ∀ (args : Array Value) (W : World), (callFunc F args).run Tryz.prog W = .ok (.enter F args) W) (hF : IsFn F x y o T w.heap.size V val res)
    (hf : Hid (FL w f A c bs r fl)) (hc : Hid (CU w g f fr tu at_)) (hr1 : 0 ≤ r) (hr2 : r ≤ 900000) (hl : bs.length ≤ 1000)
    (h1 : 0 ≤ at_) (h2 : at_ ≤ tu) (h4 : tu ≤ (bs.length : Int)) (hgx : g < x) (hxy : x < y) (hx : Hid (w.heap[x]? = some o)) (hy : Hid (w.heap[y]? = some (.cells #[u] T (0, 0)))) :
    Calls Tryz.prog 146 #[.pointer (some ⟨g, 0, none⟩), .func (.func F) #[] #[.pointer (some ⟨x, 0, none⟩), .pointer (some ⟨y, 0, none⟩)]] w
      (NumPost w g f c y T A bs r fl fr tu at_ val (res (partB bs at_ (tu - at_))).1 (res (partB bs at_ (tu - at_))).2.1 (res (partB bs at_ (tu - at_))).2.2) := by
  obtain ⟨l, hlL⟩ : ∃ l, partB bs at_ (tu - at_) = l := ⟨_, rfl⟩
  have hll : (l.length : Int) = tu - at_ := by rw [← hlL]; exact part_len bs at_ (tu - at_) h1 (by omega) (by omega)
  have hget : Hid (∀ k : Nat, (k : Int) < tu - at_ → l[k]? = bs[(at_ + k).toNat]?) := by show ∀ _, _; intro k hk; rw [← hlL]; exact partB_get bs at_ (tu - at_) k h1 hk
  rw [hlL]
  clear hlL
  have HLL := hide hll; clear hll
  obtain ⟨base, hbase⟩ : ∃ b, w.heap.size = b := ⟨_, rfl⟩
  rw [hbase] at hF
  have HF := hide hF; clear hF
  have hyb : y < base := by rw [← hbase]; exact blk_lt hy.out
  have hbw : base ≤ w.heap.size := by omega
  have HBS := hide hbase
  clear hbase
  have hfg := hc.out.lt
  have c3 := cell_blk hc.out.blk 3
  simp at c3
  go_enter Tryz.func146, Tryz.ntmps146
  go_wp2_with fail
  refine (HF.out none 0 [] u w (by simp) Reads.none_ hx.out hy.out).mono ?_; rintro e w1 ⟨rfl, hw1⟩
  have hm0 : Hid (NumMid w w1 g f c x y base o T A bs r fl fr tu at_ val res l 0 (.slice none 0 0)) := by
    have hs : Only [y] w w1 := by rw [hw1]; exact Only.setCell w (p := ⟨y, 0, none⟩) (by simp) _
    refine ⟨by simpa using hf.out.keep hs (by simp; omega) (by simp; omega), by simpa using hc.out.keep hs (by simp; omega), hs.more (by simp), ?_, ?_, own_nil _ _ _ _, fun j hj => by omega, .inl rfl⟩
    · exact (hs.block x (blk_lt hx.out) (by simp; omega)).trans hx.out
    · rw [hw1, setCell_blk hy.out]; rfl
  clear hw1 c3
  go_wp2_with fail
  go_loopw [6, 7] (fun v1 e w1 => ∃ k : Nat, k ≤ l.length ∧ e = .int .i64 (res (l.take k)).2.2 ∧ Hid (NumMid w w1 g f c x y base o T A bs r fl fr tu at_ val res l k v1)) (fun v1 _ _ => match v1 with | .slice _ n _ => 20 - n | _ => 0)
  case atStart => exact ⟨0, by omega, rfl, hm0⟩
  case round =>
    obtain ⟨k, hk, rfl, hm⟩ := hrel
    obtain ⟨A1, c1, rfl, hc1, hc2⟩ := own_form hm.out.own
    have hlk : (l.take k).length = k := by rw [List.length_take]; omega
    rw [hlk] at hc1 hm ⊢
    have HLK := hide hlk; clear hlk
    obtain ⟨ev, hev⟩ : ∃ ev : Nat, (res (l.take k)).2.2 = ev := ⟨_, rfl⟩
    rw [hev]
    have hev4 : ev ≤ 4 := by rw [← hev]; exact hres.le _
    have hk10 : ev = 3 → k < 10 := by
      intro h3
      apply Decidable.byContradiction
      intro hn
      exact hres.ten (l.take k) (by rw [HLK.out]; omega) (by rw [hev]; exact h3)
    have HEV := hide hev; clear hev
    by_cases h3 : ev = 3
    · have hk10' := hk10 h3
      clear hk10
      subst h3
      have hroom : Room k 1 1 := room_of (by omega) (by omega)
      have hll := HLL.out
      by_cases hkl : k < l.length
      · obtain ⟨b, hb⟩ : ∃ b, l[k]? = some b := ⟨_, List.getElem?_eq_getElem hkl⟩
        have hb' : Hid (bs[(at_ + k).toNat]? = some b) := by show _ = _; rw [← hget.out k (by omega)]; exact hb
        have hHb := hide hb; clear hb
        by_cases hfl : fl < 0 ∨ r + k < fl
        · have HB := hide (byte_ok g f c A bs (r + k) fl fr tu (at_ + k) b wr (hide hm.out.fl_) (hide hm.out.cu) (by omega) (by omega) (by omega) (by omega) (by omega) (by omega) hfl hb')
          have HFL := hide hfl
          clear hfl hll
          go_wp2_with fail
          refine HB.out.mono ?_; rintro e w2 ⟨rfl, k2, k3, k4⟩
          have hown2 := hide (own_cast (own_only2 hm.out.own k4.out (fun q hq => by have := own_ge hm.out.own q hq; simp; omega)) HLK.out rfl)
          have hb2 : base ≤ w2.heap.size := by have := k4.out.size; have := hm.out.only.size; omega
          go_wp2_with (at_builtin; refine wpList_push rfl _ _ rfl base u8_elem _ k ((l.take k).map B) rfl w2 _ _ rfl hown2.out rfl rfl hroom hb2 ?_; intro v' w3 ho3 hg3)
          rw [show (.int .u8 (b.toNat : Int) : Value) = B b from rfl, ← List.map_singleton, ← List.map_append, take_one _ _ _ hHb.out] at ho3
          have hlk1 : (l.take (k + 1)).length = k + 1 := by rw [List.length_take]; omega
          have ho3' : OwnB w3 base v' (l.take (k + 1)) := own_cast ho3 hlk1.symm rfl
          have HO3 := hide ho3'; clear ho3 ho3'
          obtain ⟨A3, c3, rfl, hc3, hc4⟩ := own_form HO3.out
          have HLK1 := hide hlk1; clear hlk1
          have hg3' := hide (hg3.below hb2 (fun q hq => own_ge hown2.out q hq)); clear hg3
          have hm2 : Hid (NumMid w w2 g f c x y base o T A bs (r + 1) fl fr tu (at_ + 1) val res l k (.slice A1 k c1)) := by
            refine ⟨by have := k2.out; rwa [show r + k + 1 = r + 1 + k from by omega] at this, by have := k3.out; rwa [show at_ + k + 1 = at_ + 1 + k from by omega] at this, hm.out.only.trans (k4.out.more (by simp)), (k4.out.block x (blk_lt hm.out.bx) (by simp; omega)).trans hm.out.bx, (k4.out.block y (blk_lt hm.out.by_) (by simp; omega)).trans hm.out.by_, own_cast hown2.out HLK.out.symm rfl, hm.out.bef, .inr (by have := HFL.out; omega)⟩
          have hx3 : w3.heap[x]? = some o := (hg3'.out.block x (by omega)).trans hm2.out.bx
          have hy3 := (hg3'.out.block y (by omega)).trans hm2.out.by_
          have hF3 := HF.out A3 c3 (l.take (k + 1)) _ w3 (by rw [HLK1.out]; omega) (Reads.of_own HO3.out) hx3 hy3
          rw [HLK1.out] at hF3 ⊢
          refine hF3.mono ?_; rintro e w4 ⟨rfl, hw4⟩
          clear hF3
          have hs : Only [y] w3 w4 := by rw [hw4]; exact Only.setCell w3 (p := ⟨y, 0, none⟩) (by simp) _
          have hm4 : Hid (NumMid w w4 g f c x y base o T A bs r fl fr tu at_ val res l (k + 1) (.slice A3 (k + 1) c3)) := by
            refine ⟨?_, ?_, ?_, ?_, ?_, ?_, ?_, .inr (by have := HFL.out; omega)⟩
            · have := (hm2.out.fl_.below hg3'.out (by omega)).keep hs (by simp; omega) (by simp; omega)
              rwa [show r + 1 + (k : Int) = r + ((k + 1 : Nat) : Int) from by omega] at this
            · have := (hm2.out.cu.below hg3'.out (by omega)).keep hs (by simp; omega)
              rwa [show at_ + 1 + (k : Int) = at_ + ((k + 1 : Nat) : Int) from by omega] at this
            · exact (hm2.out.only.then_below (by rw [HBS.out]; exact hg3'.out)).trans (hs.more (by simp))
            · exact (hs.block x (blk_lt hx3) (by simp; omega)).trans hx3
            · rw [hw4, setCell_blk hy3]; rfl
            · have := own_only HO3.out hs (by simp; omega)
              rwa [HLK1.out] at this
            · intro j hj
              by_cases hjk : j = k
              · subst hjk; exact HEV.out
              · exact hm.out.bef j (by omega)
          clear hs hw4 hx3 hy3
          go_wp2_with fail
          go_roundw
          case rel => exact ⟨k + 1, by omega, rfl, hm4⟩
          case measure => simp; omega
        · have hfl1 : 0 ≤ fl := by omega
          have hfl2 : fl ≤ r + k := by omega
          have HB := hide (byte_fault g f c A bs (r + k) fl fr tu (at_ + k) wr (hide hm.out.fl_) (hide hm.out.cu) (by omega) (by omega) (by omega) (by omega) (by omega) (by omega) hfl1 hfl2)
          clear hfl hll
          go_wp2_with fail
          refine HB.out.mono ?_; rintro e w2 ⟨rfl, k2, k3, k4⟩
          have z3 := frozen_blk k3.out.blk 3
          have d3 := cell_blk k3.out.blk 3
          simp at d3
          go_wp2_with fail
          go_ret
          have hs : Only [g] w2 (w2.setCell ⟨g, 3, none⟩ (.int .i64 at_)) := Only.setCell w2 (p := ⟨g, 3, none⟩) (by simp) _
          have hy2 := (k4.out.block y (blk_lt hm.out.by_) (by simp; omega)).trans hm.out.by_
          exact ⟨9, r + k + 1, 0, _, rfl, k2.out.keep hs (by simp; omega) (by simp; omega), by have := k3.out.move at_; rwa [show at_ + 0 = at_ from by omega], (hm.out.only.trans (k4.out.more (by simp))).trans (hs.more (by simp)), by omega, by omega, (hs.block y (blk_lt hy2) (by simp; omega)).trans hy2, fun h0 => absurd h0 (by omega), .inr ⟨rfl, rfl, by omega, by omega⟩⟩
      · have hkl' : k = l.length := by omega
        have hto : at_ + (k : Int) = tu := by omega
        have HB := hide (byte_short_o g f fr tu wr (by have := hm.out.cu; rwa [hto] at this) (by omega) (by omega))
        have HKL := hide hkl'; clear hkl hkl' hll
        have HTO := hide hto; clear hto
        go_wp2_with fail
        refine HB.out.mono ?_; rintro e w2 ⟨rfl, k4⟩
        have hc2' : Hid (CU w2 g f fr tu (at_ + k)) := hm.out.cu.keep k4.out (by simp)
        have z3 := frozen_blk hc2'.out.blk 3
        have d3 := cell_blk hc2'.out.blk 3
        simp at d3
        go_wp2_with fail
        go_ret
        have hs : Only [g] w2 (w2.setCell ⟨g, 3, none⟩ (.int .i64 at_)) := Only.setCell w2 (p := ⟨g, 3, none⟩) (by simp) _
        have hy2 := (k4.out.block y (blk_lt hm.out.by_) (by simp)).trans hm.out.by_
        have hlt : l.take k = l := by rw [HKL.out, List.take_length]
        have hE := HEV.out
        rw [hlt] at hE
        refine ⟨3, r + k, 0, _, rfl, (hm.out.fl_.keep k4.out (by simp) (by simp)).keep hs (by simp; omega) (by simp; omega), by have := hc2'.out.move at_; rwa [show at_ + 0 = at_ from by omega], (hm.out.only.trans (k4.out.more (by simp))).trans (hs.more (by simp)), by omega, by omega, (hs.block y (blk_lt hy2) (by simp; omega)).trans hy2, fun h0 => absurd h0 (by omega), .inl ⟨by rw [hE]; rfl, by rw [hres.none_ l (by rw [hE]; omega)]; rfl, fun h => ?_⟩⟩
        rw [hE] at h
        omega
    · clear hk10
      have hdone := hres.done hk hm.out.bef (by rw [HEV.out]; exact h3)
      obtain ⟨hd1, hd2⟩ := hdone
      have HD1 := hide hd1; clear hd1
      have hrr : r + (k : Int) ≤ r + 11 := by
        apply Decidable.byContradiction
        intro hn
        exact hres.ten (l.take 10) (by rw [List.length_take]; omega) (hm.out.bef 10 (by omega))
      by_cases h0 : ev = 0
      · subst h0
        have hd3 := hd2 (by rw [HD1.out, HEV.out])
        have HD3 := hide hd3; clear hd3 hd2
        go_wp2_with fail
        go_ret
        exact ⟨0, r + k, k, _, rfl, hm.out.fl_, hm.out.cu, hm.out.only, by omega, hrr, hm.out.by_, fun _ => by rcases hm.out.ok with h | h | h; (left; omega); (right; left; exact h); (right; right; exact h), .inl ⟨by rw [HD1.out, HEV.out]; rfl, by rw [HD3.out], fun _ => by rw [HD1.out]⟩⟩
      · have z3 := frozen_blk hm.out.cu.blk 3
        have d3 := cell_blk hm.out.cu.blk 3
        simp at d3
        have hne0 : ((ev : Int) == 0) = false := by simp; omega
        have hne3 : ((ev : Int) == 3) = false := by simp; omega
        have hne0' : ((ev : Int) != 0) = true := by simp; omega
        clear hd2 h0 h3
        go_wp2_with fail
        go_ret
        have hs : Only [g] wr (wr.setCell ⟨g, 3, none⟩ (.int .i64 at_)) := Only.setCell wr (p := ⟨g, 3, none⟩) (by simp) _
        have hev0 : ev ≠ 0 := by intro h; subst h; simp at hne0
        exact ⟨ev, r + k, 0, _, rfl, hm.out.fl_.keep hs (by simp; omega) (by simp; omega), by have := hm.out.cu.move at_; rwa [show at_ + 0 = at_ from by omega], hm.out.only.trans (hs.more (by simp)), by omega, hrr, (hs.block y (blk_lt hm.out.by_) (by simp; omega)).trans hm.out.by_, fun h0 => absurd h0 (by omega), .inl ⟨by rw [HD1.out, HEV.out], by rw [hres.none_ l (by rw [HD1.out, HEV.out]; exact hev0)]; rfl, fun h => by rw [HD1.out, HEV.out] at h; exact absurd h hev0⟩⟩
end Go.Proofs.YtpanlhbdphobdaaGreatDoor
