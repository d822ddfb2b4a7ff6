/-
  Numbers as bytes, in plain Lean: what the program's leb answers, as functions of lists and whole numbers.
  Words for memory, over any program: a slice that reads as a list (Reads), what a call owns and makes longer (Grows), append of one element and of many.
-/
import Derived.Below
import Derived.Lib.BitFns
import Derived.WalkKit
import Derived.WalkSpells
import Derived.WalkLawsBesides
import Derived.Lib.Hide
import Derived.Maps.AppendAt
import Derived.Deep.AppendLies
import Derived.Deep.Draws
import Derived.Laws.OwnMore
namespace Go.Proofs.YtpanlhbdphobdaaGreatDoor

def cntN (n : Nat) : Nat := (n + 6) / 7

/-- the loop of raw: at byte i, with what has been gathered -/
def rawGo (cnt : Nat) : List UInt8 → Nat → Nat → Nat × Nat × Nat × Nat
  | [], _, _ => (0, 0, 0, 3)
  | c :: r, i, acc =>
    if i + 1 = cnt ∧ 128 ≤ c.toNat then (0, 0, 0, 4)
    else if c.toNat < 128 then (acc ||| (c.toNat % 128 * 2 ^ (7 * i) % 2 ^ 64), i + 1, c.toNat, 0)
    else rawGo cnt r (i + 1) (acc ||| (c.toNat % 128 * 2 ^ (7 * i) % 2 ^ 64))

def rawL (bs : List UInt8) (n : Int) : Nat × Nat × Nat × Nat :=
  if n < 1 ∨ 64 < n then (0, 0, 0, 1) else rawGo (cntN n.toNat) bs 0 0

/-- what lies beyond the last byte's used bits; how many bits -/
def beyondL (c size n : Nat) : Nat × Nat :=
  if 7 * size ≤ n then (0, 0) else (c % 128 / 2 ^ (n + 7 - 7 * size), 7 * size - n)

def unsignedL (bs : List UInt8) (n : Int) : Nat × Nat × Nat :=
  let r := rawL bs n
  if r.2.2.2 ≠ 0 then (0, 0, r.2.2.2)
  else if (beyondL r.2.2.1 r.2.1 n.toNat).1 ≠ 0 then (0, 0, 4)
  else (r.1, r.2.1, 0)

theorem and127 (x : Nat) : x &&& 127 = x % 128 := Nat.and_two_pow_sub_one_eq_mod x 7

theorem rawGo_lt (cnt : Nat) : ∀ (bs : List UInt8) (i acc : Nat), acc < 2 ^ 64 → (rawGo cnt bs i acc).1 < 2 ^ 64 := by
  intro bs
  induction bs with
  | nil => intro i acc h; simp [rawGo]
  | cons c r ih =>
    intro i acc h
    have h2 : acc ||| (c.toNat % 128 * 2 ^ (7 * i) % 2 ^ 64) < 2 ^ 64 := Nat.or_lt_two_pow h (Nat.mod_lt _ (by omega))
    unfold rawGo
    split
    · simp
    · split
      · exact h2
      · exact ih _ _ h2

/-- what comes back is OK, with a last byte below 128, and between 1 and cnt bytes; or an error -/
theorem rawGo_ok (cnt : Nat) : ∀ (bs : List UInt8) (i acc : Nat), i < cnt →
    ((rawGo cnt bs i acc).2.2.2 = 0 ∧ i + 1 ≤ (rawGo cnt bs i acc).2.1 ∧ (rawGo cnt bs i acc).2.1 ≤ cnt ∧ (rawGo cnt bs i acc).2.2.1 < 128) ∨
    ((rawGo cnt bs i acc) = (0, 0, 0, 3)) ∨ ((rawGo cnt bs i acc) = (0, 0, 0, 4)) := by
  intro bs
  induction bs with
  | nil => intro i acc h; simp [rawGo]
  | cons c r ih =>
    intro i acc h
    unfold rawGo
    split
    · simp
    · rename_i h1
      split
      · rename_i h2
        refine .inl ⟨rfl, Nat.le_refl _, ?_, h2⟩
        show i + 1 ≤ cnt
        omega
      · rename_i h2
        have hne : i + 1 ≠ cnt := fun e => h1 ⟨e, by omega⟩
        rcases ih (i + 1) (acc ||| (c.toNat % 128 * 2 ^ (7 * i) % 2 ^ 64)) (by omega) with ⟨a, b, d, e⟩ | hh
        · exact .inl ⟨a, by omega, d, e⟩
        · exact .inr hh

/-- what raw answers: a number of at least one byte, the last one below 128; or an error alone -/
theorem rawL_cases (bs : List UInt8) (n : Int) :
    (∃ v size c, rawL bs n = (v, size, c, 0) ∧ 1 ≤ n ∧ n ≤ 64 ∧ 1 ≤ size ∧ 7 * (size : Int) < n + 7 ∧ c ≤ 127 ∧ size ≤ 10 ∧ v < 2 ^ 64) ∨
    (∃ e, rawL bs n = (0, 0, 0, e) ∧ (e = 1 ∨ e = 3 ∨ e = 4)) := by
  by_cases h : n < 1 ∨ 64 < n
  · exact .inr ⟨1, by unfold rawL; rw [if_pos h], .inl rfl⟩
  · have hR : rawL bs n = rawGo (cntN n.toNat) bs 0 0 := by unfold rawL; rw [if_neg h]
    have hlt := rawGo_lt (cntN n.toNat) bs 0 0 (by omega)
    have hc : 7 * cntN n.toNat < n.toNat + 7 := by unfold cntN; omega
    have hok := rawGo_ok (cntN n.toNat) bs 0 0 (by unfold cntN; omega)
    rw [hR]
    revert hlt hok
    generalize rawGo (cntN n.toNat) bs 0 0 = r
    obtain ⟨v, size, c, e⟩ := r
    intro hlt hok
    rcases hok with ⟨a, b, d, f⟩ | hh | hh
    · simp only at a b d f hlt
      subst a
      exact .inl ⟨v, size, c, rfl, by omega, by omega, b, by omega, by omega, by omega, hlt⟩
    · exact .inr ⟨3, hh, .inr (.inl rfl)⟩
    · exact .inr ⟨4, hh, .inr (.inr rfl)⟩

/-- a number of so many bits with its sign, out of its bits -/
def extendL (v n : Nat) : Int := if v % 2 ^ n < 2 ^ (n - 1) then (v % 2 ^ n : Nat) else (v % 2 ^ n : Nat) - (2 ^ n : Nat)

def signedL (bs : List UInt8) (n : Int) : Int × Nat × Nat :=
  let r := rawL bs n
  if r.2.2.2 ≠ 0 then (0, 0, r.2.2.2)
  else
    let out := extendL r.1 (min (7 * r.2.1) n.toNat)
    let y := beyondL r.2.2.1 r.2.1 n.toNat
    if 0 < y.2 ∧ y.1 ≠ (if out < 0 then 2 ^ y.2 - 1 else 0) then (0, 0, 4) else (out, r.2.1, 0)

/-- the fewest bytes, with fuel -/
def putF : Nat → Nat → List UInt8
  | 0, n => [UInt8.ofNat n]
  | k + 1, n => if n < 128 then [UInt8.ofNat n] else UInt8.ofNat (n % 128 + 128) :: putF k (n / 128)

def putN (n : Nat) : List UInt8 := putF 9 n

theorem putF_more : ∀ (k n : Nat), n < 128 ^ (k + 1) → putF (k + 1) n = putF k n := by
  intro k
  induction k with
  | zero => intro n h; simp only [putF]; rw [if_pos (by simpa using h)]
  | succ k ih =>
    intro n h
    by_cases h1 : n < 128
    · rw [putF, if_pos h1, putF, if_pos h1]
    · rw [putF, if_neg h1, ih (n / 128) (by rw [Nat.div_lt_iff_lt_mul (by omega)]; rw [Nat.pow_succ] at h; exact h)]
      rw [putF, if_neg h1]

theorem putN_small (n : Nat) (h : n < 128) : putN n = [UInt8.ofNat n] := by
  unfold putN; rw [putF, if_pos h]

theorem putN_step (n : Nat) (h : 128 ≤ n) (h2 : n < 2 ^ 64) : putN n = UInt8.ofNat (n % 128 + 128) :: putN (n / 128) := by
  unfold putN
  rw [putF, if_neg (by omega), putF_more 8]
  omega

theorem putF_length : ∀ (k n : Nat), 1 ≤ (putF k n).length ∧ (putF k n).length ≤ k + 1 := by
  intro k
  induction k with
  | zero => intro n; simp [putF]
  | succ k ih =>
    intro n
    rw [putF]
    split
    · simp
    · have := ih (n / 128); simp; omega

def sizeL (n : Nat) : Nat := max (cntN (Lib.bitLen n)) 1
/-- a number's bits without its sign -/
def magN (n : Int) : Nat := if n < 0 then (-n - 1).toNat else n.toNat
def sizeS (n : Int) : Nat := (Lib.bitLen (magN n) + 7) / 7
/-- so many bytes of a number with a sign -/
def putS : Nat → Int → List UInt8
  | 0, n => [UInt8.ofNat (n % 128).toNat]
  | k + 1, n => UInt8.ofNat ((n % 128).toNat + 128) :: putS k (n / 128)
def putSN (n : Int) : List UInt8 := putS (sizeS n - 1) n
theorem putS_length : ∀ (k : Nat) (n : Int), (putS k n).length = k + 1 := by
  intro k
  induction k with
  | zero => intro n; rfl
  | succ k ih => intro n; rw [putS, List.length_cons, ih]
theorem magN_lt (n : Int) (h1 : -9223372036854775808 ≤ n) (h2 : n ≤ 9223372036854775807) : magN n < 2 ^ 63 := by
  unfold magN; simp only [Nat.reducePow]; split <;> omega
theorem sizeS_bd (n : Int) (h1 : -9223372036854775808 ≤ n) (h2 : n ≤ 9223372036854775807) : 1 ≤ sizeS n ∧ sizeS n ≤ 10 := by
  have := Lib.bitLen_le (magN n) 63 (by omega) (magN_lt n h1 h2)
  unfold sizeS; omega

theorem putN_length (n : Nat) : 1 ≤ (putN n).length ∧ (putN n).length ≤ 10 := putF_length 9 n
end Go.Proofs.YtpanlhbdphobdaaGreatDoor

namespace Go.Proofs.YtpanlhbdphobdaaGreatDoor
open Go.RowKit

theorem hide {p : Prop} (h : p) : Hid p := h
theorem ret_int {k : IntKind} {a b : Int} (h : a = b) : Ending.returned (.int k a) = .returned (.int k b) := by rw [h]
theorem int_congr {k : IntKind} {a b : Int} (h : a = b) : Value.int k a = Value.int k b := by rw [h]

theorem results_tmp4 {fn : Func} {t u v x : Tmp} (h : fn.results = #[.tmp t, .tmp u, .tmp v, .tmp x]) (tmps : Array Value) (P : Program) (w : World) :
    (results fn tmps).run P w = .ok (.tuple #[tmps.getD t undef, tmps.getD u undef, tmps.getD v undef, tmps.getD x undef]) w := by simp [results, h]
theorem results_tmp5 {fn : Func} {t u v x y : Tmp} (h : fn.results = #[.tmp t, .tmp u, .tmp v, .tmp x, .tmp y]) (tmps : Array Value) (P : Program) (w : World) :
    (results fn tmps).run P w = .ok (.tuple #[tmps.getD t undef, tmps.getD u undef, tmps.getD v undef, tmps.getD x undef, tmps.getD y undef]) w := by simp [results, h]
theorem tup2 {a b a' b' : Value} (h1 : a = a') (h2 : b = b') : Ending.returned (.tuple #[a, b]) = .returned (.tuple #[a', b']) := by rw [h1, h2]
theorem tup3 {a b c a' b' c' : Value} (h1 : a = a') (h2 : b = b') (h3 : c = c') : Ending.returned (.tuple #[a, b, c]) = .returned (.tuple #[a', b', c']) := by rw [h1, h2, h3]
theorem tup4 {a b c d a' b' c' d' : Value} (h1 : a = a') (h2 : b = b') (h3 : c = c') (h4 : d = d') : Ending.returned (.tuple #[a, b, c, d]) = .returned (.tuple #[a', b', c', d']) := by rw [h1, h2, h3, h4]

/-- a byte as the machine's value -/
def B (b : UInt8) : Value := .int .u8 (b.toNat : Int)

theorem B_ofNat (n : Nat) (h : n < 256) : Value.int .u8 (n : Int) = B (UInt8.ofNat n) := by
  unfold B
  have : (UInt8.ofNat n).toNat = n := by simp [UInt8.toNat_ofNat']; omega
  rw [this]
theorem B_one (b : UInt8) : (B b).oneCell' = true := rfl
theorem B_map_one (bs : List UInt8) : ∀ u ∈ bs.map B, u.oneCell' = true := by
  intro u hu; obtain ⟨b, _, rfl⟩ := List.mem_map.1 hu; rfl

theorem block_of_add (a : Addr) (n : Nat) : (a.add n).block = a.block := by unfold Addr.add; split <;> rfl
theorem add_of_add (a : Addr) (i j : Nat) : (a.add i).add j = a.add (i + j) := by
  unfold Addr.add
  by_cases hi : i = 0 <;> by_cases hj : j = 0 <;> simp [hi, hj, Nat.add_assoc]

/-- the slice value '.slice A n c' holds the cells xs, in a block below 'Bk' -/
def Reads (w : World) (Bk size : Nat) (A : Option Addr) (n : Nat) (xs : List Value) : Prop :=
  xs.length = n * size ∧ (0 < n → ∃ ad, A = some ad ∧ ad.block < Bk ∧ ∀ j u, xs[j]? = some u → w.cell? (ad.add j) = some u)

section
variable {w w' : World} {Bk Bk' size n : Nat} {A : Option Addr} {xs : List Value}
theorem Reads.none_ : Reads w Bk size A 0 [] := ⟨by simp, fun h => absurd h (by omega)⟩
theorem Reads.at_ {k : Nat} (h : Reads w Bk 1 A n xs) (hk : k < n) : ∃ ad u, A = some ad ∧ ad.block < Bk ∧ xs[k]? = some u ∧ w.cell? (ad.add k) = some u := by
  obtain ⟨ad, e, hb, hc⟩ := h.2 (by omega)
  have hl : k < xs.length := by have := h.1; omega
  exact ⟨ad, xs[k], e, hb, List.getElem?_eq_getElem hl, hc k _ (List.getElem?_eq_getElem hl)⟩
/-- an element of a list of whatever, laid by f -/
theorem Reads.elem {α : Type} {f : α → Value} {ys : List α} {k : Nat} (h : Reads w Bk 1 A ys.length (ys.map f)) (hk : k < ys.length) :
    ∃ (ad : Addr) (c : α), A = some ad ∧ Hid (ys[k]? = some c) ∧ w.cell? (ad.add k) = some (f c) := by
  obtain ⟨ad, u, h1, _, h2, h3⟩ := h.at_ hk
  refine ⟨ad, ys[k], h1, List.getElem?_eq_getElem hk, ?_⟩
  rw [h3]
  rw [List.getElem?_map, List.getElem?_eq_getElem hk] at h2
  exact h2.symm
theorem Reads.byte {bs : List UInt8} {k : Nat} (h : Reads w Bk 1 A bs.length (bs.map B)) (hk : k < bs.length) :
    ∃ (ad : Addr) (c : UInt8), A = some ad ∧ Hid (bs[k]? = some c) ∧ w.cell? (ad.add k) = some (.int .u8 (c.toNat : Int)) ∧ (0 : Int) ≤ (c.toNat : Int) ∧ (c.toNat : Int) ≤ 255 := by
  obtain ⟨ad, c, h1, h2, h3⟩ := h.elem hk
  have := c.toNat_lt
  exact ⟨ad, c, h1, h2, h3, by omega, by omega⟩
theorem Reads.keep (h : Reads w Bk size A n xs) (hk : ∀ p : Addr, p.block < Bk → w'.cell? p = w.cell? p) : Reads w' Bk size A n xs :=
  ⟨h.1, fun hn => by
    obtain ⟨ad, e, hb, hc⟩ := h.2 hn
    exact ⟨ad, e, hb, fun j u hu => (hk _ (by rw [block_of_add]; exact hb)).trans (hc j u hu)⟩⟩
theorem Reads.more (h : Reads w Bk size A n xs) (hB : Bk ≤ Bk') : Reads w Bk' size A n xs :=
  ⟨h.1, fun hn => by
    obtain ⟨ad, e, hb, hc⟩ := h.2 hn
    exact ⟨ad, e, by omega, hc⟩⟩
theorem Reads.below (h : Reads w Bk size A n xs) (hb : Below Bk w w') : Reads w' Bk size A n xs := h.keep fun _ hp => hb.cell hp
theorem Reads.drew (h : Reads w Bk size A n xs) : Reads w.drew Bk size A n xs := h
theorem Reads.drewN (h : Reads w Bk size A n xs) (k : Nat) : Reads (w.drewN k) Bk size A n xs := h
theorem Reads.alloc (h : Reads w Bk size A n xs) (hB : Bk ≤ w.heap.size) (o : Obj) : Reads (w.alloc o) Bk size A n xs := h.keep fun p hp => World.cell?_alloc_lt w o p (by omega)
theorem Reads.setCell (h : Reads w Bk size A n xs) {p : Addr} (hB : Bk ≤ p.block) (u : Value) : Reads (w.setCell p u) Bk size A n xs :=
  h.keep fun q hq => World.cell?_setCell_other w p q u (fun e => by subst e; omega)
theorem Reads.grown (h : Reads w Bk size A n xs) {row : Option Nat} (hg : w.grownBy w' row) (hB : Bk ≤ w.heap.size) (hr : ∀ g, row = some g → Bk ≤ g) : Reads w' Bk size A n xs :=
  h.keep fun p hp => World.cell?_of_block (hg.block p.block (by omega) (fun e => by have := hr _ e.symm; omega))
theorem Reads.cut (h : Reads w Bk size A n xs) {k cap : Nat} (hk : k ≤ n) (hc : n ≤ cap) :
    Reads w Bk size (if cap = k then A else A.map (·.add (k * size))) (n - k) (xs.drop (k * size)) := by
  refine ⟨by rw [List.length_drop, h.1, Nat.sub_mul], fun hn => ?_⟩
  obtain ⟨ad, rfl, hb, hcell⟩ := h.2 (by omega)
  rw [if_neg (by omega)]
  refine ⟨ad.add (k * size), rfl, by rw [block_of_add]; exact hb, fun j u hu => ?_⟩
  rw [add_of_add]
  exact hcell _ u (by rw [← hu, List.getElem?_drop])
theorem Reads.upto (h : Reads w Bk size A n xs) {k : Nat} (hk : k ≤ n) : Reads w Bk size A k (xs.take (k * size)) := by
  refine ⟨by rw [List.length_take, h.1, Nat.min_eq_left (Nat.mul_le_mul_right _ hk)], fun hn => ?_⟩
  obtain ⟨ad, rfl, hb, hcell⟩ := h.2 (by omega)
  refine ⟨ad, rfl, hb, fun j u hu => hcell j u ?_⟩
  rw [List.getElem?_take] at hu
  split at hu
  · exact hu
  · cases hu
theorem Reads.of_own {base : Nat} {e : TypeId} {c : Nat} (h : w.ownsRow base e size (.slice A n c) n xs) : Reads w w.heap.size size A n xs := by
  refine ⟨h.1, fun hn => ?_⟩
  obtain ⟨g, cap, hv, _, hlt⟩ := h.form hn
  have hA : A = some ⟨g, 0, none⟩ := by injection hv
  subst hA
  exact ⟨_, rfl, hlt, h.cells (g := g) rfl⟩
/-- a new block, known whole -/
theorem Reads.of_new (w : World) (cs : List Value) (e : TypeId) (n : Nat) (hn : cs.length = n) : Reads (w.alloc (.cells cs.toArray e)) (w.heap.size + 1) 1 (some ⟨w.heap.size, 0, none⟩) n cs := by
  refine ⟨by omega, fun _ => ⟨_, rfl, by simp, fun j u hu => ?_⟩⟩
  have hadd : (⟨w.heap.size, 0, none⟩ : Addr).add j = ⟨w.heap.size, j, none⟩ := by unfold Addr.add; split <;> simp_all
  rw [hadd, cell_of_row (w.alloc (.cells cs.toArray e)) w.heap.size j cs.toArray e (0, 0) (heap_alloc_new w _)]
  simpa using hu
end

/-- an owned row's value, written out -/
theorem own_form {w : World} {base : Nat} {e : TypeId} {size n : Nat} {v : Value} {xs : List Value} (h : w.ownsRow base e size v n xs) : ∃ A c, v = .slice A n c ∧ n ≤ c ∧ c ≤ maxLen := by
  rcases h.2 with ⟨rfl, rfl⟩ | ⟨g, cap, cur, rfl, _, _, h1, h2, _⟩
  · exact ⟨none, 0, rfl, Nat.le_refl _, by unfold maxLen; omega⟩
  · exact ⟨_, _, rfl, h1, h2⟩

/-- what a call leaves that makes a slice longer that its caller owns: new blocks, and writes into the slice's own row; the slice that comes back lies in that row, or in a new block -/
structure Grows (w w' : World) (v v' : Value) : Prop where
  by_ : w.grownBy w' v.ownBlock
  lies : v'.ownBlock = v.ownBlock ∨ ∃ g, v'.ownBlock = some g ∧ w.heap.size ≤ g

theorem Grows.refl (w : World) (v : Value) : Grows w w v v := ⟨⟨rfl, rfl, rfl, Nat.le_refl _, fun _ _ _ => rfl⟩, .inl rfl⟩
theorem Grows.trans {w w1 w2 : World} {v v1 v2 : Value} (h : Grows w w1 v v1) (k : Grows w1 w2 v1 v2) : Grows w w2 v v2 := by
  refine ⟨⟨k.by_.os.trans h.by_.os, k.by_.tape.trans h.by_.tape, k.by_.output.trans h.by_.output, Nat.le_trans h.by_.size k.by_.size, fun i hi hne => ?_⟩, ?_⟩
  · refine (k.by_.block i (Nat.lt_of_lt_of_le hi h.by_.size) ?_).trans (h.by_.block i hi hne)
    rcases h.lies with e | ⟨g, e, hg⟩
    · rw [e]; exact hne
    · rw [e]; intro hh; injection hh with hh; omega
  · rcases k.lies with e | ⟨g, e, hg⟩
    · rw [e]; exact h.lies
    · exact .inr ⟨g, e, Nat.le_trans h.by_.size hg⟩
theorem Grows.alloc_first {w w' : World} {v v' : Value} {o : Obj} (h : Grows (w.alloc o) w' v v') : Grows w w' v v' := by
  refine ⟨⟨h.by_.os, h.by_.tape, h.by_.output, Nat.le_trans (by simp) h.by_.size, fun i hi hne => (h.by_.block i (by simp; omega) hne).trans (Below.heap_alloc w o i hi)⟩, ?_⟩
  rcases h.lies with e | ⟨g, e, hg⟩
  · exact .inl e
  · exact .inr ⟨g, e, by simp at hg; omega⟩
theorem Grows.below {w w' : World} {v v' : Value} (h : Grows w w' v v') {Bk : Nat} (hB : Bk ≤ w.heap.size) (hv : ∀ g, v.ownBlock = some g → Bk ≤ g) : Below Bk w w' :=
  (Below.refl _ _).grown h.by_ hB hv
theorem Grows.below' {a w w' : World} {v v' : Value} (h : Grows w w' v v') {Bk : Nat} (ha : Below Bk a w) (hB : Bk ≤ w.heap.size) (hv : ∀ g, v.ownBlock = some g → Bk ≤ g) : Below Bk a w' :=
  ha.grown h.by_ hB hv
theorem Grows.of_below {w w' : World} {v : Value} (h : Below w.heap.size w w') : Grows w w' v v := ⟨⟨h.os, h.tape, h.output, h.size, fun i hi _ => h.block i hi⟩, .inl rfl⟩
theorem own_ge {w : World} {base : Nat} {e : TypeId} {size n : Nat} {v : Value} {xs : List Value} (h : w.ownsRow base e size v n xs) : ∀ g, v.ownBlock = some g → base ≤ g := fun g hg => (h.lt g hg).1
theorem own_nil (w : World) (base : Nat) (e : TypeId) (size : Nat) : w.ownsRow base e size (.slice none 0 0) 0 [] := ⟨by simp, .inl ⟨rfl, rfl⟩⟩
theorem own_cast {w : World} {base : Nat} {e : TypeId} {size n n' : Nat} {v : Value} {xs xs' : List Value} (h : w.ownsRow base e size v n xs) (hn : n = n') (hx : xs = xs') : w.ownsRow base e size v n' xs' := by subst hn; subst hx; exact h
theorem own_drew {w : World} {base : Nat} {e : TypeId} {size n : Nat} {v : Value} {xs : List Value} (h : w.ownsRow base e size v n xs) : w.drew.ownsRow base e size v n xs := h
theorem own_base {w : World} {base base' : Nat} {e : TypeId} {size n : Nat} {v : Value} {xs : List Value} (h : w.ownsRow base e size v n xs) (hb : ∀ g, v.ownBlock = some g → base' ≤ g) : w.ownsRow base' e size v n xs := by
  refine ⟨h.1, ?_⟩
  rcases h.2 with hn | ⟨g, cap, cur, rfl, _, rest⟩
  · exact .inl hn
  · exact .inr ⟨g, cap, cur, rfl, hb g rfl, rest⟩
/-- a row that stays while others are written -/
theorem own_below {w w' : World} {base base' : Nat} {e : TypeId} {size n : Nat} {v : Value} {xs : List Value} (h : w.ownsRow base e size v n xs) (hb : Below base' w w') (hlt : ∀ g, v.ownBlock = some g → g < base') : w'.ownsRow base e size v n xs := by
  refine ⟨h.1, ?_⟩
  rcases h.2 with hn | ⟨g, cap, cur, rfl, hbg, hh, rest⟩
  · exact .inl hn
  · exact .inr ⟨g, cap, cur, rfl, hbg, by rw [hb.block g (hlt g rfl)]; exact hh, rest⟩

/-- the facts on a slice's type and its element's -/
def IsElem (P : Program) (t e : TypeId) (size bytes : Nat) : Prop :=
  P.underlying t = some (.slice e) ∧ ∃ i z, P.info? e = some i ∧ i.zero = some z ∧ i.size = size ∧ i.bytes = bytes ∧ z.cells.size = size ∧ 0 < size

theorem IsElem.mk' {P : Program} {t e : TypeId} {z : Value} {size bytes : Nat} (ht : P.underlying t = some (.slice e)) (hi : (P.info? e).map (fun i => (i.zero, i.size, i.bytes)) = some (some z, size, bytes)) (hz : z.cells.size = size) (hs : 0 < size) : IsElem P t e size bytes := by
  refine ⟨ht, ?_⟩
  cases h : P.info? e with
  | none => rw [h] at hi; cases hi
  | some i =>
    rw [h] at hi
    simp only [Option.map_some, Option.some.injEq, Prod.mk.injEq] at hi
    exact ⟨i, z, rfl, hi.1, hi.2.1, hi.2.2, hz, hs⟩

/-- there is room for so many more -/
def Room (n m bytes : Nat) : Prop := n + m ≤ maxLen ∧ (n + m) * bytes ≤ 140737488355328
theorem room_of {n m bytes : Nat} (h : n + m ≤ 2000000000) (hb : bytes ≤ 1000) : Room n m bytes := by
  refine ⟨by unfold maxLen; omega, ?_⟩
  have := Nat.mul_le_mul h hb
  omega

section
variable {P : Program} {w : World}
theorem run_append_of_nil (base : Nat) (t ty e : TypeId) (i : TypeInfo) (size : Nat) (ht : P.underlying t = some (.slice e)) (hi : P.info? e = some i)
    (v : Value) (n : Nat) (xs : List Value) (hown : w.ownsRow base e size v n xs) (c : Nat) : (Builtin.append_ #[t, t] ty #[v, .slice none 0 c]).run P w = .ok v w := by
  rcases hown.2 with ⟨rfl, rfl⟩ | ⟨g, cap, cur, rfl, _, _, hnc, _⟩
  · simp [Builtin.append_, run_underlying ht, sizeOf, typeInfo, hi, Builtin.lenOf, Builtin.firstCells]
  · simp [Builtin.append_, run_underlying ht, sizeOf, typeInfo, hi, Builtin.lenOf, Builtin.firstCells, hnc, storeCells]

theorem run_append_any (base : Nat) {t ty e : TypeId} {size bytes : Nat} (hE : IsElem P t e size bytes)
    (v : Value) (n : Nat) (xs : List Value) (hown : w.ownsRow base e size v n xs)
    (Bk : Nat) (A : Option Addr) (m c : Nat) (news : List Value) (hr : Reads w Bk size A m news) (h1 : ∀ u ∈ news, u.oneCell' = true)
    (hroom : Room n m bytes) (hbase : base ≤ w.heap.size) :
    ∃ v' w', (Builtin.append_ #[t, t] ty #[v, .slice A m c]).run P w = .ok v' w' ∧ w'.ownsRow base e size v' (n + m) (xs ++ news) ∧ Grows w w' v v' := by
  obtain ⟨ht, i, z, hi, hz, hsize, hby, hzs, hsz⟩ := hE
  rcases A with _ | ad
  · have hm : m = 0 := by
      rcases Nat.eq_zero_or_pos m with h0 | h0
      · exact h0
      · obtain ⟨ad, h, _⟩ := hr.2 h0
        cases h
    subst hm
    have hn : news = [] := List.eq_nil_of_length_eq_zero (by simpa using hr.1)
    subst hn
    exact ⟨v, w, run_append_of_nil base t ty e i size ht hi v n xs hown c, by simpa using hown, Grows.refl _ _⟩
  · have hcells : ∀ j u, news[j]? = some u → w.cell? (ad.add j) = some u := by
      intro j u hu
      rcases Nat.eq_zero_or_pos m with h0 | h0
      · subst h0
        have hn : news = [] := List.eq_nil_of_length_eq_zero (by simpa using hr.1)
        subst hn
        simp at hu
      · obtain ⟨ad', h, _, hc⟩ := hr.2 h0
        injection h with h
        subst h
        exact hc j u hu
    obtain ⟨v', w', hrun, h2, h3, _, h5⟩ := run_append_own_at (P := P) w base t ty e i z size bytes ht hi hz hsize hby hzs hsz v n xs hown ad m c news hr.1 hcells h1 hroom.1 hroom.2 hbase
    refine ⟨v', w', hrun, h2, h3, ?_⟩
    rcases h5 with h5 | h5
    · exact .inl h5
    · exact .inr ⟨_, h5, Nat.le_refl _⟩

theorem wp_append_any {o : Oper} {a : Act} {K : Act → World → Prop} {Q : Exit → Act → World → Prop} (s x : Operand) {t : TypeId}
    (ho : o.op = .call { callee := .builtin .append, args := #[s, x], argTypes := #[t, t] })
    (base : Nat) {e : TypeId} {size bytes : Nat} (hE : IsElem P t e size bytes)
    (v : Value) (n : Nat) (xs : List Value) (hs : a.eval s = v) (hown : w.ownsRow base e size v n xs)
    (Bk : Nat) (A : Option Addr) (m c : Nat) (news : List Value) (hx : a.eval x = .slice A m c) (hr : Reads w Bk size A m news) (h1 : ∀ u ∈ news, u.oneCell' = true)
    (hroom : Room n m bytes) (hbase : base ≤ w.heap.size)
    (h : ∀ v' w', w'.ownsRow base e size v' (n + m) (xs ++ news) → Grows w w' v v' → K (a.put o.dst v') w') : o.wp P a w K Q := by
  obtain ⟨v', w', hrun, h2, h3⟩ := run_append_any (P := P) (w := w) base (ty := o.type) hE v n xs hown Bk A m c news hr h1 hroom hbase
  unfold Oper.wp execOp
  simp only [ho, resolve, invoke, builtin, Sem.run_bind, Sem.run_pure, Result.andThen_ok, List.map_toArray, List.map_cons, List.map_nil, hs, hx, hrun]
  exact h v' w' h2 h3

/-- append of whatever slice onto a row of the call's own -/
theorem wpList_append_any {ops : Array Oper} {rest : List Oper} {o : Oper} {a : Act} {Q : Exit → Act → World → Prop} (hgd : o.guard = none) (s x : Operand) {t : TypeId}
    (ho : o.op = .call { callee := .builtin .append, args := #[s, x], argTypes := #[t, t] })
    (base : Nat) {e : TypeId} {size bytes : Nat} (hE : IsElem P t e size bytes)
    (v : Value) (n : Nat) (xs : List Value) (hs : a.eval s = v) (hown : w.ownsRow base e size v n xs)
    (Bk : Nat) (A : Option Addr) (m c : Nat) (news : List Value) (hx : a.eval x = .slice A m c) (hr : Reads w Bk size A m news) (h1 : ∀ u ∈ news, u.oneCell' = true)
    (hroom : Room n m bytes) (hbase : base ≤ w.heap.size)
    (h : ∀ v' w', w'.ownsRow base e size v' (n + m) (xs ++ news) → Grows w w' v v' → wpList P ops Q rest (a.put o.dst v') w') : wpList P ops Q (o :: rest) a w :=
  wpList_plain hgd fun _ hK => wp_append_any s x ho base hE v n xs hs hown Bk A m c news hx hr h1 hroom hbase fun v' w' h2 h3 => hK _ _ (h v' w' h2 h3)

/-- append of one element of one cell, which has just been laid into a block of its own -/
theorem wpList_push {ops : Array Oper} {rest : List Oper} {o : Oper} {a : Act} {Q : Exit → Act → World → Prop} (hgd : o.guard = none) (s x : Operand) {t : TypeId}
    (ho : o.op = .call { callee := .builtin .append, args := #[s, x], argTypes := #[t, t] })
    (base : Nat) {e : TypeId} {bytes : Nat} (hE : IsElem P t e 1 bytes)
    (v : Value) (n : Nat) (xs : List Value) (hs : a.eval s = v) (w0 : World) (u : Value) (e' : TypeId) (hw : w = w0.alloc (.cells #[u] e')) (hown : w0.ownsRow base e 1 v n xs)
    (hx : a.eval x = .slice (some ⟨w0.heap.size, 0, none⟩) 1 1) (h1 : u.oneCell' = true)
    (hroom : Room n 1 bytes) (hbase : base ≤ w0.heap.size)
    (h : ∀ v' w', w'.ownsRow base e 1 v' (n + 1) (xs ++ [u]) → Grows w0 w' v v' → wpList P ops Q rest (a.put o.dst v') w') : wpList P ops Q (o :: rest) a w := by
  subst hw
  refine wpList_append_any hgd s x ho base hE v n xs hs (hown.alloc _) (w0.heap.size + 1) _ 1 1 [u] hx (Reads.of_new w0 [u] e' 1 rfl) (by simpa using h1) hroom (by simp; omega) fun v' w' h2 h3 => h v' w' h2 h3.alloc_first
end

/-- 'string(b)' of a slice that reads as bytes -/
theorem run_string_reads {P : Program} {w : World} {Bk : Nat} {A : Option Addr} {bs : List UInt8} (src dst e : TypeId) (c : Nat) (hs : P.underlying src = some (.slice e)) (he : P.underlying e = some (.int .u8)) (hd : P.underlying dst = some .string)
    (h : Reads w Bk 1 A bs.length (bs.map B)) : (convert src dst (.slice A bs.length c)).run P w = .ok (.string ⟨bs.toArray⟩) w := by
  rcases Nat.eq_zero_or_pos bs.length with h0 | h0
  · have hn : bs = [] := List.eq_nil_of_length_eq_zero h0
    subst hn
    cases A with
    | none => rw [run_convert_bytes_string w src dst e _ _ c hs he hd]; rfl
    | some a => exact run_convert_bytes_back w src dst e a c [] hs he hd (fun j hj => by simp at hj)
  · obtain ⟨ad, rfl, _, hc⟩ := h.2 (by simpa using h0)
    refine run_convert_bytes_back w src dst e ad c bs hs he hd fun j hj => hc j _ ?_
    rw [List.getElem?_map, List.getElem?_eq_getElem hj]
    rfl
end Go.Proofs.YtpanlhbdphobdaaGreatDoor
