/-
  op: all ops; which one has a name; in plain Lean.
  Instructions as texts, in plain Lean: a right one's text; a text's words make the instruction again.
-/
import Derived.Test.YtpanlhbdphobdaaGreatDoorDeAK
import Derived.Test.YtpanlhbdphobdaaGreatDoorFaBG
import Derived.Test.YtpanlhbdphobdaaGreatDoorFaAW
namespace Go.Proofs.YtpanlhbdphobdaaGreatDoor
open Go.RowKit
set_option linter.unusedVariables false

/-- the rows of a span, from a number on -/
def spanRows (s : OpSpan) : List OpRow := (List.range s.many.toNat).map fun i : Nat => spanRow s (s.first + (i : Int))
def allRows : List OpRow := opRows1 ++ (opRows2 ++ opSpans.flatMap spanRows)
theorem allRows_len : allRows.length = 111 := by decide +kernel
theorem allRows_code : ∀ r ∈ allRows, 0 ≤ r.code ∧ r.code < 100000 := by
  have h : allRows.all (fun r => decide (0 ≤ r.code) && decide (r.code < 100000)) = true := by decide +kernel
  intro r hr
  have := List.all_eq_true.1 h r hr
  simpa using this
def sameRow (a b : OpRow) : Bool := a.code == b.code && (decide (a.name = b.name) && (a.form == b.form && (decide (a.takes = b.takes) && decide (a.gives = b.gives))))
theorem sameRow_eq {a b : OpRow} (h : sameRow a b = true) : a = b := by
  obtain ⟨a1, a2, a3, a4, a5⟩ := a
  obtain ⟨b1, b2, b3, b4, b5⟩ := b
  simp only [sameRow, Bool.and_eq_true, beq_iff_eq, decide_eq_true_eq] at h
  obtain ⟨rfl, rfl, rfl, rfl, rfl⟩ := h
  rfl
theorem allRows_opRow : ∀ r ∈ allRows, opRow r.code = some r := by
  have h : allRows.all (fun r => match opRow r.code with | some q => sameRow q r | none => false) = true := by decide +kernel
  intro r hr
  have := List.all_eq_true.1 h r hr
  revert this
  cases opRow r.code with
  | none => intro h; cases h
  | some q => intro h; rw [sameRow_eq h]
/-- the names are apart -/
theorem allRows_names : ∀ r ∈ allRows, ∀ q ∈ allRows, r.name = q.name → r = q := by
  have h : allRows.all (fun r => allRows.all fun q => !decide (r.name = q.name) || sameRow r q) = true := by decide +kernel
  intro r hr q hq hn
  have h1 := List.all_eq_true.1 h r hr
  have h2 := List.all_eq_true.1 h1 q hq
  simp only [hn, decide_true, Bool.not_true, Bool.false_or] at h2
  exact sameRow_eq h2
theorem opRow_mem {c : Int} {r : OpRow} (h : opRow c = some r) : r ∈ allRows := by
  have hm := opRow_code h
  have h2 : allCodes.all (fun c => match opRow c with | some q => allRows.any (sameRow q) | none => false) = true := by decide +kernel
  have h3 := List.all_eq_true.1 h2 c hm
  rw [h] at h3
  simp only [List.any_eq_true] at h3
  obtain ⟨q, hq, e⟩ := h3
  rw [sameRow_eq e]
  exact hq
/-- the op of a name -/
def namedR (s : ByteArray) : Option OpRow := allRows.find? fun r => decide (r.name = s)
theorem namedR_some {s : ByteArray} {r : OpRow} (h : namedR s = some r) : r ∈ allRows ∧ r.name = s := ⟨List.mem_of_find?_eq_some h, by have := List.find?_some h; simpa using this⟩
theorem namedR_of {r : OpRow} (h : r ∈ allRows) : namedR r.name = some r := by
  cases hn : namedR r.name with
  | none =>
    have := List.find?_eq_none.1 hn r h
    simp at this
  | some q =>
    obtain ⟨h1, h2⟩ := namedR_some hn
    rw [allRows_names q h1 r h h2]
/-- in whatever order they stand -/
theorem namedR_perm {xs : List OpRow} (hp : xs.Perm allRows) (s : ByteArray) : xs.find? (fun r => decide (r.name = s)) = namedR s := by
  cases hx : xs.find? (fun r => decide (r.name = s)) with
  | some r =>
    have h1 : r ∈ allRows := hp.mem_iff.1 (List.mem_of_find?_eq_some hx)
    have h2 : r.name = s := by have := List.find?_some hx; simpa using this
    rw [← h2, namedR_of h1]
  | none =>
    cases hn : namedR s with
    | none => rfl
    | some r =>
      obtain ⟨h1, h2⟩ := namedR_some hn
      have := List.find?_eq_none.1 hx r (hp.mem_iff.2 h1)
      simp [h2] at this
end Go.Proofs.YtpanlhbdphobdaaGreatDoor

namespace Go.Proofs.YtpanlhbdphobdaaGreatDoor
open Go.RowKit
set_option linter.unusedVariables false

theorem wordsS_join : ∀ (ts : List (List UInt8)) (x : List UInt8), (∀ y ∈ x :: ts, (32 : UInt8) ∉ y) → wordsS (Lib.join (x :: ts) [32]) = x :: ts := by
  intro ts
  induction ts with
  | nil => intro x h; rw [Lib.join_one]; exact wordsS_one (h x (by simp))
  | cons y r ih => intro x h; rw [join2, wordsS_cons (h x (by simp)), ih y (fun z hz => h z (by simp at hz ⊢; exact .inr hz))]
theorem join_len_le {m : Nat} : ∀ (ts : List (List UInt8)), (∀ y ∈ ts, y.length ≤ m) → (Lib.join ts [32]).length ≤ ts.length * (m + 1) := by
  intro ts
  induction ts with
  | nil => intro _; simp [Lib.join]
  | cons x r ih =>
    intro h
    have hx := h x (by simp)
    cases r with
    | nil => rw [Lib.join_one]; simp; omega
    | cons y r =>
      have := ih (fun z hz => h z (by simp at hz ⊢; exact .inr hz))
      rw [join2]
      simp only [List.length_append, List.length_cons, Nat.add_mul] at this ⊢
      omega

def nameOf (c : Int) : List UInt8 := match opRow c with | some r => r.name.data.toList | none => []
theorem names_txt : ∀ r ∈ allRows, (32 : UInt8) ∉ r.name.data.toList ∧ r.name.data.toList.length ≤ 20 ∧ r.name.data.toList ≠ [] := by
  have h : allRows.all (fun r => !(r.name.data.toList.contains 32) && (decide (r.name.data.toList.length ≤ 20) && !(r.name.data.toList.isEmpty))) = true := by decide +kernel
  intro r hr
  have := List.all_eq_true.1 h r hr
  simpa using this

/-- a right one's words behind its name -/
def toldX (x : XI) : List (List UInt8) :=
  if refForm x.code = 1 then (if x.a = 64 then [] else [nameL (UInt8.ofNat x.a)])
  else if refForm x.code = 2 ∨ refForm x.code = 4 ∨ refForm x.code = 6 ∨ refForm x.code = 7 ∨ refForm x.code = 9 then [x.a].map (digL 10)
  else if refForm x.code = 3 then (x.l ++ [x.a]).map (digL 10)
  else if refForm x.code = 5 ∨ refForm x.code = 10 then [x.a, x.b].map (digL 10)
  else if refForm x.code = 8 then [x.a, x.b, x.al.toNat].map (digL 10)
  else if refForm x.code = 11 then [Lib.itoa (signV (if x.code = 66 then 64 else 32) x.a)]
  else []
/-- its text -/
def printX (x : XI) : List UInt8 := if rightX x then Lib.join (nameOf x.code :: toldX x) [32] else []

theorem itoa_32 (a : Nat) (ha : a ≤ 4294967295) : Lib.itoa (signV 32 a) = if 2147483648 ≤ a then 45 :: digL 10 (4294967296 - a) else digL 10 a := by
  have e : signV 32 a = if 2147483648 ≤ a then -((4294967296 - a : Nat) : Int) else (a : Int) := by
    unfold signV
    rw [if_pos rfl]
    unfold wrap32
    split
    · omega
    · omega
  rw [e]
  split
  · rw [Lib.itoa_neg _ (by omega), decDigits_digL]
  · rw [Lib.itoa_nonneg, decDigits_digL]
theorem parse_itoa32 (a : Nat) (ha : a ≤ 4294967295) : parseF 32 (Lib.itoa (signV 32 a)) = some a := by
  rw [itoa_32 a ha]
  split
  · rw [parse_minus (.inl rfl) _ (by omega) (by simp only [Nat.reducePow, Nat.reduceSub]; omega)]
    exact congrArg some (by simp only [Nat.reducePow]; omega)
  · exact parse_digits (.inl rfl) a (by simp only [Nat.reducePow, Nat.reduceSub]; omega)
theorem itoa_space32 (a : Nat) (ha : a ≤ 4294967295) : (32 : UInt8) ∉ Lib.itoa (signV 32 a) := by
  rw [itoa_32 a ha]
  split
  · simp only [List.mem_cons, not_or]
    exact ⟨by decide, digL_no 32 (by decide) _⟩
  · exact digL_no 32 (by decide) _
theorem itoa32_len (a : Nat) (ha : a ≤ 4294967295) : (Lib.itoa (signV 32 a)).length ≤ 21 := by
  rw [itoa_32 a ha]
  split
  · have := digL10_len (4294967296 - a) (by omega)
    simp only [List.length_cons]
    omega
  · have := digL10_len a (by omega)
    omega

theorem nameL_txt (t : UInt8) : (32 : UInt8) ∉ nameL t ∧ (nameL t).length ≤ 3 := by
  unfold nameL
  split
  · decide
  · split <;> decide
/-- what a right one's form tells of it -/
theorem right_facts {x : XI} (hx : x.In) (h : rightF (refForm x.code) x = true) : x.l.length ≤ 100 ∧ (refForm x.code = 11 → x.code = 66 ∨ x.a ≤ 4294967295) ∧ (∀ n ∈ x.l, n < 18446744073709551616) := by
  refine ⟨?_, ?_, hx.l⟩
  · unfold rightF at h
    repeat' (split at h)
    all_goals first | (simp at h; omega) | (simp at h; obtain ⟨_, h⟩ := h; omega) | (cases h; done) | skip
    all_goals (simp only [Bool.and_eq_true, beq_iff_eq, decide_eq_true_eq] at h; omega)
  · intro hf
    rw [hf] at h
    simp only [rightF] at h
    simp [small] at h
    omega
theorem told_txt {x : XI} (hx : x.In) (h : rightF (refForm x.code) x = true) : (toldX x).length ≤ 101 ∧ ∀ y ∈ toldX x, (32 : UInt8) ∉ y ∧ y.length ≤ 21 := by
  obtain ⟨hl, hc, hn⟩ := right_facts hx h
  have hd : ∀ (ns : List Nat), (∀ n ∈ ns, n < 18446744073709551616) → ∀ y ∈ ns.map (digL 10), (32 : UInt8) ∉ y ∧ y.length ≤ 21 := by
    intro ns hns y hy
    obtain ⟨n, hn, rfl⟩ := List.mem_map.1 hy
    have := digL10_len n (by have := hns n hn; omega)
    exact ⟨digL_no 32 (by decide) _, by omega⟩
  have ha := hx.a
  have hb := hx.b
  have hal := hx.l2
  unfold toldX
  split
  · split
    · simp
    · simp only [List.length_singleton, List.mem_singleton]
      refine ⟨by omega, ?_⟩
      rintro y rfl
      exact ⟨(nameL_txt _).1, by have := (nameL_txt (UInt8.ofNat x.a)).2; omega⟩
  · split
    · exact ⟨by simp, hd _ (by simpa using ha)⟩
    · split
      · refine ⟨by simp; omega, hd _ ?_⟩
        intro n hn'
        rw [List.mem_append, List.mem_singleton] at hn'
        rcases hn' with hn' | rfl
        · exact hn n hn'
        · exact ha
      · split
        · exact ⟨by simp, hd _ (by simp; omega)⟩
        · split
          · exact ⟨by simp, hd _ (by simp; omega)⟩
          · split
            · rename_i hf
              refine ⟨by simp, ?_⟩
              simp only [List.mem_singleton]
              rintro y rfl
              by_cases h66 : x.code = 66
              · rw [if_pos h66]
                exact ⟨itoa_space _ (by omega), itoa64_len _ (by omega)⟩
              · rw [if_neg h66]
                have := (hc hf).resolve_left h66
                exact ⟨itoa_space32 _ this, itoa32_len _ this⟩
            · simp
theorem right_name {x : XI} (h : rightX x = true) : ∃ r, opRow x.code = some r ∧ r ∈ allRows ∧ nameOf x.code = r.name.data.toList ∧ r.form = refForm x.code ∧ r.code = x.code ∧ rightF (refForm x.code) x = true := by
  obtain ⟨r, hr, _, hf⟩ := right_some h
  obtain ⟨_, h2, _, _, _, h6⟩ := opRow_ref hr
  exact ⟨r, hr, opRow_mem hr, by unfold nameOf; rw [hr], h2, h6, hf⟩
theorem printX_words {x : XI} (hx : x.In) (h : rightX x = true) : wordsS (printX x) = nameOf x.code :: toldX x := by
  obtain ⟨r, hr, hm, hn, _, _, hf⟩ := right_name h
  unfold printX
  rw [if_pos h]
  refine wordsS_join _ _ ?_
  intro y hy
  rcases List.mem_cons.1 hy with rfl | hy
  · rw [hn]; exact (names_txt r hm).1
  · exact ((told_txt hx hf).2 y hy).1
theorem printX_len {x : XI} (hx : x.In) : (printX x).length ≤ 2300 := by
  unfold printX
  split
  · rename_i h
    obtain ⟨r, hr, hm, hn, _, _, hf⟩ := right_name h
    have h1 := told_txt hx hf
    have := join_len_le (m := 21) (nameOf x.code :: toldX x) (by
      intro y hy
      rcases List.mem_cons.1 hy with rfl | hy
      · rw [hn]; have := (names_txt r hm).2.1; omega
      · exact (h1.2 y hy).2)
    simp only [List.length_cons] at this
    omega
  · simp
theorem printX_ne {x : XI} (hx : x.In) (h : rightX x = true) : printX x ≠ [] := by
  obtain ⟨r, hr, hm, hn, _, _, hf⟩ := right_name h
  intro e
  have := printX_words hx h
  rw [e, wordsS_one (by simp)] at this
  injection this with h1 _
  rw [hn] at h1
  exact (names_txt r hm).2.2 h1.symm

/-- a number that a word was read as -/
def NumV (t : List UInt8) (v : Nat) : Prop := v < 18446744073709551616 ∧ ∀ m, m < 18446744073709551616 → t = digL 10 m → v = m
structure Nums (ts : List (List UInt8)) (ns : List Nat) : Prop where
  len : ns.length = ts.length
  at_ : ∀ (j : Nat) (t : List UInt8), ts[j]? = some t → NumV t (ns.getD j 0)
theorem Nums.nil : Nums [] [] := ⟨rfl, fun j t h => by simp at h⟩
theorem Nums.lt {ts : List (List UInt8)} {ns : List Nat} (h : Nums ts ns) (j : Nat) : ns.getD j 0 < 18446744073709551616 := by
  by_cases hj : j < ts.length
  · exact (h.at_ j _ (List.getElem?_eq_getElem hj)).1
  · rw [List.getD_eq_getElem?_getD, List.getElem?_eq_none (by have := h.len; omega)]; simp
theorem Nums.all {ts : List (List UInt8)} {ns : List Nat} (h : Nums ts ns) : ∀ n ∈ ns, n < 18446744073709551616 := by
  intro n hn
  obtain ⟨j, hj, rfl⟩ := List.mem_iff_getElem.1 hn
  have := h.lt j
  rw [List.getD_eq_getElem?_getD, List.getElem?_eq_getElem hj] at this
  exact this
theorem Nums.push {ts : List (List UInt8)} {ns : List Nat} (h : Nums ts ns) {t : List UInt8} {v : Nat} (hv : NumV t v) : Nums (ts ++ [t]) (ns ++ [v]) := by
  refine ⟨by simp [h.len], ?_⟩
  intro j u hu
  have hl := h.len
  by_cases hj : j < ts.length
  · rw [List.getElem?_append_left hj] at hu
    have := h.at_ j u hu
    rw [List.getD_eq_getElem?_getD, List.getElem?_append_left (by omega), ← List.getD_eq_getElem?_getD]
    exact this
  · rw [List.getElem?_append_right (by omega)] at hu
    have hj0 : j - ts.length = 0 := by
      apply Decidable.byContradiction
      intro hne
      rw [List.getElem?_eq_none (by simp; omega)] at hu
      cases hu
    rw [hj0] at hu
    simp at hu
    subst hu
    rw [List.getD_eq_getElem?_getD, List.getElem?_append_right (by omega), show j - ns.length = 0 from by omega]
    exact hv
theorem Nums.of_map {ms ns : List Nat} (h : Nums (ms.map (digL 10)) ns) (hm : ∀ n ∈ ms, n < 18446744073709551616) : ns = ms := by
  have hl := h.len
  rw [List.length_map] at hl
  apply List.ext_getElem hl
  intro j h1 h2
  have := (h.at_ j (digL 10 ms[j]) (by rw [List.getElem?_map, List.getElem?_eq_getElem h2]; rfl)).2 ms[j] (hm _ (List.getElem_mem h2)) rfl
  rw [List.getD_eq_getElem?_getD, List.getElem?_eq_getElem h1] at this
  exact this

def typedL (ts : List (List UInt8)) : Nat := if ts = [nameL 127] then 127 else if ts = [nameL 126] then 126 else 64
/-- the instruction of a name and words -/
def buildX (r : OpRow) (ts : List (List UInt8)) (ns : List Nat) : XI :=
  if r.form = 1 then ⟨r.code, typedL ts, 0, 0, []⟩
  else if r.form = 2 ∨ r.form = 4 ∨ r.form = 6 ∨ r.form = 7 ∨ r.form = 9 then ⟨r.code, ns.getD 0 0, 0, 0, []⟩
  else if r.form = 3 then ⟨r.code, ns.getD (ns.length - 1) 0, 0, 0, ns.take (ns.length - 1)⟩
  else if r.form = 5 ∨ r.form = 10 then ⟨r.code, ns.getD 0 0, ns.getD 1 0, 0, []⟩
  else if r.form = 8 then ⟨r.code, ns.getD 0 0, ns.getD 1 0, (min (ns.getD 2 0) 31 : Nat), []⟩
  else if r.form = 11 then ⟨r.code, (parseF (if r.code = 66 then 64 else 32) (Lib.join ts [32])).getD 0, 0, 0, []⟩
  else ⟨r.code, 0, 0, 0, []⟩
theorem parseF_lt {k : Nat} (hk : k = 32 ∨ k = 64) {bs : List UInt8} {v : Nat} (h : parseF k bs = some v) : v < 18446744073709551616 := by
  unfold parseF at h
  have hm : 16 ≤ 2 ^ k - 1 := by rcases hk with rfl | rfl <;> simp
  split at h
  · have h1 := ((readNL_iff (by omega) (by omega) hm _ _).1 h).2
    have : 2 ^ k - 1 < 18446744073709551616 := by rcases hk with rfl | rfl <;> simp
    omega
  · have h1 := tensF_le hk h
    have : mostK k < 18446744073709551616 := by rcases hk with rfl | rfl <;> simp [mostK]
    omega
theorem parseF_getD (k : Nat) (hk : k = 32 ∨ k = 64) (bs : List UInt8) : (parseF k bs).getD 0 < 18446744073709551616 := by
  cases h : parseF k bs with
  | none => simp
  | some v => exact parseF_lt hk h
theorem build_in (r : OpRow) (hr : r ∈ allRows) (ts : List (List UInt8)) (ns : List Nat) (h : Nums ts ns) : (buildX r ts ns).In := by
  have hc := allRows_code r hr
  have h0 := h.lt 0
  have h1 := h.lt 1
  have h2 := h.lt (ns.length - 1)
  have hall := h.all
  have hp := parseF_getD (if r.code = 66 then 64 else 32) (by split <;> simp) (Lib.join ts [32])
  have ht : typedL ts < 18446744073709551616 := by
    unfold typedL
    split
    · omega
    · split <;> omega
  have hp64 := parseF_getD 64 (.inr rfl) (Lib.join ts [32])
  have hp32 := parseF_getD 32 (.inl rfl) (Lib.join ts [32])
  unfold buildX
  repeat' split
  all_goals exact ⟨by simp only; omega, by simp only; omega, by simp only; omega, by simp only; omega, by simp only; omega, by simp only; omega, by first | (simp; done) | exact fun n hn => hall n (List.mem_of_mem_take hn)⟩
theorem xi_ext {c : Int} {a b : Nat} {al : Int} {l : List Nat} {x : XI} (h1 : c = x.code) (h2 : a = x.a) (h3 : b = x.b) (h4 : al = x.al) (h5 : l = x.l) : (⟨c, a, b, al, l⟩ : XI) = x := by
  subst h1; subst h2; subst h3; subst h4; subst h5; rfl
/-- a right one's words are it again -/
theorem build_back {x : XI} {r : OpRow} (hx : x.In) (h : rightF (refForm x.code) x = true) (hf : r.form = refForm x.code) (hc : r.code = x.code) {ns : List Nat} (hn : Nums (toldX x) ns) : buildX r (toldX x) ns = x := by
  obtain ⟨hl, h11, hln⟩ := right_facts hx h
  have ha := hx.a
  have hb := hx.b
  have hal := hx.l2
  unfold buildX
  rw [hf]
  unfold toldX at hn ⊢
  unfold rightF at h
  by_cases f0 : refForm x.code = 0
  · rw [f0] at h ⊢
    simp at h ⊢
    exact xi_ext hc h.1.symm h.2.1.symm h.2.2.1.symm h.2.2.2.symm
  rw [if_neg f0] at h
  by_cases f1 : refForm x.code = 1
  · rw [if_pos f1] at h hn
    rw [if_pos f1, if_pos f1]
    simp only [Bool.and_eq_true, beq_iff_eq, List.length_eq_zero_iff] at h
    refine xi_ext hc ?_ h.2.1.symm h.2.2.1.symm h.2.2.2.symm
    have hbl := h.1
    unfold blocked at hbl
    simp only [Bool.or_eq_true, beq_iff_eq] at hbl
    rcases hbl with (e | e) | e <;> rw [e] <;> decide
  rw [if_neg f1] at h hn
  rw [if_neg f1, if_neg f1]
  by_cases f2 : refForm x.code = 2 ∨ refForm x.code = 4 ∨ refForm x.code = 6 ∨ refForm x.code = 7 ∨ refForm x.code = 9
  · rw [if_pos f2] at h hn
    rw [if_pos f2]
    simp only [Bool.and_eq_true, beq_iff_eq, List.length_eq_zero_iff] at h
    have := hn.of_map (by simpa using ha)
    subst this
    exact xi_ext hc rfl h.2.1.symm h.2.2.1.symm h.2.2.2.symm
  rw [if_neg f2] at h hn
  rw [if_neg f2, if_neg f2]
  by_cases f3 : refForm x.code = 3
  · rw [if_pos f3] at h hn
    rw [if_pos f3]
    simp only [Bool.and_eq_true, beq_iff_eq, decide_eq_true_eq] at h
    have := hn.of_map (by intro n hn'; rw [List.mem_append, List.mem_singleton] at hn'; rcases hn' with hn' | rfl; exact hln n hn'; exact ha)
    subst this
    refine xi_ext hc ?_ h.2.2.2.1.symm h.2.2.2.2.symm ?_
    · simp
    · simp
  rw [if_neg f3] at h hn
  rw [if_neg f3, if_neg f3]
  by_cases f5 : refForm x.code = 5 ∨ refForm x.code = 10
  · rw [if_pos f5] at h hn
    rw [if_pos f5]
    simp only [Bool.and_eq_true, beq_iff_eq, List.length_eq_zero_iff] at h
    have := hn.of_map (by simp; omega)
    subst this
    exact xi_ext hc rfl rfl h.2.2.1.symm h.2.2.2.symm
  rw [if_neg f5] at h hn
  rw [if_neg f5, if_neg f5]
  by_cases f8 : refForm x.code = 8
  · rw [if_pos f8] at h hn
    rw [if_pos f8]
    simp only [Bool.and_eq_true, beq_iff_eq, decide_eq_true_eq, List.length_eq_zero_iff] at h
    have := hn.of_map (by simp; omega)
    subst this
    refine xi_ext hc rfl rfl ?_ h.2.2.2.symm
    show ((min x.al.toNat 31 : Nat) : Int) = x.al
    omega
  rw [if_neg f8] at h hn
  rw [if_neg f8, if_neg f8]
  by_cases f11 : refForm x.code = 11
  · rw [if_pos f11] at h hn
    rw [if_pos f11, if_pos f11]
    simp only [Bool.and_eq_true, beq_iff_eq, List.length_eq_zero_iff] at h
    refine xi_ext hc ?_ h.2.1.symm h.2.2.1.symm h.2.2.2.symm
    rw [hc, Lib.join_one]
    by_cases h66 : x.code = 66
    · rw [if_pos h66, if_pos h66, parse_itoa _ (by omega)]; rfl
    · have := (h11 f11).resolve_left h66
      rw [if_neg h66, if_neg h66, parse_itoa32 _ this]; rfl
  rw [if_neg f11] at h
  cases h
/-- what Parse answers -/
structure ParsedX (s : List UInt8) (x : XI) (ok : Bool) : Prop where
  in_ : x.In
  yes : ok = true → rightX x = true ∧ printX x = s
  back : ∀ y : XI, y.In → rightX y = true → printX y = s → ok = true ∧ x = y
theorem parsed_none {s : List UInt8} {w0 : List UInt8} {ts : List (List UInt8)} (hw : wordsS s = w0 :: ts) (hn : namedR ⟨w0.toArray⟩ = none) (x : XI) (hx : x.In) : ParsedX s x false := by
  refine ⟨hx, fun h => (by cases h), ?_⟩
  intro y hy hr hp
  obtain ⟨r, hr1, hm, hnm, _, _, hf⟩ := right_name hr
  have := printX_words hy hr
  rw [hp, hw] at this
  injection this with h1 _
  rw [h1, hnm] at hn
  have h2 := namedR_of hm
  rw [show (⟨r.name.data.toList.toArray⟩ : ByteArray) = r.name from by simp] at hn
  rw [h2] at hn
  cases hn
theorem parsed_some {s : List UInt8} {w0 : List UInt8} {ts : List (List UInt8)} (hw : wordsS s = w0 :: ts) {r : OpRow} (hn : namedR ⟨w0.toArray⟩ = some r) {ns : List Nat} (h : Nums ts ns) {q : Bool} (hq : decide (printX (buildX r ts ns) = s) = q) : ParsedX s (buildX r ts ns) q := by
  obtain ⟨hm, hnm⟩ := namedR_some hn
  refine ⟨build_in r hm ts ns h, ?_, ?_⟩
  · intro h1
    subst h1
    have hp : printX (buildX r ts ns) = s := by simpa using hq
    refine ⟨?_, hp⟩
    apply Decidable.byContradiction
    intro hnr
    unfold printX at hp
    rw [if_neg hnr] at hp
    subst hp
    rw [wordsS_one (by simp)] at hw
    injection hw with h1 _
    have := (names_txt r hm).2.2
    rw [hnm, ← h1] at this
    exact this rfl
  · intro y hy hr hp
    obtain ⟨r2, hr2, hm2, hnm2, hf2, hc2, hf⟩ := right_name hr
    have hwy := printX_words hy hr
    rw [hp, hw] at hwy
    injection hwy with h1 h2
    have e : r2 = r := by
      apply allRows_names r2 hm2 r hm
      rw [hnm, h1, hnm2]
    subst e
    have hb := build_back (r := r2) hy hf hf2 hc2 (ns := ns) (by rw [← h2]; exact h)
    rw [← h2] at hb
    rw [hb, hp] at hq
    refine ⟨?_, hb⟩
    rw [← hq]
    simp
end Go.Proofs.YtpanlhbdphobdaaGreatDoor
