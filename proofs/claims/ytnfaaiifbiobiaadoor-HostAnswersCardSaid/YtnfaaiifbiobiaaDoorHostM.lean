/-
  host's laws: rules and asks that came in.
-/
import Derived.Test.YtnfaaiifbiobiaaDoorHostL
import Derived.Test.YtnfaaiifbiobiaaDoorOpens
import Derived.Test.YtnfaaiifbiobiaaDoorRegionC
namespace Go.Proofs.YtnfaaiifbiobiaaDoor
open Go.RowKit
set_option linter.unusedVariables false

abbrev RuleT := ByteArray × ByteArray × Int × Int × Unit
def ruleD (p : RuleT) : List Value := [.string p.1] ++ ([.string p.2.1] ++ ([.int .i64 p.2.2.1] ++ ([.int .u64 p.2.2.2.1] ++ [])))
def ruleOk (p : RuleT) : Prop := p.1.size ≤ maxLen ∧ p.2.1.size ≤ maxLen ∧ (Lit.int .i64 p.2.2.1).wf = true ∧ (Lit.int .u64 p.2.2.2.1).wf = true ∧ True
set_option maxRecDepth 100000 in
theorem rules_o {H : Type} {enc : TypeId × Value → H} {w : World} : Opens enc Tryd.prog w 22 (fun s : Sl RuleT => [s.val]) (Sl.Ok w ruleD 4 48 ruleOk) :=
  Opens.slice Tryd.underlying22 (by kernel_rfl) (by kernel_rfl) (by omega) (fun _ => rfl)
    (Opens.struct Tryd.underlying28 (by kernel_rfl) (OpensF.cons (k := 1) rfl (by kernel_rfl) (Opens.str Tryd.underlying9) (OpensF.cons (k := 1) rfl (by kernel_rfl) (Opens.str Tryd.underlying9) (OpensF.cons (k := 1) rfl (by kernel_rfl) (Opens.int Tryd.underlying3) (OpensF.cons (k := 1) rfl (by kernel_rfl) (Opens.int Tryd.underlying26) OpensF.nil)))))
abbrev AskT := (ByteArray × ByteArray × Int × Unit) × Sl Int × Sl Int × Unit
def askD (p : AskT) : List Value := ([.string p.1.1] ++ ([.string p.1.2.1] ++ ([.int .i64 p.1.2.2.1] ++ []))) ++ ([p.2.1.val] ++ ([p.2.2.1.val] ++ []))
def askOk (w : World) (p : AskT) : Prop := (p.1.1.size ≤ maxLen ∧ p.1.2.1.size ≤ maxLen ∧ (Lit.int .i64 p.1.2.2.1).wf = true ∧ True) ∧ Sl.Ok w (fun n : Int => [.int .u8 n]) 1 1 (fun n => (Lit.int .u8 n).wf = true) p.2.1 ∧ Sl.Ok w (fun n : Int => [.int .u64 n]) 1 8 (fun n => (Lit.int .u64 n).wf = true) p.2.2.1 ∧ True
set_option maxRecDepth 100000 in
theorem asks_o {H : Type} {enc : TypeId × Value → H} {w : World} : Opens enc Tryd.prog w 23 (fun s : Sl AskT => [s.val]) (Sl.Ok w askD 5 88 (askOk w)) :=
  Opens.slice Tryd.underlying23 (by kernel_rfl) (by kernel_rfl) (by omega) (fun _ => rfl)
    (Opens.struct Tryd.underlying39 (by kernel_rfl)
      (OpensF.cons (k := 3) rfl (by kernel_rfl) (Opens.struct Tryd.underlying35 (by kernel_rfl) (OpensF.cons (k := 1) rfl (by kernel_rfl) (Opens.str Tryd.underlying9) (OpensF.cons (k := 1) rfl (by kernel_rfl) (Opens.str Tryd.underlying9) (OpensF.cons (k := 1) rfl (by kernel_rfl) (Opens.int Tryd.underlying3) OpensF.nil))))
        (OpensF.cons (k := 1) rfl (by kernel_rfl) (Opens.slice (size := 1) (bytes := 1) Tryd.underlying36 (by kernel_rfl) (by kernel_rfl) (by omega) (fun _ => rfl) (Opens.int Tryd.underlying5))
          (OpensF.cons (k := 1) rfl (by kernel_rfl) (Opens.slice (size := 1) (bytes := 8) Tryd.underlying37 (by kernel_rfl) (by kernel_rfl) (by omega) (fun _ => rfl) (Opens.int Tryd.underlying26)) OpensF.nil))))

def toHR (p : RuleT) : HR := ⟨p.1.data.toList, p.2.1.data.toList, p.2.2.1, p.2.2.2.1.toNat⟩
theorem wf_u64 {n : Int} (h : (Lit.int .u64 n).wf = true) : 0 ≤ n ∧ n ≤ 18446744073709551615 := by
  simpa [Lit.wf, IntKind.min, IntKind.max, IntKind.signed, IntKind.bits] using h
theorem wf_u8 {n : Int} (h : (Lit.int .u8 n).wf = true) : 0 ≤ n ∧ n ≤ 255 := by
  simpa [Lit.wf, IntKind.min, IntKind.max, IntKind.signed, IntKind.bits] using h
theorem hrV_to {p : RuleT} (h : ruleOk p) : hrV (toHR p) = ruleD p := by
  obtain ⟨_, _, _, h4, _⟩ := h
  have := wf_u64 h4
  unfold hrV toHR ruleD
  simp only [List.cons_append, List.nil_append]
  rw [show ((p.2.2.2.1.toNat : Nat) : Int) = p.2.2.2.1 from by omega]
theorem fm_congr {α β : Type} {f : α → β} {d : α → List Value} {e : β → List Value} : ∀ (l : List α), (∀ a ∈ l, e (f a) = d a) → (l.map f).flatMap e = l.flatMap d := by
  intro l
  induction l with
  | nil => intro _; rfl
  | cons a r ih =>
    intro h
    rw [List.map_cons, List.flatMap_cons, List.flatMap_cons, h a (by simp), ih (fun b hb => h b (by simp [hb]))]
/-- rules that came in -/
theorem rules_in {w : World} {s : Sl RuleT} (h : Sl.Ok w ruleD 4 48 ruleOk s) : ∃ rs : List HR, rs.length = s.l.length ∧ Reads w w.heap.size 4 s.at_ rs.length (rs.flatMap hrV) ∧ Fair rs := by
  refine ⟨s.l.map toHR, by simp, ?_, ?_⟩
  · rw [List.length_map, fm_congr s.l (fun a ha => hrV_to (h.all a ha))]
    exact h.reads
  · intro r hr
    obtain ⟨p, hp, rfl⟩ := List.mem_map.1 hr
    obtain ⟨h1, h2, _, h4, _⟩ := h.all p hp
    have := wf_u64 h4
    unfold maxLen at h1 h2
    refine ⟨?_, ?_, ?_⟩
    · show p.1.size ≤ _; omega
    · show p.2.1.size ≤ _; omega
    · show p.2.2.2.1.toNat ≤ _; omega

/-- an ask -/
structure AK where
  m : List UInt8
  n : List UInt8
  sg : Int
  Ar : Option Addr
  cr : Nat
  ts : List UInt8
  Ag : Option Addr
  cg : Nat
  gs : List Nat
def akV (a : AK) : List Value := [.string ⟨a.m.toArray⟩, .string ⟨a.n.toArray⟩, .int .i64 a.sg, .slice a.Ar a.ts.length a.cr, .slice a.Ag a.gs.length a.cg]
structure AsksOk (w : World) (Bk : Nat) (A : Option Addr) (as_ : List AK) : Prop where
  row : Reads w Bk 5 A as_.length (as_.flatMap akV)
  ins : ∀ a ∈ as_, Reads w Bk 1 a.Ar a.ts.length (a.ts.map B) ∧ Reads w Bk 1 a.Ag a.gs.length (a.gs.map U) ∧ ∀ g ∈ a.gs, g ≤ 18446744073709551615
theorem AsksOk.below {w w' : World} {Bk : Nat} {A : Option Addr} {as_ : List AK} (h : AsksOk w Bk A as_) (hb : Below Bk w w') : AsksOk w' Bk A as_ :=
  ⟨h.row.below hb, fun a ha => ⟨(h.ins a ha).1.below hb, (h.ins a ha).2.1.below hb, (h.ins a ha).2.2⟩⟩
theorem bytes_in {w : World} {Bk : Nat} {A : Option Addr} {l : List Int} (hl : ∀ n ∈ l, (Lit.int .u8 n).wf = true) (h : Reads w Bk 1 A l.length (l.flatMap fun n : Int => [.int .u8 n])) : Reads w Bk 1 A (l.map fun n => UInt8.ofNat n.toNat).length ((l.map fun n => UInt8.ofNat n.toNat).map B) := by
  rw [List.length_map]
  have : (l.map fun n => UInt8.ofNat n.toNat).map B = l.flatMap fun n : Int => [.int .u8 n] := by
    rw [List.map_map, ← List.map_eq_flatMap]
    refine List.map_congr_left fun n hn => ?_
    have hb := wf_u8 (hl n hn)
    have := B_ofNat n.toNat (by omega)
    rw [show ((n.toNat : Nat) : Int) = n from by omega] at this
    exact this.symm
  rw [this]
  exact h
theorem words_in {w : World} {Bk : Nat} {A : Option Addr} {l : List Int} (hl : ∀ n ∈ l, (Lit.int .u64 n).wf = true) (h : Reads w Bk 1 A l.length (l.flatMap fun n : Int => [.int .u64 n])) : Reads w Bk 1 A (l.map Int.toNat).length ((l.map Int.toNat).map U) := by
  rw [List.length_map]
  have : (l.map Int.toNat).map U = l.flatMap fun n : Int => [.int .u64 n] := by
    rw [List.map_map, ← List.map_eq_flatMap]
    refine List.map_congr_left fun n hn => ?_
    have hb := wf_u64 (hl n hn)
    show Value.int .u64 ((n.toNat : Nat) : Int) = _
    rw [show ((n.toNat : Nat) : Int) = n from by omega]
  rw [this]
  exact h
def toAK (p : AskT) : AK := ⟨p.1.1.data.toList, p.1.2.1.data.toList, p.1.2.2.1, p.2.1.at_, p.2.1.cap, p.2.1.l.map fun n => UInt8.ofNat n.toNat, p.2.2.1.at_, p.2.2.1.cap, p.2.2.1.l.map Int.toNat⟩
theorem akV_to (p : AskT) : akV (toAK p) = askD p := by
  unfold akV toAK askD Sl.val
  simp only [List.cons_append, List.nil_append, List.length_map]
/-- asks that came in -/
theorem asks_in {w : World} {s : Sl AskT} (h : Sl.Ok w askD 5 88 (askOk w) s) : ∃ as_ : List AK, as_.length = s.l.length ∧ AsksOk w w.heap.size s.at_ as_ := by
  refine ⟨s.l.map toAK, by simp, ?_, ?_⟩
  · rw [List.length_map, fm_congr s.l (fun a _ => akV_to a)]
    exact h.reads
  · intro a ha
    obtain ⟨p, hp, rfl⟩ := List.mem_map.1 ha
    obtain ⟨_, h1, h2, _⟩ := h.all p hp
    refine ⟨bytes_in h1.all h1.reads, words_in h2.all h2.reads, ?_⟩
    intro g hg
    obtain ⟨n, hn, rfl⟩ := List.mem_map.1 hg
    have := wf_u64 (h2.all n hn)
    omega
theorem akV_len (a : AK) : (akV a).length = 5 := rfl
/-- one ask of those that lie there -/
theorem ask_at {w : World} {Bk : Nat} {A : Option Addr} {as_ : List AK} (h : AsksOk w Bk A as_) {i : Nat} (hi : i < as_.length) :
    ∃ (ad : Addr) (a : AK), A = some ad ∧ Hid (as_[i]? = some a) ∧ w.cell? (ad.add (i * 5)) = some (.string ⟨a.m.toArray⟩) ∧ w.cell? ⟨(ad.add (i * 5)).block, (ad.add (i * 5)).off + 1, none⟩ = some (.string ⟨a.n.toArray⟩) ∧
      w.cell? ⟨(ad.add (i * 5)).block, (ad.add (i * 5)).off + 2, none⟩ = some (.int .i64 a.sg) ∧ w.cell? ⟨(ad.add (i * 5)).block, (ad.add (i * 5)).off + 3, none⟩ = some (.slice a.Ar a.ts.length a.cr) ∧
      w.cell? ⟨(ad.add (i * 5)).block, (ad.add (i * 5)).off + 4, none⟩ = some (.slice a.Ag a.gs.length a.cg) ∧ Hid (ad.block < Bk) ∧
      Hid (Reads w Bk 1 a.Ar a.ts.length (a.ts.map B)) ∧ Hid (Reads w Bk 1 a.Ag a.gs.length (a.gs.map U)) ∧ Hid (∀ g ∈ a.gs, g ≤ 18446744073709551615) := by
  obtain ⟨ad, h1, hb, h2⟩ := h.row.2 (by omega)
  have hg := List.getElem?_eq_getElem hi
  have hk : ∀ j, j < 5 → ∀ u, (akV as_[i])[j]? = some u → w.cell? ((ad.add (i * 5)).add j) = some u := by
    intro j hj u hu
    rw [add_of_add]
    refine h2 _ _ ?_
    rw [fm_get akV_len as_ i j _ hg hj]
    exact hu
  obtain ⟨i1, i2, i3⟩ := h.ins as_[i] (List.getElem_mem hi)
  refine ⟨ad, as_[i], h1, hg, ?_, ?_, ?_, ?_, ?_, hb, i1, i2, i3⟩
  · have := hk 0 (by omega) _ rfl
    rw [show (ad.add (i * 5)).add 0 = ad.add (i * 5) from by simp [Addr.add]] at this
    exact this
  · rw [← add_pos' _ 1 (by omega)]; exact hk 1 (by omega) _ rfl
  · rw [← add_pos' _ 2 (by omega)]; exact hk 2 (by omega) _ rfl
  · rw [← add_pos' _ 3 (by omega)]; exact hk 3 (by omega) _ rfl
  · rw [← add_pos' _ 4 (by omega)]; exact hk 4 (by omega) _ rfl
end Go.Proofs.YtnfaaiifbiobiaaDoor
