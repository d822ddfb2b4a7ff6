/-
  Law 11: what the laws' arguments are, and what the listed variables hold.
-/
import Derived.Test.YtpanlhbdphobdaaGreatDoorFaBP
import Derived.Test.YtpanlhbdphobdaaGreatDoorFaBQ
namespace Go.Proofs.YtpanlhbdphobdaaGreatDoor
open Go.RowKit
set_option linter.unusedVariables false

/-- what the listed variables hold, one by one -/
structure LaidLF (w : World) : Prop where
  p10 : Tab w
  db : Tab2 w
  syn : ∃ tp p, w.cell? ⟨1, 0, none⟩ = some (.iface tp p)
  rng : ∃ tp p, w.cell? ⟨2, 0, none⟩ = some (.iface tp p)
  ml : ∃ m, w.cell? ⟨0, 0, none⟩ = some (.int .i64 m)
theorem LaidLF.i {w : World} (h : LaidLF w) : LaidI w := ⟨⟨h.p10, h.db, h.syn, h.rng⟩, h.ml⟩

theorem wfU {n : Int} (h : (Lit.int .u64 n).wf = true) : 0 ≤ n ∧ n ≤ 18446744073709551615 := by
  simpa [Lit.wf, IntKind.min, IntKind.max, IntKind.signed, IntKind.bits] using h
theorem wfI {n : Int} (h : (Lit.int .i64 n).wf = true) : -9223372036854775808 ≤ n ∧ n ≤ 9223372036854775807 := by
  simpa [Lit.wf, IntKind.min, IntKind.max, IntKind.signed, IntKind.bits] using h
def riX (x : RI) : XI := ⟨x.1, x.2.1.toNat, x.2.2.1.toNat, x.2.2.2.1, x.2.2.2.2.1.l.map Int.toNat⟩
theorem riX_len (x : RI) : (riX x).l.length = x.2.2.2.2.1.l.length := by simp [riX]
theorem riX_in {w : World} {x : RI} (h : riOk w x) : (riX x).In := by
  obtain ⟨h1, h2, h3, h4, h5, _⟩ := h
  have a := wfI h1; have b := wfU h2; have c := wfU h3; have d := wfI h4
  refine ⟨a.1, a.2, ?_, ?_, d.1, d.2, ?_⟩
  · show x.2.1.toNat < _; omega
  · show x.2.2.1.toNat < _; omega
  · intro n hn
    obtain ⟨m, hm, rfl⟩ := List.mem_map.1 hn
    have := wfU (h5.all m hm)
    omega
theorem u64D_flat (l : List Int) (h : ∀ n ∈ l, 0 ≤ n) : l.flatMap u64D = (l.map Int.toNat).map U := by
  induction l with
  | nil => rfl
  | cons n r ih =>
    rw [List.flatMap_cons, ih (fun m hm => h m (by simp [hm]))]
    have h0 := h n (by simp)
    simp only [u64D, List.map_cons, List.singleton_append, U]
    rw [show ((n.toNat : Nat) : Int) = n from by omega]
theorem riX_reads {w : World} {x : RI} (h : riOk w x) : Reads w w.heap.size 1 x.2.2.2.2.1.at_ (riX x).l.length ((riX x).l.map U) := by
  have h5 := h.2.2.2.2.1
  have := h5.reads
  rw [u64D_flat _ (fun n hn => (wfU (h5.all n hn)).1)] at this
  rw [riX_len]
  exact this
theorem riX_D {w : World} {x : RI} (h : riOk w x) : (riD x).toArray = #[.int .i64 (riX x).code, .int .u64 ((riX x).a : Int), .int .u64 ((riX x).b : Int), .int .i64 (riX x).al, .slice x.2.2.2.2.1.at_ (riX x).l.length x.2.2.2.2.1.cap] := by
  obtain ⟨h1, h2, h3, h4, h5, _⟩ := h
  have b := wfU h2; have c := wfU h3
  have e2 : ((riX x).a : Int) = x.2.1 := by show ((x.2.1.toNat : Nat) : Int) = _; omega
  have e3 : ((riX x).b : Int) = x.2.2.1 := by show ((x.2.2.1.toNat : Nat) : Int) = _; omega
  rw [e2, e3, riX_len]
  rfl
theorem riX_bd {w : World} {x : RI} (h : riOk w x) : (riX x).l.length ≤ 9223372036854775807 := by
  have := h.2.2.2.2.1.reach
  rw [riX_len]
  omega
set_option maxRecDepth 100000 in
theorem riX_opens {H : Type} {enc : TypeId × Value → H} {w : World} : Opens enc Tryz.prog w 25 riD (riOk w) :=
  Opens.struct Tryz.underlying25 (by kernel_rfl) (OpensF.cons (k := 1) rfl (by kernel_rfl) (Opens.int Tryz.underlying3) (OpensF.cons (k := 1) rfl (by kernel_rfl) (Opens.int Tryz.underlying22) (OpensF.cons (k := 1) rfl (by kernel_rfl) (Opens.int Tryz.underlying22)
      (OpensF.cons (k := 1) rfl (by kernel_rfl) (Opens.int Tryz.underlying3) (OpensF.cons (k := 1) rfl (by kernel_rfl) (Opens.slice (size := 1) (bytes := 8) Tryz.underlying23 (by kernel_rfl) (by kernel_rfl) (by omega) (fun _ => rfl) (Opens.int Tryz.underlying22)) OpensF.nil)))))
set_option maxRecDepth 100000 in
theorem run_uptoB (A : Option Addr) (n c k : Nat) (hk : k ≤ n) (hn : n ≤ c) (W : World) : (Instr.sliceAt 39 (.slice A n c) none (some (.int .i64 k)) none).run Tryz.prog W = .ok (.slice A k c) W := by
  have hk0 : (0 : Int) ≤ (k : Int) := by omega
  have hkc : (k : Int) ≤ (c : Int) := by omega
  have hm : A.map (fun x => x.add 0) = A := by cases A <;> simp [Addr.add]
  go_simp
theorem run_textB {w : World} {Bk : Nat} {A : Option Addr} {bs : List UInt8} (c : Nat) (h : Reads w Bk 1 A bs.length (bs.map B)) : (convert 39 9 (.slice A bs.length c)).run Tryz.prog w = .ok (.string ⟨bs.toArray⟩) w :=
  run_string_reads (bs := bs) _ _ 5 c Tryz.underlying39 Tryz.underlying5 Tryz.underlying9 h
end Go.Proofs.YtpanlhbdphobdaaGreatDoor
