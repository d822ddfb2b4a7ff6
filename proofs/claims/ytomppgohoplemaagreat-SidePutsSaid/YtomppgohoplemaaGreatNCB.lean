import Derived.Test.YtomppgohoplemaaGreatNAB
import Derived.Test.YtomppgohoplemaaGreatNAK
import Derived.Test.YtomppgohoplemaaGreatNAH
import Derived.Test.YtomppgohoplemaaGreatNBS
import Derived.Test.YtomppgohoplemaaGreatNCA
import Derived.BigQuiet
import Derived.Deep.CutBlock
import Derived.Deep.DeepCutAuto
import Derived.IntWalk
import Derived.Lib.MinMax
import Derived.RowKit
namespace Go.Proofs.YtomppgohoplemaaGreat
section
open Go.RowKit
set_option linter.unusedVariables false
def byD (n : Int) : List Value := [.int .u8 n]
def byOk (n : Int) : Prop := (Lit.int .u8 n).wf = true
abbrev RIA := Int × Int × Int × Int × Sl Int × Unit
def wdD (n : Int) : List Value := [.int .u64 n]
def wdOk (n : Int) : Prop := (Lit.int .u64 n).wf = true
def nmD (n : Int) : List Value := [.int .i64 n]
def nmOk (n : Int) : Prop := (Lit.int .i64 n).wf = true
def riaD (x : RIA) : List Value := [.int .i64 x.1] ++ ([.int .u64 x.2.1] ++ ([.int .u64 x.2.2.1] ++ ([.int .i64 x.2.2.2.1] ++ ([x.2.2.2.2.1.val] ++ []))))
def riaOk (w : World) (x : RIA) : Prop := (Lit.int .i64 x.1).wf = true ∧ (Lit.int .u64 x.2.1).wf = true ∧ (Lit.int .u64 x.2.2.1).wf = true ∧ (Lit.int .i64 x.2.2.2.1).wf = true ∧ x.2.2.2.2.1.Ok w wdD 1 8 wdOk ∧ True
abbrev SgA := Sl Int × Sl Int × Unit
def sgD (x : SgA) : List Value := [x.1.val] ++ ([x.2.1.val] ++ [])
def sgOk (w : World) (x : SgA) : Prop := x.1.Ok w byD 1 1 byOk ∧ x.2.1.Ok w byD 1 1 byOk ∧ True
abbrev ImA := ByteArray × ByteArray × Int × Unit
def imD (x : ImA) : List Value := [.string x.1] ++ ([.string x.2.1] ++ ([.int .i64 x.2.2.1] ++ []))
def imOk (x : ImA) : Prop := x.1.size ≤ 140737488351232 ∧ x.2.1.size ≤ 140737488351232 ∧ (Lit.int .i64 x.2.2.1).wf = true ∧ True
abbrev BdA := Sl Int × Sl RIA × Unit
def bdD (x : BdA) : List Value := [x.1.val] ++ ([x.2.1.val] ++ [])
def bdOk (w : World) (x : BdA) : Prop := x.1.Ok w byD 1 1 byOk ∧ x.2.1.Ok w riaD 5 56 (riaOk w) ∧ True
abbrev FnA := Int × BdA × Unit
def fnD (x : FnA) : List Value := [.int .i64 x.1] ++ (bdD x.2.1 ++ [])
def fnOk (w : World) (x : FnA) : Prop := (Lit.int .i64 x.1).wf = true ∧ bdOk w x.2.1 ∧ True
abbrev LmA := Int × Int × Bool × Unit
def lmD (x : LmA) : List Value := [.int .i64 x.1] ++ ([.int .i64 x.2.1] ++ ([.bool x.2.2.1] ++ []))
def lmOk (x : LmA) : Prop := (Lit.int .i64 x.1).wf = true ∧ (Lit.int .i64 x.2.1).wf = true ∧ True ∧ True
abbrev GlA := Int × Bool × Int × Unit
def glD (x : GlA) : List Value := [.int .u8 x.1] ++ ([.bool x.2.1] ++ ([.int .u64 x.2.2.1] ++ []))
def glOk (x : GlA) : Prop := (Lit.int .u8 x.1).wf = true ∧ True ∧ (Lit.int .u64 x.2.2.1).wf = true ∧ True
abbrev ExA := ByteArray × Int × Int × Unit
def exD (x : ExA) : List Value := [.string x.1] ++ ([.int .i64 x.2.1] ++ ([.int .i64 x.2.2.1] ++ []))
def exOk (x : ExA) : Prop := x.1.size ≤ 140737488351232 ∧ (Lit.int .i64 x.2.1).wf = true ∧ (Lit.int .i64 x.2.2.1).wf = true ∧ True
abbrev ElA := Int × Sl Int × Unit
def elD (x : ElA) : List Value := [.int .u64 x.1] ++ ([x.2.1.val] ++ [])
def elOk (w : World) (x : ElA) : Prop := (Lit.int .u64 x.1).wf = true ∧ x.2.1.Ok w nmD 1 8 nmOk ∧ True
abbrev DtA := Int × Int × Sl Int × Unit
def dtD (x : DtA) : List Value := [.int .i64 x.1] ++ ([.int .u64 x.2.1] ++ ([x.2.2.1.val] ++ []))
def dtOk (w : World) (x : DtA) : Prop := (Lit.int .i64 x.1).wf = true ∧ (Lit.int .u64 x.2.1).wf = true ∧ x.2.2.1.Ok w byD 1 1 byOk ∧ True
abbrev MoA := Sl SgA × Sl ImA × Sl FnA × Int × Sl LmA × Sl GlA × Sl ExA × Int × Sl ElA × Sl DtA × Unit
def moD (x : MoA) : List Value := [x.1.val] ++ ([x.2.1.val] ++ ([x.2.2.1.val] ++ ([.int .i64 x.2.2.2.1] ++ ([x.2.2.2.2.1.val] ++ ([x.2.2.2.2.2.1.val] ++ ([x.2.2.2.2.2.2.1.val] ++ ([.int .i64 x.2.2.2.2.2.2.2.1] ++ ([x.2.2.2.2.2.2.2.2.1.val] ++ ([x.2.2.2.2.2.2.2.2.2.1.val] ++ [])))))))))
def moOk (w : World) (x : MoA) : Prop := x.1.Ok w sgD 2 48 (sgOk w) ∧ x.2.1.Ok w imD 3 40 imOk ∧ x.2.2.1.Ok w fnD 3 56 (fnOk w) ∧ (Lit.int .i64 x.2.2.2.1).wf = true ∧ x.2.2.2.2.1.Ok w lmD 3 24 lmOk ∧ x.2.2.2.2.2.1.Ok w glD 3 16 glOk ∧ x.2.2.2.2.2.2.1.Ok w exD 3 32 exOk ∧ (Lit.int .i64 x.2.2.2.2.2.2.2.1).wf = true ∧ x.2.2.2.2.2.2.2.2.1.Ok w elD 2 32 (elOk w) ∧ x.2.2.2.2.2.2.2.2.2.1.Ok w dtD 3 40 (dtOk w) ∧ True
section
variable {H : Type} {enc : TypeId × Value → H} {w : World}
set_option maxRecDepth 100000
theorem strR_opens {P : Program} {e : TypeId} (he : P.underlying e = some .string) : Opens enc P w e (fun s : ByteArray => [.string s]) (fun s => s.size ≤ 140737488351232) := by
  intro spare held m cs y h hw
  obtain ⟨s, rfl, hy, hs⟩ := DataW.trod_string he h
  refine ⟨s, rfl, ?_⟩
  have := hw s.size (by rw [hy]; simp [DataW.weights])
  simpa [reachBytes] using this
theorem by_opens : Opens enc Tryz.prog w 48 (fun s : Sl Int => [s.val]) (Sl.Ok w byD 1 1 byOk) :=
  Opens.slice Tryz.underlying48 (by kernel_rfl) (by kernel_rfl) (by omega) (fun _ => rfl) (Opens.int Tryz.underlying5)
theorem sg_opens : Opens enc Tryz.prog w 22 (fun s : Sl SgA => [s.val]) (Sl.Ok w sgD 2 48 (sgOk w)) :=
  Opens.slice Tryz.underlying22 (by kernel_rfl) (by kernel_rfl) (by omega) (fun _ => rfl)
    (Opens.struct Tryz.underlying65 (by kernel_rfl) (OpensF.cons (k := 1) (dec := fun s : Sl Int => [s.val]) (ok := Sl.Ok w byD 1 1 byOk) rfl (by kernel_rfl) (by exact by_opens) (OpensF.cons (k := 1) (dec := fun s : Sl Int => [s.val]) (ok := Sl.Ok w byD 1 1 byOk) rfl (by kernel_rfl) (by exact by_opens) OpensF.nil)))
theorem im_opens : Opens enc Tryz.prog w 23 (fun s : Sl ImA => [s.val]) (Sl.Ok w imD 3 40 imOk) :=
  Opens.slice Tryz.underlying23 (by kernel_rfl) (by kernel_rfl) (by omega) (fun _ => rfl)
    (Opens.struct Tryz.underlying115 (by kernel_rfl) (OpensF.cons (k := 1) rfl (by kernel_rfl) (strR_opens Tryz.underlying9) (OpensF.cons (k := 1) rfl (by kernel_rfl) (strR_opens Tryz.underlying9) (OpensF.cons (k := 1) rfl (by kernel_rfl) (Opens.int Tryz.underlying3) OpensF.nil))))
theorem ria_opens : Opens enc Tryz.prog w 49 (fun s : Sl RIA => [s.val]) (Sl.Ok w riaD 5 56 (riaOk w)) :=
  Opens.slice Tryz.underlying49 (by kernel_rfl) (by kernel_rfl) (by omega) (fun _ => rfl)
    (Opens.struct Tryz.underlying69 (by kernel_rfl) (OpensF.cons (k := 1) rfl (by kernel_rfl) (Opens.int Tryz.underlying3) (OpensF.cons (k := 1) rfl (by kernel_rfl) (Opens.int Tryz.underlying66) (OpensF.cons (k := 1) rfl (by kernel_rfl) (Opens.int Tryz.underlying66)
      (OpensF.cons (k := 1) rfl (by kernel_rfl) (Opens.int Tryz.underlying3) (OpensF.cons (k := 1) rfl (by kernel_rfl) (Opens.slice (size := 1) (bytes := 8) Tryz.underlying67 (by kernel_rfl) (by kernel_rfl) (by omega) (fun _ => rfl) (Opens.int Tryz.underlying66)) OpensF.nil))))))
theorem bd_opens : Opens enc Tryz.prog w 51 bdD (bdOk w) :=
  Opens.struct Tryz.underlying51 (by kernel_rfl) (OpensF.cons (k := 1) (dec := fun s : Sl Int => [s.val]) (ok := Sl.Ok w byD 1 1 byOk) rfl (by kernel_rfl) (by exact by_opens) (OpensF.cons (k := 1) (dec := fun s : Sl RIA => [s.val]) (ok := Sl.Ok w riaD 5 56 (riaOk w)) rfl (by kernel_rfl) (by exact ria_opens) OpensF.nil))
theorem fn_opens : Opens enc Tryz.prog w 24 (fun s : Sl FnA => [s.val]) (Sl.Ok w fnD 3 56 (fnOk w)) :=
  Opens.slice Tryz.underlying24 (by kernel_rfl) (by kernel_rfl) (by omega) (fun _ => rfl)
    (Opens.struct Tryz.underlying53 (by kernel_rfl) (OpensF.cons (k := 1) rfl (by kernel_rfl) (Opens.int Tryz.underlying3) (OpensF.cons (k := 2) (dec := bdD) (ok := bdOk w) rfl (by kernel_rfl) (by exact bd_opens) OpensF.nil)))
theorem lm_opens : Opens enc Tryz.prog w 25 (fun s : Sl LmA => [s.val]) (Sl.Ok w lmD 3 24 lmOk) :=
  Opens.slice Tryz.underlying25 (by kernel_rfl) (by kernel_rfl) (by omega) (fun _ => rfl)
    (Opens.struct Tryz.underlying179 (by kernel_rfl) (OpensF.cons (k := 1) rfl (by kernel_rfl) (Opens.int Tryz.underlying3) (OpensF.cons (k := 1) rfl (by kernel_rfl) (Opens.int Tryz.underlying3) (OpensF.cons (k := 1) rfl (by kernel_rfl) (Opens.bool Tryz.underlying4) OpensF.nil))))
theorem gl_opens : Opens enc Tryz.prog w 26 (fun s : Sl GlA => [s.val]) (Sl.Ok w glD 3 16 glOk) :=
  Opens.slice Tryz.underlying26 (by kernel_rfl) (by kernel_rfl) (by omega) (fun _ => rfl)
    (Opens.struct Tryz.underlying182 (by kernel_rfl) (OpensF.cons (k := 1) rfl (by kernel_rfl) (Opens.int Tryz.underlying133) (OpensF.cons (k := 1) rfl (by kernel_rfl) (Opens.bool Tryz.underlying4) (OpensF.cons (k := 1) rfl (by kernel_rfl) (Opens.int Tryz.underlying66) OpensF.nil))))
theorem ex_opens : Opens enc Tryz.prog w 27 (fun s : Sl ExA => [s.val]) (Sl.Ok w exD 3 32 exOk) :=
  Opens.slice Tryz.underlying27 (by kernel_rfl) (by kernel_rfl) (by omega) (fun _ => rfl)
    (Opens.struct Tryz.underlying118 (by kernel_rfl) (OpensF.cons (k := 1) rfl (by kernel_rfl) (strR_opens Tryz.underlying9) (OpensF.cons (k := 1) rfl (by kernel_rfl) (Opens.int Tryz.underlying3) (OpensF.cons (k := 1) rfl (by kernel_rfl) (Opens.int Tryz.underlying3) OpensF.nil))))
theorem el_opens : Opens enc Tryz.prog w 28 (fun s : Sl ElA => [s.val]) (Sl.Ok w elD 2 32 (elOk w)) :=
  Opens.slice Tryz.underlying28 (by kernel_rfl) (by kernel_rfl) (by omega) (fun _ => rfl)
    (Opens.struct Tryz.underlying120 (by kernel_rfl) (OpensF.cons (k := 1) rfl (by kernel_rfl) (Opens.int Tryz.underlying66) (OpensF.cons (k := 1) rfl (by kernel_rfl) (Opens.slice (size := 1) (bytes := 8) Tryz.underlying70 (by kernel_rfl) (by kernel_rfl) (by omega) (fun _ => rfl) (Opens.int Tryz.underlying3)) OpensF.nil)))
theorem dt_opens : Opens enc Tryz.prog w 29 (fun s : Sl DtA => [s.val]) (Sl.Ok w dtD 3 40 (dtOk w)) :=
  Opens.slice Tryz.underlying29 (by kernel_rfl) (by kernel_rfl) (by omega) (fun _ => rfl)
    (Opens.struct Tryz.underlying122 (by kernel_rfl) (OpensF.cons (k := 1) rfl (by kernel_rfl) (Opens.int Tryz.underlying3) (OpensF.cons (k := 1) rfl (by kernel_rfl) (Opens.int Tryz.underlying66) (OpensF.cons (k := 1) (dec := fun s : Sl Int => [s.val]) (ok := Sl.Ok w byD 1 1 byOk) rfl (by kernel_rfl) (by exact by_opens) OpensF.nil))))
theorem mo_opens : Opens enc Tryz.prog w 31 moD (moOk w) :=
  Opens.struct Tryz.underlying31 (by kernel_rfl) (OpensF.cons (k := 1) (dec := fun s : Sl SgA => [s.val]) (ok := Sl.Ok w sgD 2 48 (sgOk w)) rfl (by kernel_rfl) (by exact sg_opens) (OpensF.cons (k := 1) (dec := fun s : Sl ImA => [s.val]) (ok := Sl.Ok w imD 3 40 imOk) rfl (by kernel_rfl) (by exact im_opens) (OpensF.cons (k := 1) (dec := fun s : Sl FnA => [s.val]) (ok := Sl.Ok w fnD 3 56 (fnOk w)) rfl (by kernel_rfl) (by exact fn_opens) (OpensF.cons (k := 1) rfl (by kernel_rfl) (Opens.int Tryz.underlying3)
    (OpensF.cons (k := 1) (dec := fun s : Sl LmA => [s.val]) (ok := Sl.Ok w lmD 3 24 lmOk) rfl (by kernel_rfl) (by exact lm_opens) (OpensF.cons (k := 1) (dec := fun s : Sl GlA => [s.val]) (ok := Sl.Ok w glD 3 16 glOk) rfl (by kernel_rfl) (by exact gl_opens) (OpensF.cons (k := 1) (dec := fun s : Sl ExA => [s.val]) (ok := Sl.Ok w exD 3 32 exOk) rfl (by kernel_rfl) (by exact ex_opens) (OpensF.cons (k := 1) rfl (by kernel_rfl) (Opens.int Tryz.underlying3) (OpensF.cons (k := 1) (dec := fun s : Sl ElA => [s.val]) (ok := Sl.Ok w elD 2 32 (elOk w)) rfl (by kernel_rfl) (by exact el_opens) (OpensF.cons (k := 1) (dec := fun s : Sl DtA => [s.val]) (ok := Sl.Ok w dtD 3 40 (dtOk w)) rfl (by kernel_rfl) (by exact dt_opens) OpensF.nil))))))))))
end
end
section
open Go.RowKit
set_option linter.unusedVariables false
theorem wfU64 {n : Int} (h : (Lit.int .u64 n).wf = true) : 0 ≤ n ∧ n ≤ 18446744073709551615 := by
  simpa [Lit.wf, IntKind.min, IntKind.max, IntKind.signed, IntKind.bits] using h
theorem wfU8 {n : Int} (h : (Lit.int .u8 n).wf = true) : 0 ≤ n ∧ n ≤ 255 := by
  simpa [Lit.wf, IntKind.min, IntKind.max, IntKind.signed, IntKind.bits] using h
theorem wfI64 {n : Int} (h : (Lit.int .i64 n).wf = true) : I64 n := by
  unfold I64
  simpa [Lit.wf, IntKind.min, IntKind.max, IntKind.signed, IntKind.bits] using h
theorem b8_val {n : Int} (h : (Lit.int .u8 n).wf = true) : ((b8 n).toNat : Int) = n := by
  have := wfU8 h
  unfold b8
  rw [UInt8.toNat_ofNat']
  omega
def slB (s : Sl Int) : Sl UInt8 := ⟨s.at_, s.cap, s.l.map b8⟩
def slU (s : Sl Int) : Sl Nat := ⟨s.at_, s.cap, s.l.map Int.toNat⟩
def sgL (x : SgA) : SgL := ⟨slB x.1, slB x.2.1⟩
def imL (x : ImA) : MIm := ⟨x.1.data.toList, x.2.1.data.toList, x.2.2.1⟩
def xiL (x : RIA) : XL := ⟨x.1, x.2.1.toNat, x.2.2.1.toNat, x.2.2.2.1, slU x.2.2.2.2.1⟩
def bdL (x : BdA) : BdL := ⟨slB x.1, ⟨x.2.1.at_, x.2.1.cap, x.2.1.l.map xiL⟩⟩
def fnL (x : FnA) : FuL := ⟨x.1, bdL x.2.1⟩
def lmL (x : LmA) : MLm := ⟨x.1, x.2.1, x.2.2.1⟩
def glL (x : GlA) : MGl := ⟨b8 x.1, x.2.1, x.2.2.1.toNat⟩
def exL (x : ExA) : MEx := ⟨x.1.data.toList, x.2.1, x.2.2.1⟩
def elL (x : ElA) : ElL := ⟨x.1.toNat, x.2.1⟩
def dtL (x : DtA) : DaL := ⟨x.1, x.2.1.toNat, slB x.2.2.1⟩
def slM {α β : Type} (f : α → β) (s : Sl α) : Sl β := ⟨s.at_, s.cap, s.l.map f⟩
def moL (x : MoA) : MoL := ⟨slM sgL x.1, slM imL x.2.1, slM fnL x.2.2.1, x.2.2.2.1, slM lmL x.2.2.2.2.1, slM glL x.2.2.2.2.2.1, slM exL x.2.2.2.2.2.2.1, x.2.2.2.2.2.2.2.1, slM elL x.2.2.2.2.2.2.2.2.1, slM dtL x.2.2.2.2.2.2.2.2.2.1⟩
theorem slM_val {α β : Type} (f : α → β) (s : Sl α) : (slM f s).val = s.val := by simp [Sl.val, slM]
theorem slB_val (s : Sl Int) : (slB s).val = s.val := by simp [Sl.val, slB]
theorem slU_val (s : Sl Int) : (slU s).val = s.val := by simp [Sl.val, slU]
theorem moL_cs (x : MoA) : (moL x).cs = moD x := by
  unfold MoL.cs moL moD
  simp only [slM_val]
  rfl
theorem flat_map {α β : Type} {dec : α → List Value} {dec2 : β → List Value} {ok : α → Prop} (f : α → β) (hd : ∀ a, ok a → dec2 (f a) = dec a) : ∀ (l : List α), (∀ a ∈ l, ok a) → (l.map f).flatMap dec2 = l.flatMap dec
  | [], _ => rfl
  | a :: r, h => by
    rw [List.map_cons, List.flatMap_cons, List.flatMap_cons, hd a (h a (by simp)), flat_map f hd r (fun b hb => h b (by simp [hb]))]
theorem row_map {α β : Type} {w : World} {size bytes : Nat} {dec : α → List Value} {dec2 : β → List Value} {ok : α → Prop} {s : Sl α} (f : α → β) (h : s.Ok w dec size bytes ok) (hd : ∀ a, ok a → dec2 (f a) = dec a) : Row w size dec2 (slM f s) := by
  refine ⟨?_, by simpa [slM] using h.len, h.cap⟩
  have := h.reads
  show Reads w w.heap.size size s.at_ (s.l.map f).length ((s.l.map f).flatMap dec2)
  rw [List.length_map, flat_map f hd s.l h.all]
  exact this
theorem by_row {w : World} {s : Sl Int} (h : s.Ok w byD 1 1 byOk) : Row w 1 bD (slB s) :=
  row_map b8 h fun a ha => by unfold bD byD B; rw [b8_val ha]
theorem u_row {w : World} {s : Sl Int} (h : s.Ok w wdD 1 8 wdOk) : Row w 1 uD (slU s) :=
  row_map Int.toNat h fun a ha => by have := wfU64 ha; unfold uD wdD U; rw [show ((a.toNat : Nat) : Int) = a from by omega]
theorem i_row {w : World} {s : Sl Int} (h : s.Ok w nmD 1 8 nmOk) : Row w 1 iD s := ⟨h.reads, h.len, h.cap⟩
theorem map_mem {α β : Type} {f : α → β} {s : Sl α} {y : β} (h : y ∈ (slM f s).l) : ∃ x ∈ s.l, f x = y := List.mem_map.1 h
theorem xi_in {w : World} {x : RIA} (h : riaOk w x) : (xiL x).x.In ∧ XL.cs (xiL x) = riaD x ∧ Row w 1 uD (xiL x).l := by
  obtain ⟨h1, h2, h3, h4, h5, _⟩ := h
  have a := wfI64 h1; have b := wfU64 h2; have c := wfU64 h3; have d := wfI64 h4
  refine ⟨⟨a.1, a.2, ?_, ?_, d.1, d.2, ?_⟩, ?_, u_row h5⟩
  · show x.2.1.toNat < _; omega
  · show x.2.2.1.toNat < _; omega
  · intro n hn
    obtain ⟨m, hm, rfl⟩ := List.mem_map.1 hn
    have := wfU64 (h5.all m hm)
    omega
  · show [Value.int .i64 x.1, .int .u64 ((x.2.1.toNat : Nat) : Int), .int .u64 ((x.2.2.1.toNat : Nat) : Int), .int .i64 x.2.2.2.1, (slU x.2.2.2.2.1).val] = _
    rw [slU_val, show ((x.2.1.toNat : Nat) : Int) = x.2.1 from by omega, show ((x.2.2.1.toNat : Nat) : Int) = x.2.2.1 from by omega]
    rfl
theorem bd_in {w : World} {x : BdA} (h : bdOk w x) : BdIn w (bdL x) := by
  obtain ⟨h1, h2, _⟩ := h
  refine ⟨by_row h1, row_map xiL h2 fun a ha => (xi_in ha).2.1, fun y hy => ?_, fun y hy => ?_⟩
  · obtain ⟨z, hz, rfl⟩ := List.mem_map.1 hy
    exact (xi_in (h2.all z hz)).2.2
  · obtain ⟨z, hz, rfl⟩ := List.mem_map.1 hy
    exact (xi_in (h2.all z hz)).1
theorem str_back (s : ByteArray) : (⟨s.data.toList.toArray⟩ : ByteArray) = s := by simp
theorem mo_in {w : World} {x : MoA} (h : moOk w x) : MoIn w (moL x) := by
  obtain ⟨h1, h2, h3, h4, h5, h6, h7, h8, h9, h10, _⟩ := h
  refine ⟨row_map sgL h1 fun a _ => ?_, fun y hy => ?_, row_map imL h2 fun a _ => ?_, fun y hy => ?_, row_map fnL h3 fun a _ => ?_, fun y hy => ?_, wfI64 h4, row_map lmL h5 fun a _ => rfl, fun y hy => ?_, row_map glL h6 fun a ha => ?_, fun y hy => ?_,
    row_map exL h7 fun a _ => ?_, fun y hy => ?_, wfI64 h8, row_map elL h9 fun a ha => ?_, fun y hy => ?_, row_map dtL h10 fun a ha => ?_, fun y hy => ?_⟩
  · show [(slB a.1).val, (slB a.2.1).val] = _
    rw [slB_val, slB_val]; rfl
  · obtain ⟨z, hz, rfl⟩ := map_mem hy
    exact ⟨by_row (h1.all z hz).1, by_row (h1.all z hz).2.1⟩
  · show [Value.string ⟨a.1.data.toList.toArray⟩, .string ⟨a.2.1.data.toList.toArray⟩, .int .i64 a.2.2.1] = _
    rw [str_back, str_back]; rfl
  · obtain ⟨z, hz, rfl⟩ := map_mem hy
    obtain ⟨k1, k2, k3, _⟩ := h2.all z hz
    refine ⟨wfI64 k3, ?_, ?_⟩
    · show z.1.data.toList.length ≤ _
      have : z.1.data.toList.length = z.1.size := by simp
      omega
    · show z.2.1.data.toList.length ≤ _
      have : z.2.1.data.toList.length = z.2.1.size := by simp
      omega
  · show [Value.int .i64 a.1, (slB a.2.1.1).val, (slM xiL a.2.1.2.1).val] = _
    rw [slB_val, slM_val]; rfl
  · obtain ⟨z, hz, rfl⟩ := map_mem hy
    exact ⟨wfI64 (h3.all z hz).1, bd_in (h3.all z hz).2.1⟩
  · obtain ⟨z, hz, rfl⟩ := map_mem hy
    exact ⟨wfI64 (h5.all z hz).1, wfI64 (h5.all z hz).2.1⟩
  · obtain ⟨k1, _, k2, _⟩ := ha
    have := wfU64 k2
    show [Value.int .u8 ((b8 a.1).toNat : Int), .bool a.2.1, .int .u64 ((a.2.2.1.toNat : Nat) : Int)] = _
    rw [b8_val k1, show ((a.2.2.1.toNat : Nat) : Int) = a.2.2.1 from by omega]; rfl
  · obtain ⟨z, hz, rfl⟩ := map_mem hy
    have := wfU64 (h6.all z hz).2.2.1
    show z.2.2.1.toNat < _
    omega
  · show [Value.string ⟨a.1.data.toList.toArray⟩, .int .i64 a.2.1, .int .i64 a.2.2.1] = _
    rw [str_back]; rfl
  · obtain ⟨z, hz, rfl⟩ := map_mem hy
    obtain ⟨k1, k2, k3, _⟩ := h7.all z hz
    refine ⟨wfI64 k2, wfI64 k3, ?_⟩
    show z.1.data.toList.length ≤ _
    have : z.1.data.toList.length = z.1.size := by simp
    omega
  · have := wfU64 ha.1
    show [Value.int .u64 ((a.1.toNat : Nat) : Int), a.2.1.val] = _
    rw [show ((a.1.toNat : Nat) : Int) = a.1 from by omega]; rfl
  · obtain ⟨z, hz, rfl⟩ := map_mem hy
    obtain ⟨k1, k2, _⟩ := h9.all z hz
    have := wfU64 k1
    exact ⟨by show z.1.toNat < _; omega, i_row k2, fun n hn => wfI64 (k2.all n hn)⟩
  · have := wfU64 ha.2.1
    show [Value.int .i64 a.1, .int .u64 ((a.2.1.toNat : Nat) : Int), (slB a.2.2.1).val] = _
    rw [slB_val, show ((a.2.1.toNat : Nat) : Int) = a.2.1 from by omega]; rfl
  · obtain ⟨z, hz, rfl⟩ := map_mem hy
    obtain ⟨k1, k2, k3, _⟩ := h10.all z hz
    have := wfU64 k2
    exact ⟨wfI64 k1, by show z.2.1.toNat < _; omega, by_row k3⟩
structure MoRe (m : MoL) : Prop where
  sigs : m.sigs.l.length ≤ 140737488351232
  sig : ∀ x ∈ m.sigs.l, x.p.l.length ≤ 140737488351232 ∧ x.r.l.length ≤ 140737488351232
  imps : m.imps.l.length ≤ 140737488351232
  imp : ∀ x ∈ m.imps.l, x.m.length ≤ 140737488351232 ∧ x.n.length ≤ 140737488351232
  funcs : m.funcs.l.length ≤ 140737488351232
  func : ∀ x ∈ m.funcs.l, BdLen 140737488351232 140737488351232 140737488351232 x.bd
  mems : m.mems.l.length ≤ 140737488351232
  gls : m.gls.l.length ≤ 140737488351232
  exs : m.exs.l.length ≤ 140737488351232
  ex : ∀ x ∈ m.exs.l, x.name.length ≤ 140737488351232
  els : m.els.l.length ≤ 140737488351232
  el : ∀ x ∈ m.els.l, x.fs.l.length ≤ 140737488351232
  das : m.das.l.length ≤ 140737488351232
  da : ∀ x ∈ m.das.l, x.bs.l.length ≤ 140737488351232
theorem ok_len {α : Type} {w : World} {size bytes : Nat} {dec : α → List Value} {ok : α → Prop} {s : Sl α} (h : s.Ok w dec size bytes ok) (hb : 0 < bytes) : s.l.length ≤ 140737488351232 :=
  Nat.le_trans (Nat.le_mul_of_pos_right _ hb) h.reach
theorem slM_len {α β : Type} {f : α → β} {s : Sl α} : (slM f s).l.length = s.l.length := by simp [slM]
theorem slB_len {s : Sl Int} : (slB s).l.length = s.l.length := by simp [slB]
theorem slU_len {s : Sl Int} : (slU s).l.length = s.l.length := by simp [slU]
theorem mo_re {w : World} {x : MoA} (h : moOk w x) : MoRe (moL x) := by
  obtain ⟨h1, h2, h3, h4, h5, h6, h7, h8, h9, h10, _⟩ := h
  have hl : ∀ {α β : Type} {size bytes : Nat} {dec : α → List Value} {ok : α → Prop} {s : Sl α} (f : α → β), s.Ok w dec size bytes ok → 0 < bytes → (slM f s).l.length ≤ 140737488351232 := fun f h hb => by rw [slM_len]; exact ok_len h hb
  refine ⟨hl _ h1 (by omega), fun y hy => ?_, hl _ h2 (by omega), fun y hy => ?_, hl _ h3 (by omega), fun y hy => ?_, hl _ h5 (by omega), hl _ h6 (by omega), hl _ h7 (by omega), fun y hy => ?_, hl _ h9 (by omega), fun y hy => ?_, hl _ h10 (by omega), fun y hy => ?_⟩
  · obtain ⟨z, hz, rfl⟩ := map_mem hy
    obtain ⟨k1, k2, _⟩ := h1.all z hz
    exact ⟨by show (slB z.1).l.length ≤ _; rw [slB_len]; exact ok_len k1 (by omega), by show (slB z.2.1).l.length ≤ _; rw [slB_len]; exact ok_len k2 (by omega)⟩
  · obtain ⟨z, hz, rfl⟩ := map_mem hy
    obtain ⟨k1, k2, _, _⟩ := h2.all z hz
    exact ⟨by show z.1.data.toList.length ≤ _; simpa using k1, by show z.2.1.data.toList.length ≤ _; simpa using k2⟩
  · obtain ⟨z, hz, rfl⟩ := map_mem hy
    obtain ⟨_, ⟨k1, k2, _⟩, _⟩ := h3.all z hz
    refine ⟨by show (slB z.2.1.1).l.length ≤ _; rw [slB_len]; exact ok_len k1 (by omega), by show (slM xiL z.2.1.2.1).l.length ≤ _; rw [slM_len]; exact ok_len k2 (by omega), fun y hy => ?_⟩
    obtain ⟨u, hu, rfl⟩ := List.mem_map.1 hy
    show (slU u.2.2.2.2.1).l.length ≤ _
    rw [slU_len]
    exact ok_len (k2.all u hu).2.2.2.2.1 (by omega)
  · obtain ⟨z, hz, rfl⟩ := map_mem hy
    obtain ⟨k1, _, _, _⟩ := h7.all z hz
    show z.1.data.toList.length ≤ _
    simpa using k1
  · obtain ⟨z, hz, rfl⟩ := map_mem hy
    exact ok_len (h9.all z hz).2.1 (by omega)
  · obtain ⟨z, hz, rfl⟩ := map_mem hy
    show (slB z.2.2.1).l.length ≤ _
    rw [slB_len]
    exact ok_len (h10.all z hz).2.2.1 (by omega)
structure MoSt (m : MoL) : Prop where
  sm : MoSm m
  func : ∀ x ∈ m.funcs.l, BdLen 150 60 110 x.bd
end
section
open Go.RowKit
set_option linter.unusedVariables false
def GS (hi : Int) (p : Prop) (x : Int) : Prop := 0 ≤ x ∧ x ≤ hi ∧ (x = 0 → p)
theorem GS.add {hi hi2 x y : Int} {p q r : Prop} (h : GS hi p x) (hy : 0 ≤ y) (hy2 : y ≤ hi2) (hq : y = 0 → q) (hr : p → q → r) : GS (hi + hi2) r (x + y) :=
  ⟨by have := h.1; omega, by have := h.2.1; omega, fun e => hr (h.2.2 (by have := h.1; omega)) (hq (by have := h.1; omega))⟩
def GreatB (y : BdL) (w : World) (e : Ending) (w' : World) : Prop :=
  ∃ x : Int, e = .returned (.int .i64 x) ∧ Hid (GS 22000000000000000 (BdLen 150 60 110 y) x) ∧ Hid (Below w.heap.size w w')
set_option maxRecDepth 100000 in
set_option maxHeartbeats 1600000 in
theorem bgreat_any (y : BdL) (w : World) (h : Hid (BdIn w y)) (hr : Hid (BdLen 140737488351232 140737488351232 140737488351232 y)) :
    Calls Tryz.prog 30 #[.agg #[.slice y.loc.at_ y.loc.l.length y.loc.cap, .slice y.l.at_ y.l.l.length y.l.cap]] w (GreatB y w) := by
  obtain ⟨W, hW, hb, hxb, hsz⟩ := box_new w #[.slice y.loc.at_ y.loc.l.length y.loc.cap, .slice y.l.at_ y.l.l.length y.l.cap] 51
  obtain ⟨gb, hgb⟩ : ∃ gb, w.heap.size = gb := ⟨_, rfl⟩
  rw [hgb] at hxb
  have c0 := cell_blk hxb 0
  have c1 := cell_blk hxb 1
  simp at c0 c1
  have r1 := hr.out.loc; have r2 := hr.out.l
  have hB := hide (h.out.below hb)
  obtain ⟨a0, ha0⟩ : ∃ a : Int, max ((y.loc.l.length : Int) - 60) 0 = a := ⟨_, rfl⟩
  obtain ⟨a1, ha1⟩ : ∃ a : Int, max ((y.l.l.length : Int) - 150) 0 = a := ⟨_, rfl⟩
  have b0 : 0 ≤ a0 ∧ a0 ≤ 140737488351232 := by omega
  have b1 : 0 ≤ a1 ∧ a1 ≤ 140737488351232 := by omega
  obtain ⟨b00, b01⟩ := b0
  obtain ⟨b10, b11⟩ := b1
  have G0 : Hid (GS 300000000000000 (y.loc.l.length ≤ 60 ∧ y.l.l.length ≤ 150) (a0 + a1)) := ⟨by omega, by omega, fun e => ⟨by omega, by omega⟩⟩
  have HB := hide hb; have HW := hide hW; have HG := hide hgb; have HR := hr
  clear hb hW hgb hxb hsz
  go_enter Tryz.func30, Tryz.ntmps30
  go_wp2_with fail
  rw [HW.out, HG.out]
  go_loop [3, 4] (fun g i => ∃ (k : Nat) (x : Int), i = .int .i64 k ∧ g = .int .i64 x ∧ k ≤ 150 ∧ Hid (GS (300000000000000 + (k : Int) * 140737488351232) ((y.loc.l.length ≤ 60 ∧ y.l.l.length ≤ 150) ∧ ∀ (j : Nat) x, j < k → y.l.l[j]? = some x → x.l.l.length ≤ 110) x)) (fun _ i => 200 - (intOf i).toNat)
  case atStart => exact ⟨0, _, rfl, rfl, by omega, ⟨G0.out.1, by have := G0.out.2.1; omega, fun e => ⟨G0.out.2.2 e, fun j x hj => by omega⟩⟩⟩
  case round =>
    obtain ⟨k, x, rfl, rfl, hk, hg⟩ := hrel
    by_cases hlt : k < y.l.l.length
    · by_cases hlt2 : k < 150
      · obtain ⟨z, hz⟩ : ∃ z, y.l.l[k]? = some z := ⟨_, List.getElem?_eq_getElem hlt⟩
        obtain ⟨ad, ha, _, k0, kj⟩ := hB.out.l.at_ (fun _ => rfl) hz
        have q4 : W.cell? ⟨(ad.add (k * 5)).block, (ad.add (k * 5)).off + 4, none⟩ = some (.slice z.l.at_ z.l.l.length z.l.cap) := kj 4 (by omega) (by omega) _ rfl
        rw [ha] at c1
        have hzl := HR.out.lab z (List.mem_of_getElem? hz)
        obtain ⟨b, hb⟩ : ∃ b : Int, max ((z.l.l.length : Int) - 110) 0 = b := ⟨_, rfl⟩
        have hb0 : 0 ≤ b := by omega
        have hb1 : b ≤ 140737488351232 := by omega
        obtain ⟨g1, g2, g3⟩ := hg.out
        have G1 : Hid (GS (300000000000000 + ((k + 1 : Nat) : Int) * 140737488351232) ((y.loc.l.length ≤ 60 ∧ y.l.l.length ≤ 150) ∧ ∀ (j : Nat) x, j < k + 1 → y.l.l[j]? = some x → x.l.l.length ≤ 110) (x + b)) :=
          ⟨by omega, by omega, fun e => ⟨(g3 (by omega)).1, fun j u hj hu => by
            by_cases hjk : j = k
            · subst hjk; rw [hz] at hu; injection hu with hu; subst hu; omega
            · exact (g3 (by omega)).2 j u (by omega) hu⟩⟩
        clear g3 k0 kj hz ha
        go_wp2_with fail
        go_round
        case rel => exact ⟨k + 1, _, by go_num, rfl, by omega, G1⟩
        case measure => simp [intOf] <;> omega
      · have F : Hid (GreatB y w (.returned (.int .i64 x)) W) := ⟨x, rfl, ⟨hg.out.1, by have := hg.out.2.1; omega, fun e => by
          obtain ⟨⟨p1, p2⟩, p3⟩ := hg.out.2.2 e
          omega⟩, HB.out⟩
        have hlt3 : (150 : Int) ≤ (k : Int) := by omega
        clear hlt2
        go_wp2_with fail
        go_ret
        exact F.out
    · have F : Hid (GreatB y w (.returned (.int .i64 x)) W) := ⟨x, rfl, ⟨hg.out.1, by have := hg.out.2.1; omega, fun e => by
        obtain ⟨⟨p1, p2⟩, p3⟩ := hg.out.2.2 e
        exact ⟨p1, p2, fun z hz => by
          obtain ⟨j, hj, hjz⟩ := List.getElem_of_mem hz
          exact p3 j z (by omega) (by rw [List.getElem?_eq_getElem hj, hjz])⟩⟩, HB.out⟩
      have hlt3 : (y.l.l.length : Int) ≤ (k : Int) := by omega
      clear hlt
      go_wp2_with fail
      go_ret
      exact F.out
--PART2
def P0 (m : MoL) : Prop := m.sigs.l.length ≤ 60 ∧ m.imps.l.length ≤ 25 ∧ m.funcs.l.length ≤ 110 ∧ m.mems.l.length ≤ 8 ∧ m.gls.l.length ≤ 60 ∧ m.exs.l.length ≤ 60 ∧ m.els.l.length ≤ 25 ∧ m.das.l.length ≤ 25
def P1 (m : MoL) (k : Nat) : Prop := ∀ (j : Nat) x, j < k → m.sigs.l[j]? = some x → x.p.l.length + x.r.l.length ≤ 60
def P2 (m : MoL) (k : Nat) : Prop := ∀ (j : Nat) x, j < k → m.imps.l[j]? = some x → x.m.length + x.n.length ≤ 100
def P3 (m : MoL) (k : Nat) : Prop := ∀ (j : Nat) x, j < k → m.funcs.l[j]? = some x → BdLen 150 60 110 x.bd
def P4 (m : MoL) (k : Nat) : Prop := ∀ (j : Nat) x, j < k → m.exs.l[j]? = some x → x.name.length ≤ 60
def P5 (m : MoL) (k : Nat) : Prop := ∀ (j : Nat) x, j < k → m.els.l[j]? = some x → x.fs.l.length ≤ 30
def P6 (m : MoL) (k : Nat) : Prop := ∀ (j : Nat) x, j < k → m.das.l[j]? = some x → x.bs.l.length ≤ 4100
theorem PS_step {α : Type} {l : List α} {q : α → Prop} {k : Nat} {z : α} (h : ∀ (j : Nat) x, j < k → l[j]? = some x → q x) (hz : l[k]? = some z) (hq : q z) : ∀ (j : Nat) x, j < k + 1 → l[j]? = some x → q x := by
  intro j x hj hx
  by_cases hjk : j = k
  · subst hjk; rw [hz] at hx; injection hx with hx; subst hx; exact hq
  · exact h j x (by omega) hx
theorem PS_all {α : Type} {l : List α} {q : α → Prop} {k : Nat} (h : ∀ (j : Nat) x, j < k → l[j]? = some x → q x) (hk : l.length ≤ k) : ∀ x ∈ l, q x := by
  intro x hx
  obtain ⟨j, hj, hjz⟩ := List.getElem_of_mem hx
  exact h j x (by omega) (by rw [List.getElem?_eq_getElem hj, hjz])
theorem PS_nil {α : Type} {l : List α} {q : α → Prop} : ∀ (j : Nat) x, j < 0 → l[j]? = some x → q x := fun j x hj => by omega
theorem GS.le {a b : Int} {p : Prop} {x : Int} (h : GS a p x) (hab : a ≤ b) : GS b p x := ⟨h.1, by have := h.2.1; omega, h.2.2⟩
theorem GS.same {a : Int} {p q : Prop} {x : Int} (h : GS a p x) (hq : p → q) : GS a q x := ⟨h.1, h.2.1, fun e => hq (h.2.2 e)⟩
theorem GS.more {a b : Int} {p q r : Prop} {x y : Int} (h : GS a p x) (c : Int) (hab : a + c ≤ b) (hy : 0 ≤ y) (hy2 : y ≤ c) (hq : y = 0 → q) (hr : p → q → r) : GS b r (x + y) := (h.add hy hy2 hq hr).le hab
def GreatM (m : MoL) (w : World) (e : Ending) (w' : World) : Prop :=
  ∃ x : Int, e = .returned (.int .i64 x) ∧ Hid (GS 4000000000000000000 (MoSt m) x) ∧ Hid (Below w.heap.size w w')
def Q1 (m : MoL) : Prop := P0 m ∧ ∀ z ∈ m.sigs.l, z.p.l.length + z.r.l.length ≤ 60
def Q2 (m : MoL) : Prop := Q1 m ∧ ∀ z ∈ m.imps.l, z.m.length + z.n.length ≤ 100
def Q3 (m : MoL) : Prop := Q2 m ∧ ∀ z ∈ m.funcs.l, BdLen 150 60 110 z.bd
def Q4 (m : MoL) : Prop := Q3 m ∧ ∀ z ∈ m.exs.l, z.name.length ≤ 60
def Q5 (m : MoL) : Prop := Q4 m ∧ ∀ z ∈ m.els.l, z.fs.l.length ≤ 30
def Q6 (m : MoL) : Prop := Q5 m ∧ ∀ z ∈ m.das.l, z.bs.l.length ≤ 4100
theorem Q6.sm {m : MoL} (h : Q6 m) : MoSt m := by
  obtain ⟨⟨⟨⟨⟨⟨⟨p0, p1, p2, p3, p4, p5, p6, p7⟩, h1⟩, h2⟩, h3⟩, h4⟩, h5⟩, h6⟩ := h
  exact ⟨⟨p0, h1, p1, h2, p2, fun x hx => (h3 x hx).more (by omega) (by omega) (by omega), p3, p4, p5, h4, p6, h5, p7, h6⟩, h3⟩
theorem P0.cap0 {m : MoL} (h : P0 m) : m.sigs.l.length ≤ 60 := by
  have h0 : P0 m := h
  exact h0.1
theorem Q1.cap1 {m : MoL} (h : Q1 m) : m.imps.l.length ≤ 25 := by
  have h0 : P0 m := h.1
  exact h0.2.1
theorem Q2.cap2 {m : MoL} (h : Q2 m) : m.funcs.l.length ≤ 110 := by
  have h0 : P0 m := h.1.1
  exact h0.2.2.1
theorem Q3.cap3 {m : MoL} (h : Q3 m) : m.exs.l.length ≤ 60 := by
  have h0 : P0 m := h.1.1.1
  exact h0.2.2.2.2.2.1
theorem Q4.cap4 {m : MoL} (h : Q4 m) : m.els.l.length ≤ 25 := by
  have h0 : P0 m := h.1.1.1.1
  exact h0.2.2.2.2.2.2.1
theorem Q5.cap5 {m : MoL} (h : Q5 m) : m.das.l.length ≤ 25 := by
  have h0 : P0 m := h.1.1.1.1.1
  exact h0.2.2.2.2.2.2.2
set_option maxRecDepth 100000 in
set_option maxHeartbeats 6400000 in
theorem lgreat_any (m : MoL) (w : World) (h : Hid (MoIn w m)) (hr : Hid (MoRe m)) :
    Calls Tryz.prog 18 #[.agg m.cs.toArray] w (GreatM m w) := by
  obtain ⟨W, hW, hb, hxb, hsz⟩ := box_new w m.cs.toArray 31
  obtain ⟨gb, hgb⟩ : ∃ gb, w.heap.size = gb := ⟨_, rfl⟩
  rw [hgb] at hxb
  have hM := hide (h.out.below hb)
  have c0 : W.cell? ⟨gb, 0, none⟩ = some (.slice m.sigs.at_ m.sigs.l.length m.sigs.cap) := cell_blk hxb 0
  have c1 : W.cell? ⟨gb, 1, none⟩ = some (.slice m.imps.at_ m.imps.l.length m.imps.cap) := cell_blk hxb 1
  have c2 : W.cell? ⟨gb, 2, none⟩ = some (.slice m.funcs.at_ m.funcs.l.length m.funcs.cap) := cell_blk hxb 2
  have c4 : W.cell? ⟨gb, 4, none⟩ = some (.slice m.mems.at_ m.mems.l.length m.mems.cap) := cell_blk hxb 4
  have c5 : W.cell? ⟨gb, 5, none⟩ = some (.slice m.gls.at_ m.gls.l.length m.gls.cap) := cell_blk hxb 5
  have c6 : W.cell? ⟨gb, 6, none⟩ = some (.slice m.exs.at_ m.exs.l.length m.exs.cap) := cell_blk hxb 6
  have c8 : W.cell? ⟨gb, 8, none⟩ = some (.slice m.els.at_ m.els.l.length m.els.cap) := cell_blk hxb 8
  have c9 : W.cell? ⟨gb, 9, none⟩ = some (.slice m.das.at_ m.das.l.length m.das.cap) := cell_blk hxb 9
  have r0 := hr.out.sigs
  obtain ⟨a0, ha0⟩ : ∃ a : Int, max ((m.sigs.l.length : Int) - 60) 0 = a := ⟨_, rfl⟩
  have b0 : 0 ≤ a0 := by omega
  have d0 : a0 ≤ 140737488351232 := by omega
  have r1 := hr.out.imps
  obtain ⟨a1, ha1⟩ : ∃ a : Int, max ((m.imps.l.length : Int) - 25) 0 = a := ⟨_, rfl⟩
  have b1 : 0 ≤ a1 := by omega
  have d1 : a1 ≤ 140737488351232 := by omega
  have r2 := hr.out.funcs
  obtain ⟨a2, ha2⟩ : ∃ a : Int, max ((m.funcs.l.length : Int) - 110) 0 = a := ⟨_, rfl⟩
  have b2 : 0 ≤ a2 := by omega
  have d2 : a2 ≤ 140737488351232 := by omega
  have r3 := hr.out.mems
  obtain ⟨a3, ha3⟩ : ∃ a : Int, max ((m.mems.l.length : Int) - 8) 0 = a := ⟨_, rfl⟩
  have b3 : 0 ≤ a3 := by omega
  have d3 : a3 ≤ 140737488351232 := by omega
  have r4 := hr.out.gls
  obtain ⟨a4, ha4⟩ : ∃ a : Int, max ((m.gls.l.length : Int) - 60) 0 = a := ⟨_, rfl⟩
  have b4 : 0 ≤ a4 := by omega
  have d4 : a4 ≤ 140737488351232 := by omega
  have r5 := hr.out.exs
  obtain ⟨a5, ha5⟩ : ∃ a : Int, max ((m.exs.l.length : Int) - 60) 0 = a := ⟨_, rfl⟩
  have b5 : 0 ≤ a5 := by omega
  have d5 : a5 ≤ 140737488351232 := by omega
  have r6 := hr.out.els
  obtain ⟨a6, ha6⟩ : ∃ a : Int, max ((m.els.l.length : Int) - 25) 0 = a := ⟨_, rfl⟩
  have b6 : 0 ≤ a6 := by omega
  have d6 : a6 ≤ 140737488351232 := by omega
  have r7 := hr.out.das
  obtain ⟨a7, ha7⟩ : ∃ a : Int, max ((m.das.l.length : Int) - 25) 0 = a := ⟨_, rfl⟩
  have b7 : 0 ≤ a7 := by omega
  have d7 : a7 ≤ 140737488351232 := by omega
  have G0 : Hid (GS 1126000000000000 (P0 m) (((((((a0 + a1) + a2) + a3) + a4) + a5) + a6) + a7)) := ⟨by omega, by omega, fun e => by unfold P0; exact ⟨by omega, by omega, by omega, by omega, by omega, by omega, by omega, by omega⟩⟩
  have HB := hide hb; have HW := hide hW; have HG := hide hgb; have HR := hr
  clear hb hW hgb hxb hsz
  unfold MoL.cs Sl.val at HW ⊢
  go_enter Tryz.func18, Tryz.ntmps18
  go_upto_region 1 with fail
  rw [HW.out, HG.out]
  go_upto_region 2 with fail
  generalize a0 + a1 + a2 + a3 + a4 + a5 + a6 + a7 = x0 at *
  clear ha0 b0 d0 r0 ha1 b1 d1 r1 ha2 b2 d2 r2 ha3 b3 d3 r3 ha4 b4 d4 r4 ha5 b5 d5 r5 ha6 b6 d6 r6 ha7 b7 d7 r7
  have HCL : Hid (∀ V, Below W.heap.size W V → V.cell? ⟨gb, 0, none⟩ = some (.slice m.sigs.at_ m.sigs.l.length m.sigs.cap) ∧ V.cell? ⟨gb, 1, none⟩ = some (.slice m.imps.at_ m.imps.l.length m.imps.cap) ∧ V.cell? ⟨gb, 2, none⟩ = some (.slice m.funcs.at_ m.funcs.l.length m.funcs.cap) ∧ V.cell? ⟨gb, 4, none⟩ = some (.slice m.mems.at_ m.mems.l.length m.mems.cap) ∧ V.cell? ⟨gb, 5, none⟩ = some (.slice m.gls.at_ m.gls.l.length m.gls.cap) ∧ V.cell? ⟨gb, 6, none⟩ = some (.slice m.exs.at_ m.exs.l.length m.exs.cap) ∧ V.cell? ⟨gb, 8, none⟩ = some (.slice m.els.at_ m.els.l.length m.els.cap) ∧ V.cell? ⟨gb, 9, none⟩ = some (.slice m.das.at_ m.das.l.length m.das.cap)) := fun V hV => by
    have hg : gb < W.heap.size := World.block_lt_of_cell? W _ c0
    exact ⟨(hV.cell hg).trans c0, (hV.cell hg).trans c1, (hV.cell hg).trans c2, (hV.cell hg).trans c4, (hV.cell hg).trans c5, (hV.cell hg).trans c6, (hV.cell hg).trans c8, (hV.cell hg).trans c9⟩
  clear c0 c1 c2 c4 c5 c6 c8 c9
  have HB0 : Hid (Below W.heap.size W W) := Below.refl _ _
  go_upto_block 0 with fail
  go_cut [3] (fun g wx => ∃ x : Int, g = .int .i64 x ∧ Hid (GS 18100000000000000 (Q1 m) x) ∧ Hid (Below W.heap.size W wx))
  case first =>
    go_wp2_with fail
    go_loopw [3, 4] (fun g i wx => ∃ (k : Nat) (x : Int), i = .int .i64 k ∧ g = .int .i64 x ∧ k ≤ 60 ∧ Hid (GS (1126000000000000 + (k : Int) * 281474976702464) (P0 m ∧ P1 m k) x) ∧ Hid (Below W.heap.size W wx)) (fun _ i _ => 200 - (intOf i).toNat)
    case atStart => exact ⟨0, _, rfl, rfl, by omega, (G0.out.same fun hq => ⟨hq, PS_nil⟩).le (by omega), HB0⟩
    case round =>
      obtain ⟨k, x, rfl, rfl, hk, hg, hbw⟩ := hrel
      obtain ⟨c0, c1, c2, c4, c5, c6, c8, c9⟩ := HCL.out _ hbw.out
      by_cases hlt : k < m.sigs.l.length
      · by_cases hlt2 : k < 60
        · obtain ⟨z, hz⟩ : ∃ z, m.sigs.l[k]? = some z := ⟨_, List.getElem?_eq_getElem hlt⟩
          have hmem := List.mem_of_getElem? hz
          obtain ⟨ad, ha, _, k0, kj⟩ := (hM.out.below hbw.out).sigs.at_ (fun _ => rfl) hz
          have q0 : wr.cell? (ad.add (k * 2)) = some (.slice z.p.at_ z.p.l.length z.p.cap) := k0 _ rfl (by omega)
          have q1 : wr.cell? ⟨(ad.add (k * 2)).block, (ad.add (k * 2)).off + 1, none⟩ = some (.slice z.r.at_ z.r.l.length z.r.cap) := kj 1 (by omega) (by omega) _ rfl
          obtain ⟨z1, z2⟩ := HR.out.sig z hmem
          rw [ha] at c0
          obtain ⟨g1, g2, g3⟩ := hg.out
          obtain ⟨b, hb⟩ : ∃ b : Int, max ((z.p.l.length : Int) + (z.r.l.length : Int) - 60) 0 = b := ⟨_, rfl⟩
          have hb0 : 0 ≤ b := by omega
          have hb1 : b ≤ 281474976702464 := by omega
          have G9 : Hid (GS (1126000000000000 + ((k + 1 : Nat) : Int) * 281474976702464) (P0 m ∧ P1 m (k + 1)) (x + b)) := hg.out.more (q := z.p.l.length + z.r.l.length ≤ 60) 281474976702464 (by omega) hb0 hb1 (fun e => by omega) (fun hq hz2 => ⟨hq.1, PS_step hq.2 hz hz2⟩)
          have HZ := hide hz
          clear g3 k0 kj hz ha hmem
          go_wp2_with fail
          go_quiet (fail)
          rename_i nq
          have hbq : Hid (Below W.heap.size W (wr.drewN nq)) := below_dr hbw.out nq
          go_wp2_with fail
          go_roundw
          case rel => exact ⟨k + 1, _, by go_num, rfl, by omega, G9, hbq⟩
          case measure => simp [intOf] <;> omega
        · have hlt3 : (60 : Int) ≤ (k : Int) := by omega
          have F : Hid (GS 18100000000000000 (Q1 m) x) := (hg.out.same fun hq => ⟨hq.1, PS_all hq.2 (by have := hq.1.cap0; omega)⟩).le (by omega)
          clear hlt2
          go_wp2_with fail
          go_meet
          exact ⟨x, rfl, F, hbw⟩
      · have hlt3 : (m.sigs.l.length : Int) ≤ (k : Int) := by omega
        have F : Hid (GS 18100000000000000 (Q1 m) x) := (hg.out.same fun hq => ⟨hq.1, PS_all hq.2 (by have := hq.1.cap0; omega)⟩).le (by omega)
        clear hlt
        go_wp2_with fail
        go_meet
        exact ⟨x, rfl, F, hbw⟩
  case rest =>
  obtain ⟨x1, rfl, G1, HB1⟩ := hcut
  go_upto_block 2 with fail
  go_cut [3] (fun g wx => ∃ x : Int, g = .int .i64 x ∧ Hid (GS 25200000000000000 (Q2 m) x) ∧ Hid (Below W.heap.size W wx))
  case first =>
    go_wp2_with fail
    go_loopw [3, 5] (fun g i wx => ∃ (k : Nat) (x : Int), i = .int .i64 k ∧ g = .int .i64 x ∧ k ≤ 25 ∧ Hid (GS (18100000000000000 + (k : Int) * 281474976702464) (Q1 m ∧ P2 m k) x) ∧ Hid (Below W.heap.size W wx)) (fun _ i _ => 200 - (intOf i).toNat)
    case atStart => exact ⟨0, _, rfl, rfl, by omega, (G1.out.same fun hq => ⟨hq, PS_nil⟩).le (by omega), HB1⟩
    case round =>
      obtain ⟨k, x, rfl, rfl, hk, hg, hbw⟩ := hrel
      obtain ⟨c0, c1, c2, c4, c5, c6, c8, c9⟩ := HCL.out _ hbw.out
      by_cases hlt : k < m.imps.l.length
      · by_cases hlt2 : k < 25
        · obtain ⟨z, hz⟩ : ∃ z, m.imps.l[k]? = some z := ⟨_, List.getElem?_eq_getElem hlt⟩
          have hmem := List.mem_of_getElem? hz
          obtain ⟨ad, ha, _, k0, kj⟩ := (hM.out.below hbw.out).imps.at_ (fun _ => rfl) hz
          have q0 : wr.cell? (ad.add (k * 3)) = some (.string ⟨z.m.toArray⟩) := k0 _ rfl (by omega)
          have q1 : wr.cell? ⟨(ad.add (k * 3)).block, (ad.add (k * 3)).off + 1, none⟩ = some (.string ⟨z.n.toArray⟩) := kj 1 (by omega) (by omega) _ rfl
          obtain ⟨z1, z2⟩ := HR.out.imp z hmem
          rw [ha] at c1
          obtain ⟨g1, g2, g3⟩ := hg.out
          obtain ⟨b, hb⟩ : ∃ b : Int, max ((z.m.length : Int) + (z.n.length : Int) - 100) 0 = b := ⟨_, rfl⟩
          have hb0 : 0 ≤ b := by omega
          have hb1 : b ≤ 281474976702464 := by omega
          have G9 : Hid (GS (18100000000000000 + ((k + 1 : Nat) : Int) * 281474976702464) (Q1 m ∧ P2 m (k + 1)) (x + b)) := hg.out.more (q := z.m.length + z.n.length ≤ 100) 281474976702464 (by omega) hb0 hb1 (fun e => by omega) (fun hq hz2 => ⟨hq.1, PS_step hq.2 hz hz2⟩)
          have HZ := hide hz
          clear g3 k0 kj hz ha hmem
          go_wp2_with fail
          go_quiet (fail)
          rename_i nq
          have hbq : Hid (Below W.heap.size W (wr.drewN nq)) := below_dr hbw.out nq
          go_wp2_with fail
          go_roundw
          case rel => exact ⟨k + 1, _, by go_num, rfl, by omega, G9, hbq⟩
          case measure => simp [intOf] <;> omega
        · have hlt3 : (25 : Int) ≤ (k : Int) := by omega
          have F : Hid (GS 25200000000000000 (Q2 m) x) := (hg.out.same fun hq => ⟨hq.1, PS_all hq.2 (by have := hq.1.cap1; omega)⟩).le (by omega)
          clear hlt2
          go_wp2_with fail
          go_meet
          exact ⟨x, rfl, F, hbw⟩
      · have hlt3 : (m.imps.l.length : Int) ≤ (k : Int) := by omega
        have F : Hid (GS 25200000000000000 (Q2 m) x) := (hg.out.same fun hq => ⟨hq.1, PS_all hq.2 (by have := hq.1.cap1; omega)⟩).le (by omega)
        clear hlt
        go_wp2_with fail
        go_meet
        exact ⟨x, rfl, F, hbw⟩
  case rest =>
  obtain ⟨x2, rfl, G2, HB2⟩ := hcut
  go_upto_block 4 with fail
  go_cut [3] (fun g wx => ∃ x : Int, g = .int .i64 x ∧ Hid (GS 2446000000000000000 (Q3 m) x) ∧ Hid (Below W.heap.size W wx))
  case first =>
    go_wp2_with fail
    go_loopw [3, 6] (fun g i wx => ∃ (k : Nat) (x : Int), i = .int .i64 k ∧ g = .int .i64 x ∧ k ≤ 110 ∧ Hid (GS (25200000000000000 + (k : Int) * 22000000000000000) (Q2 m ∧ P3 m k) x) ∧ Hid (Below W.heap.size W wx)) (fun _ i _ => 200 - (intOf i).toNat)
    case atStart => exact ⟨0, _, rfl, rfl, by omega, (G2.out.same fun hq => ⟨hq, PS_nil⟩).le (by omega), HB2⟩
    case round =>
      obtain ⟨k, x, rfl, rfl, hk, hg, hbw⟩ := hrel
      obtain ⟨c0, c1, c2, c4, c5, c6, c8, c9⟩ := HCL.out _ hbw.out
      by_cases hlt : k < m.funcs.l.length
      · by_cases hlt2 : k < 110
        · obtain ⟨z, hz⟩ : ∃ z, m.funcs.l[k]? = some z := ⟨_, List.getElem?_eq_getElem hlt⟩
          have hmem := List.mem_of_getElem? hz
          obtain ⟨ad, ha, _, k0, kj⟩ := (hM.out.below hbw.out).funcs.at_ (fun _ => rfl) hz
          have q1 : wr.cell? ⟨(ad.add (k * 3)).block, (ad.add (k * 3)).off + 1, none⟩ = some (.slice z.bd.loc.at_ z.bd.loc.l.length z.bd.loc.cap) := kj 1 (by omega) (by omega) _ rfl
          have q2 : wr.cell? ⟨(ad.add (k * 3)).block, (ad.add (k * 3)).off + 2, none⟩ = some (.slice z.bd.l.at_ z.bd.l.l.length z.bd.l.cap) := kj 2 (by omega) (by omega) _ rfl
          have HC := hide (bgreat_any z.bd wr (hide ((hM.out.below hbw.out).func z hmem).2) (hide (HR.out.func z hmem)))
          rw [ha] at c2
          obtain ⟨g1, g2, g3⟩ := hg.out
          have HZ := hide hz
          clear g3 k0 kj hz ha hmem
          go_wp2_with fail
          refine HC.out.mono ?_; rintro e w9 ⟨b, rfl, hb, hb9⟩
          obtain ⟨hb0, hb1, hb2⟩ := hb.out
          have G9 : Hid (GS (25200000000000000 + ((k + 1 : Nat) : Int) * 22000000000000000) (Q2 m ∧ P3 m (k + 1)) (x + b)) := hg.out.more (q := BdLen 150 60 110 z.bd) 22000000000000000 (by omega) hb0 hb1 hb2 (fun hq hz2 => ⟨hq.1, PS_step hq.2 HZ.out hz2⟩)
          have hbq : Hid (Below W.heap.size W w9) := hbw.out.trans (hb9.out.mono hbw.out.size)
          clear hb2 HC
          go_wp2_with fail
          go_roundw
          case rel => exact ⟨k + 1, _, by go_num, rfl, by omega, G9, hbq⟩
          case measure => simp [intOf] <;> omega
        · have hlt3 : (110 : Int) ≤ (k : Int) := by omega
          have F : Hid (GS 2446000000000000000 (Q3 m) x) := (hg.out.same fun hq => ⟨hq.1, PS_all hq.2 (by have := hq.1.cap2; omega)⟩).le (by omega)
          clear hlt2
          go_wp2_with fail
          go_meet
          exact ⟨x, rfl, F, hbw⟩
      · have hlt3 : (m.funcs.l.length : Int) ≤ (k : Int) := by omega
        have F : Hid (GS 2446000000000000000 (Q3 m) x) := (hg.out.same fun hq => ⟨hq.1, PS_all hq.2 (by have := hq.1.cap2; omega)⟩).le (by omega)
        clear hlt
        go_wp2_with fail
        go_meet
        exact ⟨x, rfl, F, hbw⟩
  case rest =>
  obtain ⟨x3, rfl, G3, HB3⟩ := hcut
  go_upto_block 6 with fail
  go_cut [3] (fun g wx => ∃ x : Int, g = .int .i64 x ∧ Hid (GS 2455000000000000000 (Q4 m) x) ∧ Hid (Below W.heap.size W wx))
  case first =>
    go_wp2_with fail
    go_loopw [3, 7] (fun g i wx => ∃ (k : Nat) (x : Int), i = .int .i64 k ∧ g = .int .i64 x ∧ k ≤ 60 ∧ Hid (GS (2446000000000000000 + (k : Int) * 140737488351232) (Q3 m ∧ P4 m k) x) ∧ Hid (Below W.heap.size W wx)) (fun _ i _ => 200 - (intOf i).toNat)
    case atStart => exact ⟨0, _, rfl, rfl, by omega, (G3.out.same fun hq => ⟨hq, PS_nil⟩).le (by omega), HB3⟩
    case round =>
      obtain ⟨k, x, rfl, rfl, hk, hg, hbw⟩ := hrel
      obtain ⟨c0, c1, c2, c4, c5, c6, c8, c9⟩ := HCL.out _ hbw.out
      by_cases hlt : k < m.exs.l.length
      · by_cases hlt2 : k < 60
        · obtain ⟨z, hz⟩ : ∃ z, m.exs.l[k]? = some z := ⟨_, List.getElem?_eq_getElem hlt⟩
          have hmem := List.mem_of_getElem? hz
          obtain ⟨ad, ha, _, k0, kj⟩ := (hM.out.below hbw.out).exs.at_ (fun _ => rfl) hz
          have q0 : wr.cell? (ad.add (k * 3)) = some (.string ⟨z.name.toArray⟩) := k0 _ rfl (by omega)
          have z1 := HR.out.ex z hmem
          rw [ha] at c6
          obtain ⟨g1, g2, g3⟩ := hg.out
          obtain ⟨b, hb⟩ : ∃ b : Int, max ((z.name.length : Int) - 60) 0 = b := ⟨_, rfl⟩
          have hb0 : 0 ≤ b := by omega
          have hb1 : b ≤ 140737488351232 := by omega
          have G9 : Hid (GS (2446000000000000000 + ((k + 1 : Nat) : Int) * 140737488351232) (Q3 m ∧ P4 m (k + 1)) (x + b)) := hg.out.more (q := z.name.length ≤ 60) 140737488351232 (by omega) hb0 hb1 (fun e => by omega) (fun hq hz2 => ⟨hq.1, PS_step hq.2 hz hz2⟩)
          have HZ := hide hz
          clear g3 k0 kj hz ha hmem
          go_wp2_with fail
          go_roundw
          case rel => exact ⟨k + 1, _, by go_num, rfl, by omega, G9, hbw⟩
          case measure => simp [intOf] <;> omega
        · have hlt3 : (60 : Int) ≤ (k : Int) := by omega
          have F : Hid (GS 2455000000000000000 (Q4 m) x) := (hg.out.same fun hq => ⟨hq.1, PS_all hq.2 (by have := hq.1.cap3; omega)⟩).le (by omega)
          clear hlt2
          go_wp2_with fail
          go_meet
          exact ⟨x, rfl, F, hbw⟩
      · have hlt3 : (m.exs.l.length : Int) ≤ (k : Int) := by omega
        have F : Hid (GS 2455000000000000000 (Q4 m) x) := (hg.out.same fun hq => ⟨hq.1, PS_all hq.2 (by have := hq.1.cap3; omega)⟩).le (by omega)
        clear hlt
        go_wp2_with fail
        go_meet
        exact ⟨x, rfl, F, hbw⟩
  case rest =>
  obtain ⟨x4, rfl, G4, HB4⟩ := hcut
  go_upto_block 8 with fail
  go_cut [3] (fun g wx => ∃ x : Int, g = .int .i64 x ∧ Hid (GS 2459000000000000000 (Q5 m) x) ∧ Hid (Below W.heap.size W wx))
  case first =>
    go_wp2_with fail
    go_loopw [3, 8] (fun g i wx => ∃ (k : Nat) (x : Int), i = .int .i64 k ∧ g = .int .i64 x ∧ k ≤ 25 ∧ Hid (GS (2455000000000000000 + (k : Int) * 140737488351232) (Q4 m ∧ P5 m k) x) ∧ Hid (Below W.heap.size W wx)) (fun _ i _ => 200 - (intOf i).toNat)
    case atStart => exact ⟨0, _, rfl, rfl, by omega, (G4.out.same fun hq => ⟨hq, PS_nil⟩).le (by omega), HB4⟩
    case round =>
      obtain ⟨k, x, rfl, rfl, hk, hg, hbw⟩ := hrel
      obtain ⟨c0, c1, c2, c4, c5, c6, c8, c9⟩ := HCL.out _ hbw.out
      by_cases hlt : k < m.els.l.length
      · by_cases hlt2 : k < 25
        · obtain ⟨z, hz⟩ : ∃ z, m.els.l[k]? = some z := ⟨_, List.getElem?_eq_getElem hlt⟩
          have hmem := List.mem_of_getElem? hz
          obtain ⟨ad, ha, _, k0, kj⟩ := (hM.out.below hbw.out).els.at_ (fun _ => rfl) hz
          have q1 : wr.cell? ⟨(ad.add (k * 2)).block, (ad.add (k * 2)).off + 1, none⟩ = some (.slice z.fs.at_ z.fs.l.length z.fs.cap) := kj 1 (by omega) (by omega) _ rfl
          have z1 := HR.out.el z hmem
          rw [ha] at c8
          obtain ⟨g1, g2, g3⟩ := hg.out
          obtain ⟨b, hb⟩ : ∃ b : Int, max ((z.fs.l.length : Int) - 30) 0 = b := ⟨_, rfl⟩
          have hb0 : 0 ≤ b := by omega
          have hb1 : b ≤ 140737488351232 := by omega
          have G9 : Hid (GS (2455000000000000000 + ((k + 1 : Nat) : Int) * 140737488351232) (Q4 m ∧ P5 m (k + 1)) (x + b)) := hg.out.more (q := z.fs.l.length ≤ 30) 140737488351232 (by omega) hb0 hb1 (fun e => by omega) (fun hq hz2 => ⟨hq.1, PS_step hq.2 hz hz2⟩)
          have HZ := hide hz
          clear g3 k0 kj hz ha hmem
          go_wp2_with fail
          go_roundw
          case rel => exact ⟨k + 1, _, by go_num, rfl, by omega, G9, hbw⟩
          case measure => simp [intOf] <;> omega
        · have hlt3 : (25 : Int) ≤ (k : Int) := by omega
          have F : Hid (GS 2459000000000000000 (Q5 m) x) := (hg.out.same fun hq => ⟨hq.1, PS_all hq.2 (by have := hq.1.cap4; omega)⟩).le (by omega)
          clear hlt2
          go_wp2_with fail
          go_meet
          exact ⟨x, rfl, F, hbw⟩
      · have hlt3 : (m.els.l.length : Int) ≤ (k : Int) := by omega
        have F : Hid (GS 2459000000000000000 (Q5 m) x) := (hg.out.same fun hq => ⟨hq.1, PS_all hq.2 (by have := hq.1.cap4; omega)⟩).le (by omega)
        clear hlt
        go_wp2_with fail
        go_meet
        exact ⟨x, rfl, F, hbw⟩
  case rest =>
  obtain ⟨x5, rfl, G5, HB5⟩ := hcut
  go_upto_block 10 with fail
  go_cut [3] (fun g wx => ∃ x : Int, g = .int .i64 x ∧ Hid (GS 2463000000000000000 (Q6 m) x) ∧ Hid (Below W.heap.size W wx))
  case first =>
    go_wp2_with fail
    go_loopw [3, 9] (fun g i wx => ∃ (k : Nat) (x : Int), i = .int .i64 k ∧ g = .int .i64 x ∧ k ≤ 25 ∧ Hid (GS (2459000000000000000 + (k : Int) * 140737488351232) (Q5 m ∧ P6 m k) x) ∧ Hid (Below W.heap.size W wx)) (fun _ i _ => 200 - (intOf i).toNat)
    case atStart => exact ⟨0, _, rfl, rfl, by omega, (G5.out.same fun hq => ⟨hq, PS_nil⟩).le (by omega), HB5⟩
    case round =>
      obtain ⟨k, x, rfl, rfl, hk, hg, hbw⟩ := hrel
      obtain ⟨c0, c1, c2, c4, c5, c6, c8, c9⟩ := HCL.out _ hbw.out
      by_cases hlt : k < m.das.l.length
      · by_cases hlt2 : k < 25
        · obtain ⟨z, hz⟩ : ∃ z, m.das.l[k]? = some z := ⟨_, List.getElem?_eq_getElem hlt⟩
          have hmem := List.mem_of_getElem? hz
          obtain ⟨ad, ha, _, k0, kj⟩ := (hM.out.below hbw.out).das.at_ (fun _ => rfl) hz
          have q2 : wr.cell? ⟨(ad.add (k * 3)).block, (ad.add (k * 3)).off + 2, none⟩ = some (.slice z.bs.at_ z.bs.l.length z.bs.cap) := kj 2 (by omega) (by omega) _ rfl
          have z1 := HR.out.da z hmem
          rw [ha] at c9
          obtain ⟨g1, g2, g3⟩ := hg.out
          obtain ⟨b, hb⟩ : ∃ b : Int, max ((z.bs.l.length : Int) - 4100) 0 = b := ⟨_, rfl⟩
          have hb0 : 0 ≤ b := by omega
          have hb1 : b ≤ 140737488351232 := by omega
          have G9 : Hid (GS (2459000000000000000 + ((k + 1 : Nat) : Int) * 140737488351232) (Q5 m ∧ P6 m (k + 1)) (x + b)) := hg.out.more (q := z.bs.l.length ≤ 4100) 140737488351232 (by omega) hb0 hb1 (fun e => by omega) (fun hq hz2 => ⟨hq.1, PS_step hq.2 hz hz2⟩)
          have HZ := hide hz
          clear g3 k0 kj hz ha hmem
          go_wp2_with fail
          go_roundw
          case rel => exact ⟨k + 1, _, by go_num, rfl, by omega, G9, hbw⟩
          case measure => simp [intOf] <;> omega
        · have hlt3 : (25 : Int) ≤ (k : Int) := by omega
          have F : Hid (GS 2463000000000000000 (Q6 m) x) := (hg.out.same fun hq => ⟨hq.1, PS_all hq.2 (by have := hq.1.cap5; omega)⟩).le (by omega)
          clear hlt2
          go_wp2_with fail
          go_meet
          exact ⟨x, rfl, F, hbw⟩
      · have hlt3 : (m.das.l.length : Int) ≤ (k : Int) := by omega
        have F : Hid (GS 2463000000000000000 (Q6 m) x) := (hg.out.same fun hq => ⟨hq.1, PS_all hq.2 (by have := hq.1.cap5; omega)⟩).le (by omega)
        clear hlt
        go_wp2_with fail
        go_meet
        exact ⟨x, rfl, F, hbw⟩
  case rest =>
  obtain ⟨x6, rfl, G6, HB6⟩ := hcut
  go_wp2_with fail
  go_ret
  exact ⟨x6, rfl, (G6.out.same Q6.sm).le (by omega), HB.out.trans (HB6.out.mono HB.out.size)⟩
end
section
open Go.RowKit Go.Lib
set_option linter.unusedVariables false
section
variable {P : Program} {o : Oper} {ρ : Operand → Value} {W : World} {post : Value → World → Prop}
theorem OpOut.max2 {x y : Operand} {t : TypeId} {a b : Int} (ho : o.op = .call { callee := .builtin .max, args := #[x, y], argTypes := #[t, t] }) (hx : ρ x = .int .i64 a) (hy : ρ y = .int .i64 b) (h : post (.int .i64 (max a b)) W) : OpOut P o ρ W post :=
  ⟨by unfold execOp; simp only [ho, resolve, invoke, builtin, Sem.run_bind, Sem.run_pure, Result.andThen_ok, List.map_toArray, List.map_cons, List.map_nil, hx, hy, run_max_ints]; exact h⟩
end
def Great7 (m : MoL) (w : World) (e : Ending) (w' : World) : Prop :=
  ∃ x : Int, e = .returned (.int .i64 x) ∧ 0 ≤ x ∧ Hid (x = 0 → MoSt m ∧ m.funcs.l.length ≤ 12 ∧ m.das.l.length ≤ 4) ∧ Hid (Below w.heap.size w w')
set_option maxRecDepth 100000 in
set_option maxHeartbeats 1600000 in
theorem great7_any (m : MoL) (w : World) (h : Hid (MoIn w m)) (hr : Hid (MoRe m)) :
    Calls Tryz.prog 5 #[.agg m.cs.toArray] w (Great7 m w) := by
  obtain ⟨W, hW, hb, hxb, hsz⟩ := box_new w m.cs.toArray 31
  obtain ⟨gb, hgb⟩ : ∃ gb, w.heap.size = gb := ⟨_, rfl⟩
  rw [hgb] at hxb
  have hfl : m.funcs.l.length ≤ 140737488351232 := hr.out.funcs
  have hdl : m.das.l.length ≤ 140737488351232 := hr.out.das
  obtain ⟨a1, ha1⟩ : ∃ a : Int, max ((m.funcs.l.length : Int) - 12) 0 = a := ⟨_, rfl⟩
  obtain ⟨a2, ha2⟩ : ∃ a : Int, max ((m.das.l.length : Int) - 4) 0 = a := ⟨_, rfl⟩
  have b1 : 0 ≤ a1 ∧ a1 ≤ 140737488351232 ∧ (a1 = 0 → m.funcs.l.length ≤ 12) := by omega
  have b2 : 0 ≤ a2 ∧ a2 ≤ 140737488351232 ∧ (a2 = 0 → m.das.l.length ≤ 4) := by omega
  have HB1 := hide b1; have HB2 := hide b2; have HA1 := hide ha1; have HA2 := hide ha2
  have HW := hide hW; have HG := hide hgb; have HB := hide hb; have HX := hide hxb
  have HH := hide (h.out.below hb)
  have HFL := hide hfl; have HDL := hide hdl
  clear hW hb hxb hsz hgb ha1 ha2 b1 b2 hfl hdl
  unfold MoL.cs Sl.val at HW HX ⊢
  go_enter Tryz.func5, Tryz.ntmps5
  go_upto_region 1 with fail
  rw [HW.out, HG.out]
  refine wp_region_factsR (l := [_, _, _, _, _, _, _, _, _, _, _, _, _, _, _]) grew_ext (factsOf [fun yy _ => yy = .agg #[.slice m.sigs.at_ m.sigs.l.length m.sigs.cap, .slice m.imps.at_ m.imps.l.length m.imps.cap, .slice m.funcs.at_ m.funcs.l.length m.funcs.cap, .int .i64 m.table, .slice m.mems.at_ m.mems.l.length m.mems.cap, .slice m.gls.at_ m.gls.l.length m.gls.cap, .slice m.exs.at_ m.exs.l.length m.exs.cap, .int .i64 m.start, .slice m.els.at_ m.els.l.length m.els.cap, .slice m.das.at_ m.das.l.length m.das.cap],
    fun yy _ => ∃ x : Int, yy = .int .i64 x ∧ GS 4000000000000000000 (MoSt m) x,
    fun yy _ => yy = .pointer (some ⟨gb, 2, none⟩),
    fun yy _ => yy = .slice m.funcs.at_ m.funcs.l.length m.funcs.cap,
    fun yy _ => yy = .int .i64 (m.funcs.l.length : Int),
    fun yy _ => yy = .int .i64 ((m.funcs.l.length : Int) - 12),
    fun yy _ => yy = .int .i64 a1,
    fun yy _ => ∃ x : Int, yy = .int .i64 (x + a1) ∧ GS 4000000000000000000 (MoSt m) x,
    fun yy _ => yy = .pointer (some ⟨gb, 9, none⟩),
    fun yy _ => yy = .slice m.das.at_ m.das.l.length m.das.cap,
    fun yy _ => yy = .int .i64 (m.das.l.length : Int),
    fun yy _ => yy = .int .i64 ((m.das.l.length : Int) - 4),
    fun yy _ => yy = .int .i64 a2,
    fun yy _ => ∃ x : Int, yy = .int .i64 (x + a1 + a2) ∧ GS 4000000000000000000 (MoSt m) x,
    fun yy _ => ∃ x : Int, yy = .int .i64 (x + a1 + a2) ∧ GS 4000000000000000000 (MoSt m) x]) (by kernel_rfl) (by kernel_rfl) ?_ ?_
  · refine ⟨?_, ?_, ?_, ?_, ?_, ?_, ?_, ?_, ?_, ?_, ?_, ?_, ?_, ?_, ?_, trivial⟩
    · refine ⟨fun ρ V hk => ?_⟩
      have o1 : ρ (.tmp 1) = .pointer (some ⟨gb, 0, none⟩) := hk.old 1 (by decide)
      have hk2 := (hk.below.block gb (blk_lt HX.out)).trans HX.out
      have c0 := cell_blk hk2 0; have c1 := cell_blk hk2 1; have c2 := cell_blk hk2 2; have c3 := cell_blk hk2 3; have c4 := cell_blk hk2 4; have c5 := cell_blk hk2 5; have c6 := cell_blk hk2 6; have c7 := cell_blk hk2 7; have c8 := cell_blk hk2 8; have c9 := cell_blk hk2 9
      simp at c0 c1 c2 c3 c4 c5 c6 c7 c8 c9
      exact OpOut.load (x := .tmp 1) rfl o1 (by go_simp) ⟨Below.refl _ _, rfl⟩
    · refine ⟨fun ρ V hk => ?_⟩
      have h0 := (hk.fact 0 3 (by decide) rfl).pure
      refine OpOut.fn (args := #[.agg #[.slice m.sigs.at_ m.sigs.l.length m.sigs.cap, .slice m.imps.at_ m.imps.l.length m.imps.cap, .slice m.funcs.at_ m.funcs.l.length m.funcs.cap, .int .i64 m.table, .slice m.mems.at_ m.mems.l.length m.mems.cap, .slice m.gls.at_ m.gls.l.length m.gls.cap, .slice m.exs.at_ m.exs.l.length m.exs.cap, .int .i64 m.start, .slice m.els.at_ m.els.l.length m.els.cap, .slice m.das.at_ m.das.l.length m.das.cap]]) rfl (hk.func _) (by simp [h0]) Tryz.func18 (by kernel_rfl) rfl ?_
      have hgr := lgreat_any m V (hide (HH.out.below hk.below)) hr
      unfold MoL.cs Sl.val at hgr
      refine hgr.mono ?_; rintro e w5 ⟨x, rfl, h1, h2⟩
      exact ⟨_, rfl, h2.out, x, rfl, h1.out⟩
    · refine ⟨fun ρ V hk => ?_⟩
      have o1 : ρ (.tmp 1) = .pointer (some ⟨gb, 0, none⟩) := hk.old 1 (by decide)
      exact OpOut.fieldAddr (x := .tmp 1) rfl o1 (by go_simp) ⟨Below.refl _ _, rfl⟩
    · refine ⟨fun ρ V hk => ?_⟩
      have h2 := (hk.fact 2 5 (by decide) rfl).pure
      have c2 : V.cell? ⟨gb, 2, none⟩ = some (.slice m.funcs.at_ m.funcs.l.length m.funcs.cap) := cell_blk ((hk.below.block gb (blk_lt HX.out)).trans HX.out) 2
      exact OpOut.load (x := .tmp 5) rfl h2 (by go_simp) ⟨Below.refl _ _, rfl⟩
    · refine ⟨fun ρ V hk => ?_⟩
      have h3 := (hk.fact 3 6 (by decide) rfl).pure
      exact OpOut.len (x := .tmp 6) rfl (by kernel_rfl) h3 ⟨Below.refl _ _, rfl⟩
    · refine ⟨fun ρ V hk => ?_⟩
      have h4 := (hk.fact 4 7 (by decide) rfl).pure
      have := HFL.out
      exact OpOut.bin (x := .tmp 7) (y := .const (.int .i64 12)) (v := .int .i64 ((m.funcs.l.length : Int) - 12)) rfl (by rw [h4, hk.const]; go_simp) (by rw [h4, hk.const]; go_simp; exact IntWalk.i64_in _ ⟨by omega, by omega⟩) ⟨Below.refl _ _, rfl⟩
    · refine ⟨fun ρ V hk => ?_⟩
      have h5 := (hk.fact 5 8 (by decide) rfl).pure
      exact OpOut.max2 (x := .tmp 8) (y := .const (.int .i64 0)) rfl h5 (hk.const _) ⟨Below.refl _ _, show Value.int .i64 (max ((m.funcs.l.length : Int) - 12) 0) = .int .i64 a1 by rw [HA1.out]⟩
    · refine ⟨fun ρ V hk => ?_⟩
      obtain ⟨w1, hw1, x, h1, hx⟩ := hk.fact 1 4 (by decide) rfl
      have h6 := (hk.fact 6 9 (by decide) rfl).pure
      obtain ⟨q1, q2, _⟩ := HB1.out
      have q3 := hx.1; have q4 := hx.2.1
      exact OpOut.bin (x := .tmp 4) (y := .tmp 9) (v := .int .i64 (x + a1)) rfl (by rw [h1, h6]; go_simp) (by rw [h1, h6]; clear hx hw1; go_simp; exact IntWalk.i64_in _ ⟨by omega, by omega⟩) ⟨Below.refl _ _, x, rfl, hx⟩
    · refine ⟨fun ρ V hk => ?_⟩
      have o1 : ρ (.tmp 1) = .pointer (some ⟨gb, 0, none⟩) := hk.old 1 (by decide)
      exact OpOut.fieldAddr (x := .tmp 1) rfl o1 (by go_simp) ⟨Below.refl _ _, rfl⟩
    · refine ⟨fun ρ V hk => ?_⟩
      have h8 := (hk.fact 8 11 (by decide) rfl).pure
      have c9 : V.cell? ⟨gb, 9, none⟩ = some (.slice m.das.at_ m.das.l.length m.das.cap) := cell_blk ((hk.below.block gb (blk_lt HX.out)).trans HX.out) 9
      exact OpOut.load (x := .tmp 11) rfl h8 (by go_simp) ⟨Below.refl _ _, rfl⟩
    · refine ⟨fun ρ V hk => ?_⟩
      have h9 := (hk.fact 9 12 (by decide) rfl).pure
      exact OpOut.len (x := .tmp 12) rfl (by kernel_rfl) h9 ⟨Below.refl _ _, rfl⟩
    · refine ⟨fun ρ V hk => ?_⟩
      have h10 := (hk.fact 10 13 (by decide) rfl).pure
      have := HDL.out
      exact OpOut.bin (x := .tmp 13) (y := .const (.int .i64 4)) (v := .int .i64 ((m.das.l.length : Int) - 4)) rfl (by rw [h10, hk.const]; go_simp) (by rw [h10, hk.const]; go_simp; exact IntWalk.i64_in _ ⟨by omega, by omega⟩) ⟨Below.refl _ _, rfl⟩
    · refine ⟨fun ρ V hk => ?_⟩
      have h11 := (hk.fact 11 14 (by decide) rfl).pure
      exact OpOut.max2 (x := .tmp 14) (y := .const (.int .i64 0)) rfl h11 (hk.const _) ⟨Below.refl _ _, show Value.int .i64 (max ((m.das.l.length : Int) - 4) 0) = .int .i64 a2 by rw [HA2.out]⟩
    · refine ⟨fun ρ V hk => ?_⟩
      obtain ⟨w1, hw1, x, h1, hx⟩ := hk.fact 7 10 (by decide) rfl
      have h12 := (hk.fact 12 15 (by decide) rfl).pure
      obtain ⟨q1, q2, _⟩ := HB1.out
      obtain ⟨q5, q6, _⟩ := HB2.out
      have q3 := hx.1; have q4 := hx.2.1
      exact OpOut.bin (x := .tmp 10) (y := .tmp 15) (v := .int .i64 (x + a1 + a2)) rfl (by rw [h1, h12]; go_simp) (by rw [h1, h12]; clear hx hw1; go_simp; exact IntWalk.i64_in _ ⟨by omega, by omega⟩) ⟨Below.refl _ _, x, rfl, hx⟩
    · refine ⟨fun ρ V hk => ?_⟩
      obtain ⟨w1, hw1, x, h1, hx⟩ := hk.fact 13 16 (by decide) rfl
      exact OpOut.assign (.tmp 16) rfl ⟨Below.refl _ _, x, h1, hx⟩
  · intro vs V hbv hf
    obtain ⟨w1, hw1, x, h1, hx⟩ := hf 14 (by decide)
    have HXX := hide hx
    have hbw : Hid (Below w.heap.size w V) := HB.out.trans (hbv.mono HB.out.size)
    clear hf hw1 hbv hx
    simp only [fillL]
    rw [h1]
    clear h1
    generalize vs 0 = z0, vs 1 = z1, vs 2 = z2, vs 3 = z3, vs 4 = z4, vs 5 = z5, vs 6 = z6, vs 7 = z7, vs 8 = z8, vs 9 = z9, vs 10 = z10, vs 11 = z11, vs 12 = z12, vs 13 = z13
    go_frame
    go_wp2_with fail
    go_ret
    obtain ⟨p1, p2, p3⟩ := HB1.out
    obtain ⟨r1, r2, r3⟩ := HB2.out
    obtain ⟨s1, s2, s3⟩ := HXX.out
    exact ⟨_, rfl, by omega, (by show _ → _; intro h0; exact ⟨s3 (by omega), p3 (by omega), r3 (by omega)⟩), hbw⟩
end
end Go.Proofs.YtomppgohoplemaaGreat
