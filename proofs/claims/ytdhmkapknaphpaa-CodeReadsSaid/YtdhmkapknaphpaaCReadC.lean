/-
  code: a body's instructions as they lie, with labels of their own: what keeps them.
-/
import Derived.Test.YtdhmkapknaphpaaCReadB
import Derived.Test.YtdhmkapknaphpaaNestD
namespace Go.Proofs.Ytdhmkapknaphpaa
open Go.RowKit
set_option linter.unusedVariables false

/-- an instruction and where its labels lie, as the blocks' words have it -/
def toX (y : Value × DI) : Int × Int × Int × Int × Value := ((y.2.code : Int), (y.2.a : Int), (y.2.b : Int), (y.2.al : Int), y.1)
def insV (ys : List (Value × DI)) : List Value := (ys.map toX).flatMap insD
theorem insV_snoc (ys : List (Value × DI)) (y : Value × DI) : insV (ys ++ [y]) = insV ys ++ [.int .i64 (y.2.code : Int), .int .u64 (y.2.a : Int), .int .u64 (y.2.b : Int), .int .i64 (y.2.al : Int), y.1] := by simp [insV, insD, toX]
def dis (ys : List (Value × DI)) : List DI := ys.map (·.2)
theorem dis_snoc (ys : List (Value × DI)) (y : Value × DI) : dis (ys ++ [y]) = dis ys ++ [y.2] := by simp [dis]
theorem dis_len (ys : List (Value × DI)) : (dis ys).length = ys.length := by simp [dis]

/-- instructions in memory of the call's own: 'v' leads to them; 'vs' and 'vo' lead elsewhere -/
structure IR (w : World) (base : Nat) (e : TypeId) (vs vo v : Value) (ys : List (Value × DI)) : Prop where
  row : w.ownsRow base e 5 v ys.length (insV ys)
  labs : ∀ y ∈ ys, w.ownsRow base 24 1 y.1 y.2.l.length (y.2.l.map U)
  rowA : ∀ g, v.ownBlock = some g → vs.ownBlock ≠ some g ∧ vo.ownBlock ≠ some g
  labA : ∀ y ∈ ys, ∀ g, y.1.ownBlock = some g → vs.ownBlock ≠ some g ∧ vo.ownBlock ≠ some g ∧ v.ownBlock ≠ some g
theorem IR.keep {w w' : World} {base : Nat} {e : TypeId} {vs vo v : Value} {ys : List (Value × DI)} {S : List Nat} (h : IR w base e vs vo v ys) (ho : Only S w w') (hS : ∀ x ∈ S, x < base) : IR w' base e vs vo v ys :=
  ⟨own_only3 h.row ho (fun g hg hx => by have := own_ge h.row g hg; have := hS g hx; omega), fun y hy => own_only3 (h.labs y hy) ho (fun g hg hx => by have := own_ge (h.labs y hy) g hg; have := hS g hx; omega), h.rowA, h.labA⟩
theorem IR.nil (w : World) (base : Nat) (e : TypeId) (vs vo : Value) : IR w base e vs vo (.slice none 0 0) [] := ⟨own_nil _ _ _ _, (fun y hy => by simp at hy), (fun g hg => by cases hg), (fun y hy => by simp at hy)⟩
/-- a step on the blocks -/
theorem IR.stepped {w w' : World} {nb : Nat} {e : TypeId} {vs vo vs' vo' v : Value} {ys : List (Value × DI)} (h : IR w (nb + 1) e vs vo v ys) (hw : NW w w' nb vs vo vs' vo') : IR w' (nb + 1) e vs' vo' v ys := by
  have key : ∀ (t : TypeId) (n m : Nat) (u : Value) (xs : List Value), w.ownsRow (nb + 1) t n u m xs → (∀ g, u.ownBlock = some g → vs.ownBlock ≠ some g ∧ vo.ownBlock ≠ some g) → w'.ownsRow (nb + 1) t n u m xs ∧ (∀ g, u.ownBlock = some g → vs'.ownBlock ≠ some g ∧ vo'.ownBlock ≠ some g) := by
    intro t n m u xs ho hA
    refine ⟨own_only3 ho hw.only (fun g hg hm => ?_), fun g hg => ⟨hw.ls.apart (hA g hg).1 (own_lt ho g hg), hw.lo.apart (hA g hg).2 (own_lt ho g hg)⟩⟩
    have h1 := own_ge ho g hg
    simp only [List.mem_cons, List.mem_append, Option.mem_toList] at hm
    rcases hm with hm | hm | hm
    · omega
    · exact (hA g hg).1 hm
    · exact (hA g hg).2 hm
  obtain ⟨k1, k2⟩ := key _ _ _ _ _ h.row h.rowA
  refine ⟨k1, fun y hy => (key _ _ _ _ _ (h.labs y hy) (fun g hg => ⟨(h.labA y hy g hg).1, (h.labA y hy g hg).2.1⟩)).1, k2, fun y hy g hg => ?_⟩
  obtain ⟨_, j2⟩ := key _ _ _ _ _ (h.labs y hy) (fun g hg => ⟨(h.labA y hy g hg).1, (h.labA y hy g hg).2.1⟩)
  exact ⟨(j2 g hg).1, (j2 g hg).2, (h.labA y hy g hg).2.2⟩
/-- one instruction more -/
theorem IR.push {w w' : World} {base : Nat} {e : TypeId} {vs vo v v' : Value} {ys : List (Value × DI)} (h : IR w base e vs vo v ys) (y : Value × DI) (hy : w.ownsRow base 24 1 y.1 y.2.l.length (y.2.l.map U)) (hyA : ∀ g, y.1.ownBlock = some g → vs.ownBlock ≠ some g ∧ vo.ownBlock ≠ some g ∧ v.ownBlock ≠ some g)
    (hvs : ∀ g, vs.ownBlock = some g → g < w.heap.size) (hvo : ∀ g, vo.ownBlock = some g → g < w.heap.size)
    (hg : Grows w w' v v') (ho : w'.ownsRow base e 5 v' (ys.length + 1) (insV ys ++ [.int .i64 (y.2.code : Int), .int .u64 (y.2.a : Int), .int .u64 (y.2.b : Int), .int .i64 (y.2.al : Int), y.1])) : IR w' base e vs vo v' (ys ++ [y]) := by
  have key : ∀ z, z ∈ ys ++ [y] → w.ownsRow base 24 1 z.1 z.2.l.length (z.2.l.map U) ∧ (∀ g, z.1.ownBlock = some g → vs.ownBlock ≠ some g ∧ vo.ownBlock ≠ some g ∧ v.ownBlock ≠ some g) := by
    intro z hz
    rcases List.mem_append.1 hz with hz | hz
    · exact ⟨h.labs z hz, h.labA z hz⟩
    · simp at hz; subst hz; exact ⟨hy, hyA⟩
  refine ⟨own_cast ho (by simp) (insV_snoc ys y).symm, fun z hz => own_only3 (key z hz).1 hg.only (fun g hg' hm => ((key z hz).2 g hg').2.2 (by simpa using hm)), fun g hg' => ?_, fun z hz g hg' => ?_⟩
  · rcases hg.lies with e1 | ⟨g2, e1, hlt⟩
    · exact h.rowA g (by rw [← e1]; exact hg')
    · have : g2 = g := by rw [e1] at hg'; injection hg'
      subst this
      exact ⟨fun x => by have := hvs _ x; omega, fun x => by have := hvo _ x; omega⟩
  · obtain ⟨k1, k2⟩ := key z hz
    obtain ⟨j1, j2, j3⟩ := k2 g hg'
    exact ⟨j1, j2, Lies.apart hg.lies j3 (own_lt k1 g hg')⟩
theorem NE.keep {w w' : World} {nb : Nat} {Al : Option Addr} {n cl : Nat} {vs vo : Value} {s : NS} {S : List Nat} (h : NE w nb Al n cl vs vo s) (ho : Only S w w') (hS : ∀ x ∈ S, x < nb) : NE w' nb Al n cl vs vo s :=
  ⟨(ho.block nb (blk_lt h.blk) (fun hx => by have := hS _ hx; omega)).trans h.blk, own_only3 h.sp ho (fun g hg hx => by have := own_ge h.sp g hg; have := hS g hx; omega), own_only3 h.op ho (fun g hg hx => by have := own_ge h.op g hg; have := hS g hx; omega), h.apart⟩
/-- the instructions have grown, and the blocks know them -/
theorem NE.listed {w w' : World} {nb : Nat} {e : TypeId} {Al : Option Addr} {n cl : Nat} {vs vo : Value} {s : NS} {ys : List (Value × DI)} (h : NE w nb Al n cl vs vo s) (hi : IR w (nb + 1) e vs vo (.slice Al n cl) ys) {Al' : Option Addr} {n' cl' : Nat} (hg : Grows w w' (.slice Al n cl) (.slice Al' n' cl')) :
    NE (w'.setCell ⟨nb, 0, none⟩ (.slice Al' n' cl')) nb Al' n' cl' vs vo s := by
  have hnb := blk_lt h.blk
  have hb := hg.below (Bk := nb + 1) (by omega) (own_ge hi.row)
  have hblk := (hb.block nb (by omega)).trans h.blk
  have hs := own_only3 h.sp hg.only (fun g hg' hm => (hi.rowA g (by simpa using hm)).1 hg')
  have hp := own_only3 h.op hg.only (fun g hg' hm => (hi.rowA g (by simpa using hm)).2 hg')
  refine ⟨?_, ?_, ?_, h.apart⟩
  · rw [setCell_blk hblk]; rfl
  · exact own_only3 hs (Only.setCell (S := [nb]) w' (p := ⟨nb, 0, none⟩) (by simp) _) (fun g hg' => by have := own_ge h.sp g hg'; simp; omega)
  · exact own_only3 hp (Only.setCell (S := [nb]) w' (p := ⟨nb, 0, none⟩) (by simp) _) (fun g hg' => by have := own_ge h.op g hg'; simp; omega)
theorem IR.il {w : World} {base : Nat} {e : TypeId} {vs vo : Value} {Al : Option Addr} {n cl : Nat} {ys : List (Value × DI)} (h : IR w base e vs vo (.slice Al n cl) ys) (hn : ys.length = n) (hc : ∀ y ∈ ys, y.2.code ≤ 200000) : IL w Al n (ys.map toX) (codesD (dis ys)) := by
  subst hn
  refine ⟨Reads.of_own h.row, by simp, ?_, ?_, ?_⟩
  · simp [codesD, dis, toX]
  · intro c hm
    simp only [codesD, dis, List.map_map, List.mem_map] at hm
    obtain ⟨y, hy, rfl⟩ := hm
    have := hc y hy
    simp
    omega
  · intro x hx
    obtain ⟨y, hy, rfl⟩ := List.mem_map.1 hx
    show y.1.oneCell' = true
    obtain ⟨A, c, hv, _⟩ := own_form (h.labs y hy)
    rw [hv]
    rfl
end Go.Proofs.Ytdhmkapknaphpaa
