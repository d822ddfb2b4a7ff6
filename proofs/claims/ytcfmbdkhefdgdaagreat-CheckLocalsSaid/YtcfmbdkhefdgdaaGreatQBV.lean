import Derived.Test.YtcfmbdkhefdgdaaGreatQAP
set_option linter.unusedVariables false
namespace Go.Proofs.YtcfmbdkhefdgdaaGreat
open Go.RowKit
structure OnlyE (S : List Nat) (eg fo : Nat) (w w' : World) : Prop where
  only : Only S w w'
  cell : ∀ i, i ≠ fo → eg < w.heap.size → w'.cell? ⟨eg, i, none⟩ = w.cell? ⟨eg, i, none⟩
theorem OnlyE.of_below {S : List Nat} {eg fo : Nat} {a b : World} (h : Below a.heap.size a b) : OnlyE S eg fo a b := ⟨Only.of_below h, fun i _ hl => h.cell hl⟩
theorem OnlyE.ext (S : List Nat) (eg fo : Nat) : IsExt (OnlyE S eg fo) :=
  ⟨fun w => ⟨Only.refl S w, fun _ _ _ => rfl⟩, fun {a b c} h k => ⟨h.only.trans k.only, fun i hi hl => (k.cell i hi (Nat.lt_of_lt_of_le hl h.only.size)).trans (h.cell i hi hl)⟩, fun w => ⟨Only.drew S w, fun _ _ _ => rfl⟩⟩
theorem OnlyE.set {S : List Nat} {eg fo : Nat} (hS : eg ∈ S) (w : World) (u : Value) : OnlyE S eg fo w (w.setCell ⟨eg, fo, none⟩ u) :=
  ⟨Only.setCell w (p := ⟨eg, fo, none⟩) hS u, fun i hi _ => World.cell?_setCell_other w _ _ u (fun e => by injection e; omega)⟩
theorem OnlyE.grows {S : List Nat} {eg fo : Nat} {w w' : World} {v v' : Value} (hg : Grows w w' v v') (hS : ∀ q, v.ownBlock = some q → q ∈ S) (hne : ∀ q, v.ownBlock = some q → q ≠ eg) : OnlyE S eg fo w w' :=
  ⟨hg.only.more (fun x hx => hS x (by simpa using hx)), fun i _ hl => World.cell?_of_block (hg.only.block eg hl (fun hm => hne eg (by simpa using hm) rfl))⟩
def LiesL (L : Nat) (v v' : Value) : Prop := v'.ownBlock = v.ownBlock ∨ ∃ g, v'.ownBlock = some g ∧ L ≤ g
theorem LiesL.apart {L : Nat} {v v' : Value} (h : LiesL L v v') {q : Nat} (h1 : v.ownBlock ≠ some q) (hq : q < L) : v'.ownBlock ≠ some q := by
  rcases h with e | ⟨g, e, hg⟩
  · rw [e]; exact h1
  · rw [e]; intro h; injection h; omega
theorem reads_one {w : World} {q size : Nat} {us : List Value} {t : TypeId} (h : w.heap[q]? = some (.cells us.toArray t (0, 0))) (hl : us.length = size) : Reads w w.heap.size size (some ⟨q, 0, none⟩) 1 us := by
  refine ⟨by omega, fun _ => ⟨_, rfl, blk_lt h, fun j u hu => ?_⟩⟩
  rw [show (⟨q, 0, none⟩ : Addr).add j = ⟨q, j, none⟩ from by unfold Addr.add; split <;> simp_all, cell_blk h j]
  simpa using hu
end Go.Proofs.YtcfmbdkhefdgdaaGreat
