/-
  Words on blocks, over any program: what stays where only some blocks are written.
-/
import Derived.Test.YtpanlhbdphobdaaGreatDoorRows
import Derived.Test.YtpanlhbdphobdaaGreatDoorDeAC
import Derived.Test.YtpanlhbdphobdaaGreatDoorDeAD
import Derived.Laws.Tables
namespace Go.Proofs.YtpanlhbdphobdaaGreatDoor
open Go.RowKit

theorem blk_lt {w : World} {g : Nat} {o : Obj} (h : w.heap[g]? = some o) : g < w.heap.size := (Array.getElem?_eq_some_iff.1 h).1
theorem cell_blk {w : World} {g : Nat} {cs : Array Value} {t : TypeId} (h : w.heap[g]? = some (.cells cs t (0, 0))) (i : Nat) : w.cell? ⟨g, i, none⟩ = cs[i]? := cell_of_row w g i cs t (0, 0) h
theorem frozen_blk {w : World} {g : Nat} {cs : Array Value} {t : TypeId} (h : w.heap[g]? = some (.cells cs t (0, 0))) (i : Nat) : w.frozen? ⟨g, i, none⟩ = false := by simp [World.frozen?, h]
theorem setCell_blk {w : World} {g : Nat} {cs : Array Value} {t : TypeId} (h : w.heap[g]? = some (.cells cs t (0, 0))) (i : Nat) (u : Value) : (w.setCell ⟨g, i, none⟩ u).heap[g]? = some (.cells (cs.setIfInBounds i u) t (0, 0)) := by
  simp [World.setCell, Array.getElem?_modify, h]
theorem Only.drewN (S : List Nat) (w : World) (d : Nat) : Only S w (w.drewN d) := ⟨rfl, rfl, rfl, Nat.le_refl _, fun _ _ _ => rfl⟩
theorem Only.cell_some {S : List Nat} {w w' : World} (ho : Only S w w') {p : Addr} {v : Value} (h : w.cell? p = some v) (hS : p.block ∉ S) : w'.cell? p = some v := by
  have hlt : p.block < w.heap.size := by
    apply Decidable.byContradiction
    intro hn
    rw [World.cell?, Array.getElem?_eq_none (by omega)] at h
    cases h
  rw [World.cell?, ho.block _ hlt hS]
  exact h
theorem Only.then_below {S : List Nat} {a b d : World} (h : Only S a b) (k : Below a.heap.size b d) : Only S a d :=
  ⟨k.os.trans h.os, k.tape.trans h.tape, k.output.trans h.output, Nat.le_trans h.size k.size, fun i hi hn => (k.block i hi).trans (h.block i hi hn)⟩
theorem own_lt {w : World} {base : Nat} {e : TypeId} {size n : Nat} {v : Value} {xs : List Value} (h : w.ownsRow base e size v n xs) : ∀ g, v.ownBlock = some g → g < w.heap.size := fun g hg => (h.lt g hg).2
theorem own_only3 {w w' : World} {base : Nat} {e : TypeId} {size n : Nat} {v : Value} {xs : List Value} {S : List Nat} (h : w.ownsRow base e size v n xs) (ho : Only S w w') (hS : ∀ g, v.ownBlock = some g → g ∉ S) : w'.ownsRow base e size v n xs := by
  refine ⟨h.1, ?_⟩
  rcases h.2 with hn | ⟨g, cap, cur, rfl, hbg, hh, rest⟩
  · exact .inl hn
  · exact .inr ⟨g, cap, cur, rfl, hbg, (ho.block g (Array.getElem?_eq_some_iff.1 hh).1 (hS g rfl)).trans hh, rest⟩

/-- the cells of a block stay -/
structure CellsOf (w : World) (B g : Nat) (cs : Array Value) : Prop where
  out : ∀ W, grew w W → ∀ i u, cs[i]? = some u → W.cell? ⟨g, i, none⟩ = some u
  size : ∀ W, grew w W → B ≤ W.heap.size
theorem CellsOf.of {w : World} {B g : Nat} {cs : Array Value} {t : TypeId} (h : w.heap[g]? = some (.cells cs t (0, 0))) (hB : B ≤ w.heap.size) : CellsOf w B g cs :=
  ⟨fun W hW i u hu => by rw [cell_blk ((hW.block g (blk_lt h)).trans h) i]; exact hu, fun W hW => Nat.le_trans hB hW.size⟩
theorem setRow_blk {w : World} {g : Nat} {old cs : Array Value} {t : TypeId} (h : w.heap[g]? = some (.cells old t (0, 0))) : (w.setRow g cs).heap[g]? = some (.cells cs t (0, 0)) := by
  simp [World.setRow, Array.getElem?_modify, h]
theorem setRow_only (w : World) (g : Nat) (cs : Array Value) : Only [g] w (w.setRow g cs) :=
  ⟨rfl, rfl, rfl, by simp [World.setRow], fun i hi hS => by
    have hne : ¬ g = i := fun e => hS (by simp [e])
    simp [World.setRow, Array.getElem?_modify, hne]⟩
end Go.Proofs.YtpanlhbdphobdaaGreatDoor
