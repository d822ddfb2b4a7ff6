/-
  Words of bytes and strings, for regions that draw their order.
-/
import Derived.Test.YtnfaaiifbiobiaaDoorMem
import Derived.Test.YtnfaaiifbiobiaaDoorRegionR
import Derived.Test.YtnfaaiifbiobiaaDoorRows
import Derived.Laws.Entries
namespace Go.Proofs.YtnfaaiifbiobiaaDoor
open Go.RowKit
set_option linter.unusedVariables false

theorem str_reads {w : World} {Bk : Nat} {A : Option Addr} {bs : List UInt8} (c : Nat) (h : Reads w Bk 1 A bs.length (bs.map B)) (W : World) (hW : ∀ p : Addr, W.cell? p = w.cell? p) :
    (convert 36 9 (.slice A bs.length c)).run Tryd.prog W = .ok (.string ⟨bs.toArray⟩) W :=
  run_string_reads _ _ 5 c Tryd.underlying36 Tryd.underlying5 Tryd.underlying9 (h.keep fun p _ => hW p)
theorem str_reads' {W : World} {Bk : Nat} {A : Option Addr} {bs : List UInt8} (n c : Nat) (hn : bs.length = n) (h : Reads W Bk 1 A n (bs.map B)) :
    (convert 36 9 (.slice A n c)).run Tryd.prog W = .ok (.string ⟨bs.toArray⟩) W := by
  subst hn
  exact str_reads c h W (fun _ => rfl)
theorem str_cat (xs ys : List UInt8) : (⟨xs.toArray⟩ : ByteArray) ++ ⟨ys.toArray⟩ = ⟨(xs ++ ys).toArray⟩ := by
  apply ByteArray.ext
  simp [ByteArray.data_append]
theorem run_cat (xs ys : List UInt8) (t : TypeId) (W : World) (h : xs.length + ys.length ≤ 9223372036854775807) : (binOp .add t (.string ⟨xs.toArray⟩) (.string ⟨ys.toArray⟩)).run Tryd.prog W = .ok (.string ⟨(xs ++ ys).toArray⟩) W := by
  go_simp
  rw [if_neg (by omega), str_cat]
theorem run_neq_same (s : ByteArray) (W : World) : (binOp .neq 9 (.string s) (.string s)).run Tryd.prog W = .ok (.bool false) W := by
  go_simp
theorem run_eql_same (s : ByteArray) (W : World) : (binOp .eql 9 (.string s) (.string s)).run Tryd.prog W = .ok (.bool true) W := by
  go_simp

section
variable {P : Program} {o : Oper} {ρ : Operand → Value} {W : World} {post : Value → World → Prop}
theorem OpOut.un {op : UnOp} {t : TypeId} {x : Operand} {v : Value} (ho : o.op = .unOp op t x) (hr : (Op.unary op (ρ x)).run P W = .ok v W) (h : post v W) : OpOut P o ρ W post :=
  ⟨by unfold execOp; rw [ho]; simp only [Sem.run_bind, Sem.run_pure, hr, Result.andThen_ok]; exact h⟩
theorem OpOut.len {x : Operand} {t : TypeId} {A : Option Addr} {n c : Nat} (ho : o.op = .call { callee := .builtin .len, args := #[x], argTypes := #[t] }) (hu : P.underlying t = some (.slice (P.elem t))) (hx : ρ x = .slice A n c) (h : post (.int .i64 n) W) : OpOut P o ρ W post :=
  ⟨by unfold execOp; simp only [ho, resolve, invoke, builtin, Sem.run_bind, Sem.run_pure, Result.andThen_ok, List.map_toArray, List.map_cons, List.map_nil, hx, run_len_slice (h := hu)]; exact h⟩
end
end Go.Proofs.YtnfaaiifbiobiaaDoor
