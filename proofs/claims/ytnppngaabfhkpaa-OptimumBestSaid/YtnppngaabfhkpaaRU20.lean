/-
  The laws OptimumBetter and OptimumStrict, walked.
-/
import Derived.Test.YtnppngaabfhkpaaROP6
import Derived.Test.YtnppngaabfhkpaaRU19
namespace Go.Proofs.Ytnppngaabfhkpaa
open Go.RowKit
attribute [local go_sem ↓] Go.wp_at_zero Go.wp_at_succ

section
variable {ops : Array Oper} {rest : List Oper} {o : Oper} {a : Act} {W : World} {Q : Exit → Act → World → Prop}
theorem wpList_load_planG (hw : Region.wanted o (yielded ops a.tmps) = true) (s : Operand) (ho : o.op = .load 33 s) (g : Nat) (hx : a.eval s = .pointer (some ⟨g, 0, none⟩)) (y : PnM) (h : Blk W g 33 y.cs) (hk : wpList Try.prog ops Q rest (a.put o.dst y.v) W) :
    wpList Try.prog ops Q (o :: rest) a W := wpList_step fun _ hK => step_load_blk hw 33 (by kernel_rfl) (by kernel_rfl) s ho g hx h (hK _ _ hk)
end


end Go.Proofs.Ytnppngaabfhkpaa

/-
  The law OptimumFeasible, walked.
-/
namespace Go.Proofs.Ytnppngaabfhkpaa
open Go.RowKit
attribute [local go_sem ↓] Go.wp_at_zero Go.wp_at_succ

end Go.Proofs.Ytnppngaabfhkpaa
