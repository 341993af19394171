/-
  The walks of layer 43 (optimum), part 19: the guards of the laws.
-/
import Derived.Test.YtnppngaabfhkpaaJU15
namespace Go.Proofs.Ytnppngaabfhkpaa
open Go.RowKit
attribute [local go_sem ↓] Go.wp_at_zero Go.wp_at_succ
def GuardOut (Q : Prop) (w : World) (e : Ending) (w' : World) : Prop := ∃ g : Bool, e = .returned (.bool g) ∧ (g = false → Q) ∧ Below w.heap.size w w'
end Go.Proofs.Ytnppngaabfhkpaa
