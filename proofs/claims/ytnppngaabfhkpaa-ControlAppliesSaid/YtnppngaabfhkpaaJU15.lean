/-
  The walks of layer 43 (optimum), part 15: the list of a plan in the reference.
-/
import Derived.Test.YtnppngaabfhkpaaJU13
namespace Go.Proofs.Ytnppngaabfhkpaa
open Go.RowKit
attribute [local go_sem ↓] Go.wp_at_zero Go.wp_at_succ
end Go.Proofs.Ytnppngaabfhkpaa
namespace Go.Proofs.Ytnppngaabfhkpaa
open Go.RowKit
attribute [local go_sem ↓] Go.wp_at_zero Go.wp_at_succ
end Go.Proofs.Ytnppngaabfhkpaa
