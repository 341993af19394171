/-
  The walks of layer 42 (plan), part 7: Run of the program, where the problem is valid.
-/
import Derived.Test.YtnppngaabfhkpaaJP7
import Derived.Test.YtnppngaabfhkpaaJL16
namespace Go.Proofs.Ytnppngaabfhkpaa
open Go.RowKit
attribute [local go_sem ↓] Go.wp_at_zero Go.wp_at_succ
end Go.Proofs.Ytnppngaabfhkpaa
