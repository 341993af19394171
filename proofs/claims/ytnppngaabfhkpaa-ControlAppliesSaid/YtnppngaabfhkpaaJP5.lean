/-
  The walks of layer 38 (tariff), part 5: Total of the program and of the reference.
-/
import Derived.Test.YtnppngaabfhkpaaJP3
import Derived.Test.YtnppngaabfhkpaaJL16
namespace Go.Proofs.Ytnppngaabfhkpaa
open Go.RowKit
attribute [local go_sem ↓] Go.wp_at_zero Go.wp_at_succ
end Go.Proofs.Ytnppngaabfhkpaa
