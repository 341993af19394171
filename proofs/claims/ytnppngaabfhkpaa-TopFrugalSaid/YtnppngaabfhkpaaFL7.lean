/-
  The walks of layer 41 (load), part 5: Check of the reference.
-/
import Derived.Test.YtnppngaabfhkpaaFL6
namespace Go.Proofs.Ytnppngaabfhkpaa
open Go.RowKit

end Go.Proofs.Ytnppngaabfhkpaa
