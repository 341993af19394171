/-
  The walks of layer 39 (battery), the reference: Between, Check.
-/
import Derived.Test.YtnppngaabfhkpaaFB1
import Derived.Test.YtnppngaabfhkpaaFB2
namespace Go.Proofs.Ytnppngaabfhkpaa
open Go.RowKit

end Go.Proofs.Ytnppngaabfhkpaa

/-
  The walks of layer 39 (battery), the reference: Drawn.
-/
namespace Go.Proofs.Ytnppngaabfhkpaa
open Go.RowKit

end Go.Proofs.Ytnppngaabfhkpaa

/-
  The walks of layer 39 (battery), the reference: Step.
-/
namespace Go.Proofs.Ytnppngaabfhkpaa
open Go.RowKit

end Go.Proofs.Ytnppngaabfhkpaa
