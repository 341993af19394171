/-
  The walk of Shift of the program (layer 41).
-/
import Derived.Test.YtnppngaabfhkpaaFL16
import Derived.Test.YtnppngaabfhkpaaF0Words
import Derived.Test.YtnppngaabfhkpaaFLPlain
namespace Go.Proofs.Ytnppngaabfhkpaa
open Go.RowKit

end Go.Proofs.Ytnppngaabfhkpaa
