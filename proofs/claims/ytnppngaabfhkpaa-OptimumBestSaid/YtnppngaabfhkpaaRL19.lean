/-
  The walk of Shift of the program (layer 41).
-/
import Derived.Test.YtnppngaabfhkpaaRL16
import Derived.Test.YtnppngaabfhkpaaR0Words
import Derived.Test.YtnppngaabfhkpaaRLPlain
namespace Go.Proofs.Ytnppngaabfhkpaa
open Go.RowKit

end Go.Proofs.Ytnppngaabfhkpaa
