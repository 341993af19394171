/-
  The walk of the reference's Same: two lists of numbers compared.
-/
import Derived.Test.YtnppngaabfhkpaaProg
import Derived.Test.YtnppngaabfhkpaaF0Words
import Derived.Lib.Hide
import Derived.Deep.QuietTactic
import Derived.BigQuiet
namespace Go.Proofs.Ytnppngaabfhkpaa
open Go.RowKit

end Go.Proofs.Ytnppngaabfhkpaa
