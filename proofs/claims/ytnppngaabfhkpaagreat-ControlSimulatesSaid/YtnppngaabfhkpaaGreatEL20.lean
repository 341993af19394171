/-
  The walk of Shift of the reference (layer 41).
-/
import Derived.Test.YtnppngaabfhkpaaGreatEL19
import Derived.Deep.RegionHeld3
import Derived.Deep.DrawnRows
namespace Go.Proofs.YtnppngaabfhkpaaGreat
open Go.RowKit
attribute [local go_sem ↓] Go.wp_at_zero Go.wp_at_succ
section
variable {r:Ld} {n:Nat} {K:Int} {w1 w5:World} {A':Option Addr} {c' g:Nat}
end
end Go.Proofs.YtnppngaabfhkpaaGreat
