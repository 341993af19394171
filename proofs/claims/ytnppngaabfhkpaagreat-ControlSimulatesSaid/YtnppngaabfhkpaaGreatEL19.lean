/-
  The walk of Shift of the program (layer 41).
-/
import Derived.Test.YtnppngaabfhkpaaGreatEL16
import Derived.Test.YtnppngaabfhkpaaGreatE0Words
import Derived.Test.YtnppngaabfhkpaaGreatEBPlain
namespace Go.Proofs.YtnppngaabfhkpaaGreat
open Go.RowKit
theorem clamp_cases (k:Int):(k ≤ 0∧¬ 96 < k∧¬ 0 < k∧clampK k=0) ∨ (96 < k∧clampK k=96) ∨ (0 < k∧¬ 96 < k∧clampK k=k):=by
 unfold clampK
 by_cases h:k < 0
 ·rw [if_pos h]; omega
 ·rw [if_neg h]
  by_cases h2:96 < k
  ·rw [if_pos h2]; omega
  ·rw [if_neg h2]; omega
end Go.Proofs.YtnppngaabfhkpaaGreat
