/-
  The plain mathematics of the address of an attempt (layer 8).
-/
import Derived.Test.YtgflklgjjpokaaaAP1
import Derived.Laws.BytesArg
namespace Go.Proofs.Ytgflklgjjpokaaa
open Go.RowKit

def byteE (e : Int) (k : Nat) : Int := e / 2 ^ (56 - 8 * k) % 256
def bytesTo (e : Int) (k : Nat) : List Int := (List.range k).map (byteE e)
theorem bytesTo_succ (e : Int) (k : Nat) : bytesTo e (k + 1) = bytesTo e k ++ [byteE e k] := by simp [bytesTo, List.range_succ]
theorem bytesTo_length (e : Int) (k : Nat) : (bytesTo e k).length = k := by simp [bytesTo]
def pickBytes (e t : Int) : List Int := bytesTo e 8 ++ [t]
theorem pickBytes_length (e t : Int) : (pickBytes e t).length = 9 := by simp [pickBytes, bytesTo_length]
def pickHash (e t : Int) : Int := fnvS (strOfNums (pickBytes e t))
theorem pickHash_bd (e t : Int) : 0 ≤ pickHash e t ∧ pickHash e t < 18446744073709551616 := fnvTo_bd _ _
def pickLow (e t : Int) : Int := 1 + pickHash e t % 4294967296 % 250
theorem pickLow_bd (e t : Int) : 1 ≤ pickLow e t ∧ pickLow e t ≤ 250 := by unfold pickLow; omega
def tryZ (t : Int) : Int := if t < 0 then 0 else t
def pickZ (e t : Int) : Int := if tryZ t ≤ 15 then pickLow e (tryZ t) else (pickLow e 15 - 1 + (tryZ t - 15) % 250) % 250 + 1
theorem pickZ_low {e t : Int} (h : tryZ t ≤ 15) : pickZ e t = pickLow e (tryZ t) := by unfold pickZ; rw [if_pos h]
theorem pickZ_high {e t : Int} (h : ¬ tryZ t ≤ 15) : pickZ e t = (pickLow e 15 - 1 + (tryZ t - 15) % 250) % 250 + 1 := by unfold pickZ; rw [if_neg h]
theorem pickZ_bd (e t : Int) : 1 ≤ pickZ e t ∧ pickZ e t ≤ 250 := by
  unfold pickZ
  have := pickLow_bd e 15
  split
  · exact pickLow_bd _ _
  · omega
theorem strOfNums_size (l : List Int) : (strOfNums l).size = l.length := by
  show (strOfNums l).data.size = _
  simp [strOfNums]
end Go.Proofs.Ytgflklgjjpokaaa
