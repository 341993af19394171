/-
  The plain mathematics of addresses (layer 8): the hash, the address of an attempt.
-/
import Derived.WalkKit
import Derived.Laws.BitsAllLaws
namespace Go.Proofs.Ytgflklgjjpokaaa
open Go.RowKit

def fnvStep (h : Int) (b : Nat) : Int := IntKind.u64.wrap (bits .xor .u64 h (IntKind.u64.wrap (b : Int)) * 1099511628211)
def fnvTo (s : ByteArray) (k : Nat) : Int := (s.data.toList.take k).foldl (fun h b => fnvStep h b.toNat) 14695981039346656037
def fnvS (s : ByteArray) : Int := fnvTo s s.size
theorem fnvTo_zero (s : ByteArray) : fnvTo s 0 = 14695981039346656037 := by simp [fnvTo]
theorem fnvTo_succ (s : ByteArray) (k : Nat) (h : k < s.size) : fnvTo s (k + 1) = fnvStep (fnvTo s k) (s[k]'h).toNat := by
  have e : s.data.toList.take (k + 1) = s.data.toList.take k ++ [s[k]'h] := by
    rw [List.take_succ_eq_append_getElem (by simpa using h)]; rfl
  unfold fnvTo
  rw [e, List.foldl_append]
  rfl
theorem wrapU_bd (x : Int) : 0 ≤ IntKind.u64.wrap x ∧ IntKind.u64.wrap x < 18446744073709551616 := by
  simp [IntKind.wrap, IntKind.bits, IntKind.signed]
  omega
theorem fnvTo_bd (s : ByteArray) (k : Nat) : 0 ≤ fnvTo s k ∧ fnvTo s k < 18446744073709551616 := by
  unfold fnvTo
  generalize s.data.toList.take k = l
  rcases List.eq_nil_or_concat l with rfl | ⟨l', x, rfl⟩
  · simp
  · rw [List.concat_eq_append, List.foldl_append]
    exact wrapU_bd _
end Go.Proofs.Ytgflklgjjpokaaa
