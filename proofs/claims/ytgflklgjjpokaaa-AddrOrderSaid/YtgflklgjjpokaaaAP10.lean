/-
  The plain mathematics of AddrProbes (layer 8).
-/
import Derived.Test.YtgflklgjjpokaaaAP9
namespace Go.Proofs.Ytgflklgjjpokaaa

/-- Has an address come among the first k attempts from t on? -/
def cameTo (e t : Int) (k : Nat) (a : Int) : Bool := (List.range k).any fun (i : Nat) => decide (pickZ e (t + (i : Int)) = a)
theorem cameTo_zero (e t a : Int) : cameTo e t 0 a = false := by simp [cameTo]
theorem cameTo_succ (e t : Int) (k : Nat) (a : Int) : cameTo e t (k + 1) a = (cameTo e t k a || decide (pickZ e (t + (k : Int)) = a)) := by simp [cameTo, List.range_succ]
theorem pickZ_probe {e t : Int} (h : 15 ≤ t) : pickZ e t = (pickLow e 15 - 1 + (t - 15) % 250) % 250 + 1 := by
  have hb := pickLow_bd e 15
  have ht : tryZ t = t := by unfold tryZ; rw [if_neg (by omega)]
  unfold pickZ
  rw [ht]
  by_cases h15 : t = 15
  · rw [if_pos (by omega), h15]; omega
  · rw [if_neg (by omega)]
theorem probe_new {e t : Int} {k : Nat} (h : 15 ≤ t) (hk : k < 250) : cameTo e t k (pickZ e (t + (k : Int))) = false := by
  have hb := pickLow_bd e 15
  unfold cameTo
  rw [← Bool.not_eq_true, List.any_eq_true]
  rintro ⟨i, hi, he⟩
  rw [List.mem_range] at hi
  rw [decide_eq_true_iff, pickZ_probe (by omega), pickZ_probe (by omega)] at he
  omega
end Go.Proofs.Ytgflklgjjpokaaa
