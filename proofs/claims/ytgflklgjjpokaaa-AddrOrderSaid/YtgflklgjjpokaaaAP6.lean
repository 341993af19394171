/-
  The plain mathematics of a round of claims, as the reference makes it (layer 8).
-/
import Derived.Test.YtgflklgjjpokaaaAP5
namespace Go.Proofs.Ytgflklgjjpokaaa

def leastMid (l : List Cl) (c : Cl) (j : Nat) : Bool := (l.take j).all fun d => !(decide (d.addr = c.addr) && decide (d.eui < c.eui))
theorem leastMid_succ {l : List Cl} {j : Nat} (hj : j < l.length) (c : Cl) : leastMid l c (j + 1) = (leastMid l c j && !(decide (l[j].addr = c.addr) && decide (l[j].eui < c.eui))) := by
  unfold leastMid
  rw [List.take_succ_eq_append_getElem hj, List.all_append]
  simp
theorem leastMid_zero (l : List Cl) (c : Cl) : leastMid l c 0 = true := by simp [leastMid]
theorem leastMid_all (l : List Cl) (c : Cl) : leastMid l c l.length = isLeast l c := by unfold leastMid isLeast; rw [List.take_of_length_le (Nat.le_refl _)]
def mixed (l : List Cl) (i : Nat) : List Cl := roundTo l i ++ l.drop i
theorem mixed_zero (l : List Cl) : mixed l 0 = l := by simp [mixed, roundTo]
theorem mixed_all (l : List Cl) : mixed l l.length = roundL l := by simp [mixed, roundTo_all]
theorem mixed_length {l : List Cl} {i : Nat} (hi : i ≤ l.length) : (mixed l i).length = l.length := by unfold mixed; rw [List.length_append, roundTo_length hi, List.length_drop]; omega
theorem mixed_get {l : List Cl} {i : Nat} (hi : i < l.length) : (mixed l i)[i]? = some l[i] := by
  unfold mixed
  rw [List.getElem?_append_right (by rw [roundTo_length (by omega)]; omega), roundTo_length (by omega), Nat.sub_self, List.getElem?_drop, Nat.add_zero]
  exact List.getElem?_eq_getElem hi
theorem mixed_succ {l : List Cl} {i : Nat} (hi : i < l.length) : mixed l (i + 1) = (mixed l i).set i (stepCl l l[i]) := by
  unfold mixed
  rw [roundTo_succ hi, List.set_append_right _ _ (by rw [roundTo_length (by omega)]; omega), roundTo_length (by omega), Nat.sub_self, List.drop_eq_getElem_cons hi, List.set_cons_zero]
  simp
theorem mixed_same {l : List Cl} {i : Nat} (hi : i < l.length) (h : isLeast l l[i] = true) : mixed l (i + 1) = mixed l i := by
  rw [mixed_succ hi, stepCl_least h]
  have e := mixed_get hi
  obtain ⟨h1, h2⟩ := List.getElem?_eq_some_iff.1 e
  rw [← h2, List.set_getElem_self]
end Go.Proofs.Ytgflklgjjpokaaa
