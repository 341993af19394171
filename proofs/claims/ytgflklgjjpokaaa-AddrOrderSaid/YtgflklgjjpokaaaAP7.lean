/-
  The plain mathematics of the conflicts of claims (layer 8).
-/
import Derived.Test.YtgflklgjjpokaaaAP6
namespace Go.Proofs.Ytgflklgjjpokaaa

def countTo (l : List Cl) (k : Nat) (a : Int) : Int := (((l.take k).filter fun c => decide (c.addr = a)).length : Nat)
def seenAt (l : List Cl) (k : Nat) (a : Int) : Bool := (l.take k).any fun c => decide (c.addr = a)
theorem countTo_zero (l : List Cl) (a : Int) : countTo l 0 a = 0 := by simp [countTo]
theorem seenAt_zero (l : List Cl) (a : Int) : seenAt l 0 a = false := by simp [seenAt]
theorem countTo_succ {l : List Cl} {k : Nat} (hk : k < l.length) (a : Int) : countTo l (k + 1) a = if a = l[k].addr then countTo l k a + 1 else countTo l k a := by
  unfold countTo
  rw [List.take_succ_eq_append_getElem hk, List.filter_append]
  by_cases h : a = l[k].addr
  · rw [if_pos h]; simp [h]
  · rw [if_neg h]
    have h2 : ¬ l[k].addr = a := fun e => h e.symm
    simp [h2]
theorem seenAt_succ {l : List Cl} {k : Nat} (hk : k < l.length) (a : Int) : seenAt l (k + 1) a = (decide (a = l[k].addr) || seenAt l k a) := by
  unfold seenAt
  rw [List.take_succ_eq_append_getElem hk, List.any_append, Bool.or_comm]
  congr 1
  simp only [List.any_cons, List.any_nil, Bool.or_false]
  exact decide_eq_decide.2 ⟨fun e => e.symm, fun e => e.symm⟩
theorem countTo_bd (l : List Cl) (k : Nat) (a : Int) : 0 ≤ countTo l k a ∧ countTo l k a ≤ (k : Int) := by
  unfold countTo
  have h1 := List.length_filter_le (fun c : Cl => decide (c.addr = a)) (l.take k)
  have h2 : (l.take k).length ≤ k := by rw [List.length_take]; omega
  omega
/-- The first n addresses that are claimed more than once. -/
def confTo (l : List Cl) (n : Nat) : List Int := ((List.range n).map fun (i : Nat) => (i : Int) + 1).filter fun a => decide (1 < countTo l l.length a)
theorem confTo_zero (l : List Cl) : confTo l 0 = [] := rfl
theorem confTo_yes {l : List Cl} {n : Nat} (h : 1 < countTo l l.length ((n : Int) + 1)) : confTo l (n + 1) = confTo l n ++ [(n : Int) + 1] := by
  unfold confTo
  rw [List.range_succ, List.map_append, List.filter_append]
  simp [h]
theorem confTo_no {l : List Cl} {n : Nat} (h : ¬ 1 < countTo l l.length ((n : Int) + 1)) : confTo l (n + 1) = confTo l n := by
  unfold confTo
  rw [List.range_succ, List.map_append, List.filter_append]
  simp [h]
theorem confTo_length (l : List Cl) (n : Nat) : (confTo l n).length ≤ n := by
  unfold confTo
  have h := List.length_filter_le (fun a => decide (1 < countTo l l.length a)) ((List.range n).map fun (i : Nat) => (i : Int) + 1)
  simpa using h
def confL (l : List Cl) : List Int := if clChk l = 0 then confTo l 250 else []
theorem ClGood.tries {l : List Cl} (h : ClGood l) : ∀ c ∈ l, 0 ≤ c.try_ ∧ c.try_ ≤ 1000000 := by
  intro c hc
  have := h.ok c hc
  simp only [Cl.ok, Bool.and_eq_true, decide_eq_true_iff] at this
  omega
def rndL (l : List Cl) : List Cl := if clChk l = 0 then roundL l else []
def rndN (l : List Cl) : Int := if clChk l = 0 then roundN l l.length else 0
end Go.Proofs.Ytgflklgjjpokaaa
