/-
  The plain mathematics of claims (layer 8): the check, a round.
-/
import Derived.Test.YtgflklgjjpokaaaAP3
namespace Go.Proofs.Ytgflklgjjpokaaa

structure Cl where
  eui : Int
  addr : Int
  try_ : Int
deriving DecidableEq
/-- The numbers that Go can hold. -/
structure Cl.Wf (c : Cl) : Prop where
  e0 : 0 ≤ c.eui
  e1 : c.eui < 18446744073709551616
  a0 : -9223372036854775808 ≤ c.addr
  a1 : c.addr ≤ 9223372036854775807
  t0 : -9223372036854775808 ≤ c.try_
  t1 : c.try_ ≤ 9223372036854775807
def Cl.ok (c : Cl) : Bool := decide (0 ≤ c.try_) && (decide (c.try_ ≤ 100000) && decide (c.addr = pickZ c.eui c.try_))
def seenTo (l : List Cl) (k : Nat) (e : Int) : Bool := decide (e ∈ (l.take k).map Cl.eui)
theorem seenTo_zero (l : List Cl) (e : Int) : seenTo l 0 e = false := by simp [seenTo]
theorem seenTo_succ {l : List Cl} {k : Nat} (hk : k < l.length) (e : Int) : seenTo l (k + 1) e = (decide (e = l[k].eui) || seenTo l k e) := by
  unfold seenTo
  rw [List.take_succ_eq_append_getElem hk, Bool.eq_iff_iff]
  simp only [List.map_append, List.map_cons, List.map_nil, List.mem_append, List.mem_singleton, decide_eq_true_iff, Bool.or_eq_true]
  exact Or.comm
def clErr (l : List Cl) (i : Nat) : Int := match l[i]? with
  | none => 0
  | some c => if seenTo l i c.eui = true then 9 else if c.ok = true then 0 else 2
def clTo (l : List Cl) : Nat → Int
  | 0 => 0
  | k + 1 => if clTo l k = 0 then clErr l k else clTo l k
def clChk (l : List Cl) : Int := if 24 < l.length then 3 else clTo l l.length
theorem clTo_stay {l : List Cl} {k m : Nat} (h : clTo l k ≠ 0) (hm : k ≤ m) : clTo l m = clTo l k := by
  induction m with
  | zero => rw [show k = 0 by omega]
  | succ m ih =>
    by_cases e : k = m + 1
    · rw [e]
    · have := ih (by omega)
      rw [clTo, this, if_neg h]
theorem clTo_hit {l : List Cl} {k : Nat} (h0 : clTo l k = 0) (h : clErr l k ≠ 0) (hk : k < l.length) (h4 : l.length ≤ 24) : clChk l = clErr l k := by
  unfold clChk
  rw [if_neg (by omega)]
  have h1 : clTo l (k + 1) = clErr l k := by rw [clTo, if_pos h0]
  rw [clTo_stay (k := k + 1) (by rw [h1]; exact h) (by omega), h1]
theorem clTo_go {l : List Cl} {k : Nat} (h0 : clTo l k = 0) (h : clErr l k = 0) : clTo l (k + 1) = 0 := by rw [clTo, if_pos h0, h]
theorem clErr_eq {l : List Cl} {k : Nat} (hk : k < l.length) : clErr l k = if seenTo l k l[k].eui = true then 9 else if l[k].ok = true then 0 else 2 := by
  unfold clErr; rw [List.getElem?_eq_getElem hk]
theorem clChk_dup {l : List Cl} {k : Nat} (h0 : clTo l k = 0) (hk : k < l.length) (h4 : l.length ≤ 24) (hs : seenTo l k l[k].eui = true) : clChk l = 9 := by
  have h := clErr_eq hk
  rw [if_pos hs] at h
  rw [clTo_hit h0 (by rw [h]; decide) hk h4, h]
theorem clChk_bad {l : List Cl} {k : Nat} (h0 : clTo l k = 0) (hk : k < l.length) (h4 : l.length ≤ 24) (hs : seenTo l k l[k].eui = false) (ho : l[k].ok = false) : clChk l = 2 := by
  have h := clErr_eq hk
  rw [hs, ho, if_neg (by decide), if_neg (by decide)] at h
  rw [clTo_hit h0 (by rw [h]; decide) hk h4, h]
theorem clTo_ok {l : List Cl} {k : Nat} (h0 : clTo l k = 0) (hk : k < l.length) (hs : seenTo l k l[k].eui = false) (ho : l[k].ok = true) : clTo l (k + 1) = 0 := by
  have h := clErr_eq hk
  rw [hs, ho, if_neg (by decide), if_pos rfl] at h
  exact clTo_go h0 h
theorem Cl.ok_cases (c : Cl) : (c.ok = false ∧ c.try_ < 0) ∨ (c.ok = false ∧ ¬ c.try_ < 0 ∧ 100000 < c.try_) ∨ (c.ok = false ∧ ¬ c.try_ < 0 ∧ ¬ 100000 < c.try_ ∧ c.addr ≠ pickZ c.eui c.try_) ∨ (c.ok = true ∧ ¬ c.try_ < 0 ∧ ¬ 100000 < c.try_ ∧ c.addr = pickZ c.eui c.try_) := by
  unfold Cl.ok
  by_cases h1 : 0 ≤ c.try_ <;> by_cases h2 : c.try_ ≤ 100000 <;> by_cases h3 : c.addr = pickZ c.eui c.try_ <;> simp [h1, h2, h3] <;> omega
/-- What a list that Check takes is. -/
structure ClGood (l : List Cl) : Prop where
  len : l.length ≤ 24
  ok : ∀ c ∈ l, c.ok = true
  apart : ∀ i j, (hi : i < l.length) → (hj : j < l.length) → l[i].eui = l[j].eui → i = j
theorem clTo_zero_le {l : List Cl} {k m : Nat} (h : clTo l m = 0) (hk : k ≤ m) : clTo l k = 0 := by
  by_cases e : clTo l k = 0
  · exact e
  · rw [clTo_stay e hk] at h; exact absurd h e
theorem clGood {l : List Cl} (h : clChk l = 0) : ClGood l := by
  unfold clChk at h
  by_cases h24 : 24 < l.length
  · rw [if_pos h24] at h; cases h
  · rw [if_neg h24] at h
    have he : ∀ k, (hk : k < l.length) → seenTo l k l[k].eui = false ∧ l[k].ok = true := by
      intro k hk
      have h1 := clTo_zero_le h (k := k + 1) (by omega)
      have h0 := clTo_zero_le h (k := k) (by omega)
      rw [clTo, if_pos h0, clErr_eq hk] at h1
      split at h1
      · cases h1
      · rename_i hs
        split at h1
        · rename_i ho; exact ⟨by simpa using hs, ho⟩
        · cases h1
    have hlt : ∀ i j, (hi : i < l.length) → (hj : j < l.length) → i < j → l[i].eui ≠ l[j].eui := by
      intro i j hi hj hij e
      have h1 := (he j hj).1
      unfold seenTo at h1
      rw [decide_eq_false_iff_not] at h1
      apply h1
      rw [← e]
      exact List.mem_map_of_mem (List.mem_iff_getElem.2 ⟨i, by rw [List.length_take]; omega, by simp⟩)
    refine ⟨by omega, fun c hc => ?_, fun i j hi hj e => ?_⟩
    · obtain ⟨i, hi, rfl⟩ := List.mem_iff_getElem.1 hc
      exact (he i hi).2
    · rcases Nat.lt_trichotomy i j with h1 | h1 | h1
      · exact absurd e (hlt i j hi hj h1)
      · exact h1
      · exact absurd e.symm (hlt j i hj hi h1)
end Go.Proofs.Ytgflklgjjpokaaa
