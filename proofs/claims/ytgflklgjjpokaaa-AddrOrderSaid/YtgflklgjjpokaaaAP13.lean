/-
  The plain mathematics of AddrOrder (layer 8): the reversed list, rotated.
-/
import Derived.Test.YtgflklgjjpokaaaAP12
namespace Go.Proofs.Ytgflklgjjpokaaa

def rotTo (l : List Cl) (b i : Nat) : List Cl := (List.range i).map fun j => (l[rotAt l.length b j]?).getD ⟨0, 0, 0⟩
theorem rotTo_zero (l : List Cl) (b : Nat) : rotTo l b 0 = [] := rfl
theorem rotTo_length (l : List Cl) (b i : Nat) : (rotTo l b i).length = i := by simp [rotTo]
theorem rotTo_get {l : List Cl} {b i j : Nat} (hj : j < l.length) (hi : j < i) : (rotTo l b i)[j]'(by rw [rotTo_length]; exact hi) = l[rotAt l.length b j]'(rotAt_lt (by omega)) := by
  unfold rotTo
  rw [List.getElem_map, List.getElem_range, List.getElem?_eq_getElem (rotAt_lt (by omega))]
  rfl
theorem rotTo_succ {l : List Cl} {b i : Nat} (hi : i < l.length) : rotTo l b (i + 1) = rotTo l b i ++ [l[rotAt l.length b i]'(rotAt_lt (by omega))] := by
  unfold rotTo
  rw [List.range_succ, List.map_append, List.map_singleton, List.getElem?_eq_getElem (rotAt_lt (by omega))]
  rfl
theorem rot_mem (l : List Cl) (b : Nat) (x : Cl) : x ∈ l ↔ x ∈ rotTo l b l.length := by
  constructor
  · intro h
    obtain ⟨p, hp, rfl⟩ := List.mem_iff_getElem.1 h
    obtain ⟨i, hi, he⟩ := rotAt_onto (b := b) hp
    refine List.mem_iff_getElem.2 ⟨i, by rw [rotTo_length]; exact hi, ?_⟩
    rw [rotTo_get hi hi]
    simp only [he]
  · intro h
    obtain ⟨i, hi, rfl⟩ := List.mem_iff_getElem.1 h
    rw [rotTo_length] at hi
    rw [rotTo_get hi hi]
    exact List.getElem_mem _
theorem rot_good {l : List Cl} (hg : ClGood l) (b : Nat) : ClGood (rotTo l b l.length) := by
  refine ⟨by rw [rotTo_length]; exact hg.len, fun c hc => hg.ok c ((rot_mem l b c).2 hc), fun i j hi hj he => ?_⟩
  rw [rotTo_length] at hi hj
  rw [rotTo_get hi hi, rotTo_get hj hj] at he
  exact rotAt_inj hi hj (hg.apart _ _ _ _ he)
theorem rotAt_int {n b i : Nat} (hi : i < n) : (2 * (n : Int) - 1 - (i : Int) + (b : Int)).tmod (n : Int) = ((rotAt n b i : Nat) : Int) := by
  unfold rotAt
  rw [Int.tmod_eq_emod_of_nonneg (by omega), Int.natCast_emod]
  congr 1
  omega
/-- What the law compares. -/
theorem order_end {l : List Cl} (hg : ClGood l) (b : Nat) (i k : Nat) (hi : i < (iterL l 700).length) (hk : k < (iterL (rotTo l b l.length) 700).length) (he : ((iterL l 700)[i]).eui = ((iterL (rotTo l b l.length) 700)[k]).eui) : (iterL l 700)[i] = (iterL (rotTo l b l.length) 700)[k] :=
  order_same (rot_mem l b) hg 700 (List.getElem_mem hi) (List.getElem_mem hk) he
end Go.Proofs.Ytgflklgjjpokaaa
