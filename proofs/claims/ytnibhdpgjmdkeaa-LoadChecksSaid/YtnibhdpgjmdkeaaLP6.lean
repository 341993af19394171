/-
  The plain mathematics of the sums of lists, slot by slot (layer 41).
-/
import Derived.Test.YtnibhdpgjmdkeaaLP5
namespace Go.Proofs.Ytnibhdpgjmdkeaa

def addTo (ls : List (List Int)) (k i : Nat) : Int := sumZ ((ls.take k).map fun l => l.getD i 0)
theorem addTo_succ {ls : List (List Int)} {k : Nat} (hk : k < ls.length) (i : Nat) : addTo ls (k + 1) i = addTo ls k i + ls[k].getD i 0 := by
  unfold addTo
  rw [List.take_succ_eq_append_getElem hk, List.map_append, sumZ_append]
  simp [sumZ]
theorem addTo_zero (ls : List (List Int)) (i : Nat) : addTo ls 0 i = 0 := by simp [addTo, sumZ]
theorem getD_bd {l : List Int} {b : Int} (h : ∀ v ∈ l, 0 ≤ v ∧ v ≤ b) (hb : 0 ≤ b) (i : Nat) : 0 ≤ l.getD i 0 ∧ l.getD i 0 ≤ b := by
  by_cases hi : i < l.length
  · have := h _ (List.getElem_mem hi)
    simpa [List.getD, hi] using this
  · simp [List.getD, List.getElem?_eq_none (Nat.le_of_not_lt hi), hb]
theorem addTo_bd {ls : List (List Int)} (h : ∀ l ∈ ls, ∀ v ∈ l, 0 ≤ v ∧ v ≤ 1000) (k i : Nat) : 0 ≤ addTo ls k i ∧ addTo ls k i ≤ 1000 * (k : Int) := by
  induction k with
  | zero => rw [addTo_zero]; omega
  | succ k ih =>
    by_cases hk : k < ls.length
    · rw [addTo_succ hk]
      have := getD_bd (h _ (List.getElem_mem hk)) (by omega) i
      omega
    · unfold addTo at ih ⊢
      rw [List.take_of_length_le (by omega)] at ih ⊢
      omega
/-- What add returns. -/
def addL (ls : List (List Int)) (n : Nat) : List Int := (List.range n).map (addTo ls ls.length)
/-- The sums while the list k is being added, places below j done. -/
def addMid (ls : List (List Int)) (k j i : Nat) : Int := if i < j then addTo ls (k + 1) i else addTo ls k i
theorem addMid_zero (ls : List (List Int)) (k i : Nat) : addMid ls k 0 i = addTo ls k i := by simp [addMid]
theorem addMid_full {ls : List (List Int)} {k n i : Nat} (h : i < n) : addMid ls k n i = addTo ls (k + 1) i := by simp [addMid, h]
theorem addMid_succ {ls : List (List Int)} {k j : Nat} (i : Nat) : addMid ls k (j + 1) i = if i = j then addTo ls (k + 1) j else addMid ls k j i := by
  unfold addMid
  by_cases h : i = j
  · subst h; simp
  · rw [if_neg h]
    by_cases h2 : i < j
    · rw [if_pos h2, if_pos (by omega)]
    · rw [if_neg h2, if_neg (by omega)]
theorem addMid_bd {ls : List (List Int)} (h : ∀ l ∈ ls, ∀ v ∈ l, 0 ≤ v ∧ v ≤ 1000) (k j i : Nat) : 0 ≤ addMid ls k j i ∧ addMid ls k j i ≤ 1000 * (k : Int) + 1000 := by
  have h1 := addTo_bd h k i
  have h2 := addTo_bd h (k + 1) i
  unfold addMid
  split <;> omega

/-- The slots that Uses speaks of. -/
def slotsN (n : Int) : Nat := if n < 0 then 0 else if 96 < n then 96 else n.toNat
theorem slotsN_le (n : Int) : slotsN n ≤ 96 := by unfold slotsN; split <;> (try split) <;> omega
/-- What the first k loads with a start use in a slot. -/
def useTo (ls : List Ld) (ss : List Int) (i : Int) (k : Nat) : Int := sumZ (((ls.zip ss).take k).map fun x => x.1.use x.2 i)
def usesL (ls : List Ld) (ss : List Int) (n : Int) : List Int := (List.range (slotsN n)).map fun (i : Nat) => useTo ls ss i (min ls.length ss.length)
theorem useTo_succ {ls : List Ld} {ss : List Int} {k : Nat} (h1 : k < ls.length) (h2 : k < ss.length) (i : Int) : useTo ls ss i (k + 1) = useTo ls ss i k + ls[k].use ss[k] i := by
  unfold useTo
  rw [List.take_succ_eq_append_getElem (by rw [List.length_zip]; omega), List.map_append, sumZ_append]
  simp [sumZ]
theorem useTo_zero (ls : List Ld) (ss : List Int) (i : Int) : useTo ls ss i 0 = 0 := by simp [useTo, sumZ]
theorem useTo_bd (ls : List Ld) (ss : List Int) (i : Int) (k : Nat) : 0 ≤ useTo ls ss i k ∧ useTo ls ss i k ≤ 1000 * (k : Int) := by
  induction k with
  | zero => rw [useTo_zero]; omega
  | succ k ih =>
    by_cases h : k < (ls.zip ss).length
    · rw [List.length_zip] at h
      rw [useTo_succ (by omega) (by omega)]
      have := (ls[k]'(by omega)).use_bd (ss[k]'(by omega)) i
      omega
    · unfold useTo at ih ⊢
      rw [List.take_of_length_le (by omega)] at ih ⊢
      omega
/-- The rows that the program adds. -/
def oneRow (r : Ld) (s : Int) (n : Nat) : List Int := (List.range n).map fun (i : Nat) => r.use s (i : Int)
def rowsOf (ls : List Ld) (ss : List Int) (n : Nat) : List (List Int) := (ls.zip ss).map fun x => oneRow x.1 x.2 n
theorem oneRow_length (r : Ld) (s : Int) (n : Nat) : (oneRow r s n).length = n := by simp [oneRow]
theorem oneRow_bd (r : Ld) (s : Int) (n : Nat) : ∀ v ∈ oneRow r s n, 0 ≤ v ∧ v ≤ 1000 := by
  intro v hv
  simp only [oneRow, List.mem_map, List.mem_range] at hv
  obtain ⟨i, _, rfl⟩ := hv
  exact r.use_bd s i
theorem oneRow_get {r : Ld} {s : Int} {n i : Nat} (h : i < n) : (oneRow r s n).getD i 0 = r.use s (i : Int) := by simp [oneRow, List.getD, h]
theorem rows_use (ls : List Ld) (ss : List Int) {n i : Nat} (h : i < n) (k : Nat) : addTo (rowsOf ls ss n) k i = useTo ls ss i k := by
  unfold addTo useTo rowsOf
  rw [← List.map_take, List.map_map]
  congr 1
  apply List.map_congr_left
  intro x _
  exact oneRow_get h
theorem addL_rows (ls : List Ld) (ss : List Int) (n : Int) : addL (rowsOf ls ss (slotsN n)) (slotsN n) = usesL ls ss n := by
  unfold addL usesL
  apply List.map_congr_left
  intro i hi
  rw [List.mem_range] at hi
  rw [rows_use ls ss hi]
  congr 1
  simp [rowsOf]
end Go.Proofs.Ytnibhdpgjmdkeaa
