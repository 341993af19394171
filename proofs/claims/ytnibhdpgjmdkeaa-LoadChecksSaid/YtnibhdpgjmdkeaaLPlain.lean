/-
  The plain mathematics of names (layer 4) and of flexible loads (layer 41). No program in sight.
-/
import Derived.Calls
namespace Go.Proofs.Ytnibhdpgjmdkeaa

/-- The number at a place of a text. -/
def byteN (s : ByteArray) (i : Nat) : Nat := if h : i < s.size then (s[i]'h).toNat else 0
theorem byteN_lt {s : ByteArray} {i : Nat} (h : i < s.size) : byteN s i = (s[i]'h).toNat := by unfold byteN; rw [dif_pos h]
theorem byteN_bd (s : ByteArray) (i : Nat) : byteN s i < 256 := by
  unfold byteN
  split
  · exact UInt8.toNat_lt _
  · omega
/-- May the number stand at the place i of a name? -/
def okByte (i c : Nat) : Bool := (decide (97 ≤ c) && decide (c ≤ 122)) || (decide (i ≠ 0) && (decide (c = 95) || (decide (c = 45) || (decide (48 ≤ c) && decide (c ≤ 57)))))
def okTo (s : ByteArray) (k : Nat) : Bool := (List.range k).all fun i => okByte i (byteN s i)
theorem okTo_succ (s : ByteArray) (k : Nat) : okTo s (k + 1) = (okTo s k && okByte k (byteN s k)) := by simp [okTo, List.range_succ, List.all_append]
theorem okTo_le {s : ByteArray} {k m : Nat} (h : okTo s k = false) (hm : k ≤ m) : okTo s m = false := by
  rw [← Bool.not_eq_true] at h ⊢
  simp only [okTo, List.all_eq_true, List.mem_range] at h ⊢
  exact fun g => h fun i hi => g i (by omega)
/-- Is it a name? -/
def nameOk (s : ByteArray) : Bool := decide (1 ≤ s.size ∧ s.size ≤ 24) && okTo s s.size
theorem okByte_cases (i c : Nat) : (okByte i c = true ∧ ((97 ≤ c ∧ c ≤ 122) ∨ ((c < 97 ∨ 122 < c) ∧ i ≠ 0 ∧ c = 95) ∨ ((c < 97 ∨ 122 < c) ∧ i ≠ 0 ∧ c ≠ 95 ∧ c = 45) ∨ ((c < 97 ∨ 122 < c) ∧ i ≠ 0 ∧ c ≠ 95 ∧ c ≠ 45 ∧ 48 ≤ c ∧ c ≤ 57))) ∨
    (okByte i c = false ∧ (c < 97 ∨ 122 < c) ∧ (i = 0 ∨ (i ≠ 0 ∧ c ≠ 95 ∧ c ≠ 45 ∧ (c < 48 ∨ 57 < c)))) := by
  unfold okByte
  by_cases h1 : 97 ≤ c <;> by_cases h2 : c ≤ 122 <;> by_cases h3 : i = 0 <;> by_cases h4 : c = 95 <;> by_cases h5 : c = 45 <;> by_cases h6 : 48 ≤ c <;> by_cases h7 : c ≤ 57 <;> simp [*] <;> omega
end Go.Proofs.Ytnibhdpgjmdkeaa
