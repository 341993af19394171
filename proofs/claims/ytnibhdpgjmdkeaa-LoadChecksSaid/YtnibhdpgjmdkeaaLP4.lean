/-
  The plain mathematics of a load's last start, its use of a slot, its energy (layer 41).
-/
import Derived.Test.YtnibhdpgjmdkeaaLP3
namespace Go.Proofs.Ytnibhdpgjmdkeaa

def Ld.last (r : Ld) : Int := if r.late < (r.prof.length : Int) then -1 else if 96 < r.late then -1 else r.late - (r.prof.length : Int)
def Ld.fit (r : Ld) (s n : Int) : Bool := decide (r.chk n = 0) && (decide (r.early ≤ s) && decide (s ≤ r.late - (r.prof.length : Int)))
def Ld.use (r : Ld) (s i : Int) : Int := if i < s then 0 else if (r.prof.length : Int) ≤ i - s then 0 else unitZ (r.prof.getD (i - s).toNat 0)
def sumZ : List Int → Int
  | [] => 0
  | x :: l => x + sumZ l
theorem sumZ_append (l m : List Int) : sumZ (l ++ m) = sumZ l + sumZ m := by
  induction l with
  | nil => simp [sumZ]
  | cons x l ih => simp only [List.cons_append, sumZ, ih]; omega
def Ld.energy (r : Ld) : Int := sumZ (r.prof.map unitZ)
theorem Ld.use_bd (r : Ld) (s i : Int) : 0 ≤ r.use s i ∧ r.use s i ≤ 1000 := by
  unfold Ld.use
  split
  · omega
  · split
    · omega
    · exact unitZ_bd _
theorem Ld.fit_mem (r : Ld) (s n : Int) : r.fit s n = decide (s ∈ r.starts n) := by
  unfold Ld.fit Ld.starts
  by_cases hc : r.chk n = 0
  · have g := Ld.good hc
    rw [if_pos hc, decide_eq_true hc, Bool.true_and, Bool.eq_iff_iff]
    have hcnt : (r.cnt : Int) = r.late - (r.prof.length : Int) - r.early + 1 := by
      have := g.p; unfold Ld.cnt; omega
    simp only [Bool.and_eq_true, decide_eq_true_iff, mem_seqFrom]
    omega
  · rw [if_neg hc, decide_eq_false hc]; simp
theorem Ld.fit_no {r : Ld} {s n : Int} (h : r.chk n ≠ 0) : r.fit s n = false := by unfold Ld.fit; rw [decide_eq_false h]; rfl
/-- The sum of the units up to a place. -/
def enTo (l : List Int) (k : Nat) : Int := sumZ ((l.take k).map unitZ)
theorem enTo_succ {l : List Int} {k : Nat} (hk : k < l.length) : enTo l (k + 1) = enTo l k + unitZ l[k] := by
  unfold enTo
  rw [List.take_succ_eq_append_getElem hk, List.map_append, sumZ_append]
  simp [sumZ]
theorem enTo_bd (l : List Int) (k : Nat) : 0 ≤ enTo l k ∧ enTo l k ≤ 1000 * (k : Int) := by
  induction k with
  | zero => simp [enTo, sumZ]
  | succ k ih =>
    by_cases hk : k < l.length
    · rw [enTo_succ hk]
      have := unitZ_bd l[k]
      omega
    · unfold enTo at ih ⊢
      rw [List.take_of_length_le (by omega)] at ih ⊢
      omega
theorem enTo_all (r : Ld) : enTo r.prof r.prof.length = r.energy := by unfold enTo Ld.energy; rw [List.take_of_length_le (by omega)]
theorem wrapU {i s : Int} (h : s ≤ i) (h1 : -9223372036854775808 ≤ s) (h2 : i ≤ 9223372036854775807) :
    (i % 18446744073709551616 - s % 18446744073709551616) % 18446744073709551616 = i - s := by omega
end Go.Proofs.Ytnibhdpgjmdkeaa
