/-
  The plain mathematics of a load's starts (layer 41).
-/
import Derived.Test.YtnibhdpgjmdkeaaLP2
namespace Go.Proofs.Ytnibhdpgjmdkeaa

/-- The k numbers from a on. -/
def seqFrom (a : Int) (k : Nat) : List Int := (List.range k).map fun (i : Nat) => a + (i : Int)
theorem seqFrom_succ (a : Int) (k : Nat) : seqFrom a (k + 1) = seqFrom a k ++ [a + (k : Int)] := by simp [seqFrom, List.range_succ]
theorem seqFrom_length (a : Int) (k : Nat) : (seqFrom a k).length = k := by simp [seqFrom]
theorem mem_seqFrom {a x : Int} {k : Nat} : x ∈ seqFrom a k ↔ a ≤ x ∧ x < a + (k : Int) := by
  simp only [seqFrom, List.mem_map, List.mem_range]
  constructor
  · rintro ⟨i, hi, rfl⟩; omega
  · intro ⟨h1, h2⟩; exact ⟨(x - a).toNat, by omega, by omega⟩
/-- How many starts fit, in a load that is valid. -/
def Ld.cnt (r : Ld) : Nat := (r.late - (r.prof.length : Int) - r.early + 1).toNat
def Ld.starts (r : Ld) (n : Int) : List Int := if r.chk n = 0 then seqFrom r.early r.cnt else []
/-- What is known of a valid load. -/
structure Ld.Good (r : Ld) (n : Int) : Prop where
  n0 : 1 ≤ n
  n1 : n ≤ 96
  e0 : 0 ≤ r.early
  l1 : r.late ≤ n
  el : r.early ≤ r.late
  p : (r.prof.length : Int) ≤ r.late - r.early
  p0 : 1 ≤ r.prof.length
  p1 : r.prof.length ≤ 24
  units : r.prof.all unitOk = true
  name : nameOk r.name = true
theorem Ld.good {r : Ld} {n : Int} (h : r.chk n = 0) : r.Good n := by
  unfold Ld.chk at h
  split at h
  · rename_i hn
    split at h
    · rename_i hl
      split at h
      · rename_i hs
        obtain ⟨hu, hs⟩ := hs
        simp only [Ld.lim, decide_eq_true_iff] at hl
        simp only [Ld.span, decide_eq_true_iff] at hs
        exact ⟨by omega, by omega, by omega, by omega, by omega, by omega, hl.1, hl.2, hu, hn⟩
      · cases h
    · cases h
  · cases h
end Go.Proofs.Ytnibhdpgjmdkeaa
