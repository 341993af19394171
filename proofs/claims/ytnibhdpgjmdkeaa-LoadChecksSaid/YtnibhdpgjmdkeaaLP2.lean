/-
  The plain mathematics of flexible loads (layer 41). No program in sight.
-/
import Derived.Test.YtnibhdpgjmdkeaaLPlain
namespace Go.Proofs.Ytnibhdpgjmdkeaa

structure Ld where
  name : ByteArray
  prof : List Int
  early : Int
  late : Int

/-- As Go's value, the profile at the given address. -/
def Ld.v (r : Ld) (A : Option Addr) (c : Nat) : Value := .agg #[.string r.name, .slice A r.prof.length c, .int .i64 r.early, .int .i64 r.late]
/-- An element of a profile, limited. -/
def unitZ (n : Int) : Int := if n < 0 then 0 else if 1000 < n then 1000 else n
theorem unitZ_bd (n : Int) : 0 ≤ unitZ n ∧ unitZ n ≤ 1000 := by unfold unitZ; split <;> (try split) <;> omega
def unitOk (n : Int) : Bool := decide (0 ≤ n) && decide (n ≤ 1000)
theorem unitOk_true {n : Int} : unitOk n = true ↔ 0 ≤ n ∧ n ≤ 1000 := by simp [unitOk]
theorem unitOk_eq (n : Int) : (n != unitZ n) = !unitOk n := by
  unfold unitZ unitOk
  by_cases h : n < 0
  · rw [if_pos h]; simp [show ¬ 0 ≤ n by omega]; omega
  · rw [if_neg h]
    by_cases h2 : 1000 < n
    · rw [if_pos h2]; simp [show 0 ≤ n by omega, show ¬ n ≤ 1000 by omega]; omega
    · rw [if_neg h2]; simp [show 0 ≤ n by omega, show n ≤ 1000 by omega]
def Ld.lim (r : Ld) : Bool := decide (1 ≤ r.prof.length ∧ r.prof.length ≤ 24)
def Ld.span (r : Ld) (n : Int) : Bool := decide (1 ≤ n ∧ n ≤ 96 ∧ 0 ≤ r.early ∧ r.late ≤ n ∧ r.early ≤ r.late ∧ (r.prof.length : Int) ≤ r.late - r.early)
def Ld.chk (r : Ld) (n : Int) : Int := if nameOk r.name = true then (if r.lim = true then (if r.prof.all unitOk = true ∧ r.span n = true then 0 else 2) else 3) else 10
theorem Ld.chk_name {r : Ld} {n : Int} (h : nameOk r.name = false) : r.chk n = 10 := by unfold Ld.chk; rw [if_neg (by simp [h])]
theorem Ld.chk_lim {r : Ld} {n : Int} (h : nameOk r.name = true) (h2 : r.lim = false) : r.chk n = 3 := by unfold Ld.chk; rw [if_pos h, if_neg (by simp [h2])]
theorem Ld.chk_bad {r : Ld} {n : Int} (h : nameOk r.name = true) (h2 : r.lim = true) (h3 : r.prof.all unitOk = false ∨ r.span n = false) : r.chk n = 2 := by
  unfold Ld.chk; rw [if_pos h, if_pos h2, if_neg]; rintro ⟨a, b⟩; rcases h3 with h3 | h3 <;> simp [h3] at *
theorem Ld.chk_ok {r : Ld} {n : Int} (h : nameOk r.name = true) (h2 : r.lim = true) (h3 : r.prof.all unitOk = true) (h4 : r.span n = true) : r.chk n = 0 := by unfold Ld.chk; rw [if_pos h, if_pos h2, if_pos ⟨h3, h4⟩]
/-- The first place at which a list holds an element that is not a unit; -1 if there is none. -/
def badAt (l : List Int) : Int := match l.findIdx? (fun x => !unitOk x) with | some i => (i : Int) | none => -1
end Go.Proofs.Ytnibhdpgjmdkeaa
