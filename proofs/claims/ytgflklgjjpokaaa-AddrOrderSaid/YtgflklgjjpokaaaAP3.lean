/-
  The plain mathematics of the first free attempt (layer 8).
-/
import Derived.Test.YtgflklgjjpokaaaAP2
namespace Go.Proofs.Ytgflklgjjpokaaa

/-- Are the addresses of the first k attempts all among the numbers? -/
def busyTo (e : Int) (l : List Int) (k : Nat) : Prop := ∀ i, i < k → pickZ e (i : Int) ∈ l
/-- What First returns. -/
structure FirstIs (e : Int) (l : List Int) (a b : Int) (ok : Bool) : Prop where
  yes : ok = true → 0 ≤ a ∧ a ≤ 264 ∧ b = pickZ e a ∧ b ∉ l ∧ busyTo e l a.toNat
  no : ok = false → a = 0 ∧ b = 0 ∧ busyTo e l 265
theorem FirstIs.same {e : Int} {l : List Int} {a b a' b' : Int} {ok ok' : Bool} (h : FirstIs e l a b ok) (h' : FirstIs e l a' b' ok') : a = a' ∧ b = b' ∧ ok = ok' := by
  cases ok <;> cases ok'
  · obtain ⟨h1, h2, _⟩ := h.no rfl
    obtain ⟨h3, h4, _⟩ := h'.no rfl
    exact ⟨by omega, by omega, rfl⟩
  · obtain ⟨_, _, h2⟩ := h.no rfl
    obtain ⟨h3, h4, h5, h6, _⟩ := h'.yes rfl
    have := h2 a'.toNat (by omega)
    rw [show ((a'.toNat : Nat) : Int) = a' by omega, ← h5] at this
    exact absurd this h6
  · obtain ⟨_, _, h2⟩ := h'.no rfl
    obtain ⟨h3, h4, h5, h6, _⟩ := h.yes rfl
    have := h2 a.toNat (by omega)
    rw [show ((a.toNat : Nat) : Int) = a by omega, ← h5] at this
    exact absurd this h6
  · obtain ⟨h1, h2, h3, h4, h5⟩ := h.yes rfl
    obtain ⟨k1, k2, k3, k4, k5⟩ := h'.yes rfl
    have e1 : a = a' := by
      rcases Int.lt_trichotomy a a' with hlt | heq | hgt
      · have := k5 a.toNat (by omega)
        rw [show ((a.toNat : Nat) : Int) = a by omega, ← h3] at this
        exact absurd this h4
      · exact heq
      · have := h5 a'.toNat (by omega)
        rw [show ((a'.toNat : Nat) : Int) = a' by omega, ← k3] at this
        exact absurd this k4
    exact ⟨e1, by rw [h3, k3, e1], rfl⟩
theorem busyTo_succ {e : Int} {l : List Int} {k : Nat} (h : busyTo e l k) (h1 : pickZ e (k : Int) ∈ l) : busyTo e l (k + 1) := by
  intro i hi
  by_cases e : i = k
  · rw [e]; exact h1
  · exact h i (by omega)
/-- The attempts from 15 on go through all addresses. -/
theorem probe_hit (e : Int) {y : Int} (h1 : 1 ≤ y) (h2 : y ≤ 250) : ∃ i : Nat, 15 ≤ i ∧ i < 265 ∧ pickZ e (i : Int) = y := by
  have hb := pickLow_bd e 15
  have h15 : ∀ i : Nat, 15 ≤ i → pickZ e (i : Int) = (pickLow e 15 - 1 + ((i : Int) - 15) % 250) % 250 + 1 := by
    intro i hi
    have ht : tryZ (i : Int) = (i : Int) := by unfold tryZ; rw [if_neg (by omega)]
    unfold pickZ
    rw [ht]
    by_cases e15 : (i : Int) = 15
    · rw [if_pos (by omega), e15]
      omega
    · rw [if_neg (by omega)]
  refine ⟨15 + ((y - pickLow e 15) % 250).toNat, by omega, by omega, ?_⟩
  rw [h15 _ (by omega)]
  omega
theorem busy_all {e : Int} {l : List Int} (h : busyTo e l 265) {y : Int} (h1 : 1 ≤ y) (h2 : y ≤ 250) : y ∈ l := by
  obtain ⟨i, _, hi, hy⟩ := probe_hit e h1 h2
  rw [← hy]
  exact h i hi
theorem busy_more {e : Int} {l : List Int} (h : busyTo e l 265) (k : Nat) : busyTo e l k := fun i _ => by
  have := pickZ_bd e (i : Int)
  exact busy_all h this.1 this.2
end Go.Proofs.Ytgflklgjjpokaaa
