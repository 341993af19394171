/-
  The plain mathematics of settling (layer 8): rounds one after the other.
-/
import Derived.Test.YtgflklgjjpokaaaAP7
namespace Go.Proofs.Ytgflklgjjpokaaa

def iterL (l : List Cl) : Nat → List Cl
  | 0 => l
  | k + 1 => roundL (iterL l k)
theorem iterL_length (l : List Cl) (k : Nat) : (iterL l k).length = l.length := by
  induction k with
  | zero => rfl
  | succ k ih => rw [iterL, roundL_length, ih]
theorem roundL_done {l : List Cl} (h : roundN l l.length = 0) : roundL l = l := by
  unfold roundN at h
  rw [List.take_of_length_le (Nat.le_refl _)] at h
  have h2 : (l.filter fun c => !isLeast l c) = [] := List.eq_nil_of_length_eq_zero (by omega)
  rw [List.filter_eq_nil_iff] at h2
  unfold roundL
  conv => rhs; rw [← List.map_id l]
  apply List.map_congr_left
  intro c hc
  have := h2 c hc
  exact stepCl_least (by simpa using this)
theorem iterL_done {l : List Cl} {k m : Nat} (h : roundN (iterL l k) l.length = 0) (hm : k ≤ m) : iterL l m = iterL l k := by
  induction m with
  | zero => rw [show k = 0 by omega]
  | succ m ih =>
    by_cases e : k = m + 1
    · rw [e]
    · have h1 := ih (by omega)
      rw [iterL, h1]
      exact roundL_done (by rw [iterL_length]; exact h)
/-- What stays as it is in the rounds of a list that Check takes. -/
structure ItGood (l m : List Cl) (k : Nat) : Prop where
  wf : ∀ c ∈ m, c.Wf
  tr : ∀ c ∈ m, 0 ≤ c.try_ ∧ c.try_ ≤ 100000 + (k : Int)
theorem itGood {l : List Cl} (hw : ∀ c ∈ l, c.Wf) (hg : ClGood l) (k : Nat) (hk : k ≤ 100000) : ItGood l (iterL l k) k := by
  induction k with
  | zero =>
    refine ⟨hw, fun c hc => ?_⟩
    have := hg.ok c hc
    simp only [Cl.ok, Bool.and_eq_true, decide_eq_true_iff] at this
    omega
  | succ k ih =>
    have h := ih (by omega)
    constructor
    · intro c hc
      simp only [iterL, roundL, List.mem_map] at hc
      obtain ⟨d, hd, rfl⟩ := hc
      have hwd := h.wf d hd
      have htd := h.tr d hd
      unfold stepCl
      split
      · exact hwd
      · have hb := pickZ_bd d.eui (d.try_ + 1)
        exact ⟨hwd.e0, hwd.e1, by show _ ≤ pickZ _ _; omega, by show pickZ _ _ ≤ _; omega, by show _ ≤ d.try_ + 1; omega, by show d.try_ + 1 ≤ _; omega⟩
    · intro c hc
      simp only [iterL, roundL, List.mem_map] at hc
      obtain ⟨d, hd, rfl⟩ := hc
      have htd := h.tr d hd
      unfold stepCl
      split
      · omega
      · show 0 ≤ d.try_ + 1 ∧ d.try_ + 1 ≤ _; omega
def settleL (l : List Cl) (k : Nat) : List Cl := if clChk l = 0 then iterL l k else l
theorem settleL_length (l : List Cl) (k : Nat) : (settleL l k).length = l.length := by unfold settleL; split; exact iterL_length _ _; rfl
end Go.Proofs.Ytgflklgjjpokaaa
