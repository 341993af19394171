/-
  The plain mathematics of the chapter's example (layer 8).
-/
import Derived.Test.YtgflklgjjpokaaaAP8
namespace Go.Proofs.Ytgflklgjjpokaaa

def awC (t : Int) : Cl := ⟨3, pickZ 3 0, t⟩
theorem awC_wf (t : Int) (h : t = 0 ∨ t = -1) : (awC t).Wf := by
  have hb := pickZ_bd 3 0
  exact ⟨by show (0 : Int) ≤ 3; omega, by show (3 : Int) < _; omega, by show _ ≤ pickZ 3 0; omega, by show pickZ 3 0 ≤ _; omega, by show _ ≤ t; omega, by show t ≤ _; omega⟩
theorem awC_chk : clChk [awC 0] = 0 := by
  have h1 : (awC 0).ok = true := by
    unfold Cl.ok awC
    simp
  unfold clChk
  rw [if_neg (by simp)]
  show clTo [awC 0] 1 = 0
  rw [clTo, if_pos (show clTo _ 0 = 0 from rfl), clErr_eq (by simp)]
  rw [show ([awC 0] : List Cl)[0] = awC 0 from rfl, seenTo_zero, h1]
  rfl
theorem awC_bad : clChk [awC (-1)] = 2 := by
  have h1 : (awC (-1)).ok = false := by
    unfold Cl.ok awC
    simp
  unfold clChk
  rw [if_neg (by simp)]
  show clTo [awC (-1)] 1 = 2
  rw [clTo, if_pos (show clTo _ 0 = 0 from rfl), clErr_eq (by simp)]
  rw [show ([awC (-1)] : List Cl)[0] = awC (-1) from rfl, seenTo_zero, h1]
  rfl
theorem awC_least : isLeast [awC 0] (awC 0) = true := by
  rw [isLeast_true]
  intro d hd _
  rw [List.mem_singleton] at hd
  subst hd
  omega
theorem awC_rnd : rndL [awC 0] = [awC 0] := by
  unfold rndL
  rw [if_pos awC_chk]
  unfold roundL
  rw [List.map_singleton, stepCl_least awC_least]
theorem awC_n : roundN [awC 0] 1 = 0 := by
  have h := roundN_succ (l := [awC 0]) (k := 0) (by simp)
  rw [h, show ([awC 0] : List Cl)[0] = awC 0 from rfl, awC_least, if_pos rfl]
  rfl
theorem awC_rn : rndN [awC 0] = 0 := by
  unfold rndN
  rw [if_pos awC_chk]
  exact awC_n
theorem awC_conf : confL [awC 0] = [] := by
  unfold confL
  rw [if_pos awC_chk]
  unfold confTo
  rw [List.filter_eq_nil_iff]
  intro a _
  have := countTo_bd [awC 0] ([awC 0] : List Cl).length a
  simp at this ⊢
  omega
theorem awC_settle (k : Nat) : settleL [awC 0] k = [awC 0] := by
  unfold settleL
  rw [if_pos awC_chk, iterL_done (k := 0) (by exact awC_n) (by omega)]
  rfl
theorem aw_m9 : pickZ 3 (-9) = pickZ 3 0 := rfl
theorem aw_21 : pickZ 3 21 = pickZ 3 20 % 250 + 1 := by
  have hb := pickLow_bd 3 15
  have h1 : pickZ 3 21 = (pickLow 3 15 - 1 + 6) % 250 + 1 := by rw [pickZ_high (by decide)]; rfl
  have h2 : pickZ 3 20 = (pickLow 3 15 - 1 + 5) % 250 + 1 := by rw [pickZ_high (by decide)]; rfl
  rw [h1, h2]
  omega
theorem aw_first {b t x : Int} {ok : Bool} (h : FirstIs 3 [b] t x ok) : ok = true ∧ x ≠ b := by
  cases ok
  · obtain ⟨_, _, h2⟩ := h.no rfl
    have h3 := busy_all h2 (y := 1) (by omega) (by omega)
    have h4 := busy_all h2 (y := 2) (by omega) (by omega)
    rw [List.mem_singleton] at h3 h4
    omega
  · obtain ⟨_, _, _, h4, _⟩ := h.yes rfl
    exact ⟨rfl, by simpa using h4⟩
end Go.Proofs.Ytgflklgjjpokaaa
