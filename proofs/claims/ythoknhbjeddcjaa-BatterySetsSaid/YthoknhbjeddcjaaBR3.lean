/-
  The walks of layer 39 (battery), the reference: Step.
-/
import Derived.Test.YthoknhbjeddcjaaB2
import Derived.Test.YthoknhbjeddcjaaBR1
import Derived.Test.YthoknhbjeddcjaaBR2
namespace Go.Proofs.Ythoknhbjeddcjaa
open Go.RowKit

set_option maxHeartbeats 400000 in
theorem rstep_bad (b : Bat) (l c : Int) (w : World) (hok : b.ok = false) : Calls Try.prog 10 #[b.v, .int .i64 l, .int .i64 c] w (stepPost (0, 0, 2) w) := by
  have hc := rcheck_any b
  rw [chk_false hok] at hc
  clear hok
  simp only [Bat.v] at hc ⊢
  have HC := Lib.hid hc
  clear hc
  go_enter Try.func10, Try.ntmps10
  go_wp2_with fail
  refine (HC.out _).mono ?_
  rintro e w1 ⟨rfl, hb⟩
  go_wp2_with fail
  go_ret3
  exact ⟨rfl, (((Below.refl _ _).alloc (Nat.le_refl _) _).trans (hb.mono (by simp)))⟩

set_option maxHeartbeats 4000000 in
theorem rstep_ok (b : Bat) (l c : Int) (w : World) (hok : b.ok = true) : Calls Try.prog 10 #[b.v, .int .i64 l, .int .i64 c] w (stepPost (stepZ b l c) w) := by
  have hc := rcheck_any b
  rw [chk_true hok] at hc
  have hg := Bat.good hok
  have d0 := hg.di0
  have d1 := hg.di1
  have d2 := hg.cap1
  have d3 := hg.ch1
  have hbw := between_any
  by_cases k1 : wB l 0 b.cap = true
  · by_cases k2 : wB c (-b.discharge) b.charge = true
    · have k1' := wB_true.1 k1
      have k2' := wB_true.1 k2
      by_cases h3 : b.cap < l + c ∨ (c < 0 ∧ l + c < b.reserve)
      · rw [step_inf hok (by omega) h3]
        clear hok hg
        simp only [Bat.v] at hc ⊢
        have HC := Lib.hid hc
        clear hc
        have hcases : b.cap < l + c ∨ (l + c ≤ b.cap ∧ c < 0 ∧ l + c < b.reserve) := by omega
        clear h3
        rcases hcases with h | ⟨h, h', h''⟩
        all_goals
          go_enter Try.func10, Try.ntmps10
          go_wp2_with fail
          refine (HC.out _).mono ?_
          rintro e w1 ⟨rfl, hb⟩
          obtain ⟨hc, hf⟩ := bcell hb
          go_wp2_with (go_at_call 22; refine (between_any _ _ _ _).mono ?_; rintro e w' ⟨rfl, rfl⟩)
          go_ret3
          exact ⟨rfl, (((Below.refl _ _).alloc (Nat.le_refl _) _).trans (hb.mono (by simp)))⟩
      · rw [step_ok hok (by omega) h3]
        have hd := fun w => rdrawn_any b c w hg
        clear hok hg
        simp only [Bat.v] at hc hd ⊢
        have HC := Lib.hid hc
        have HD := Lib.hid hd
        clear hc hd
        have g5 : l + c ≤ b.cap := by omega
        have hcases : 0 < c ∨ c = 0 ∨ (c < 0 ∧ b.reserve ≤ l + c) := by omega
        clear h3
        rcases hcases with h | rfl | ⟨h, h'⟩
        · have hD : drawnZ b c = (1000 * c + b.eff - 1) / b.eff := by simp [drawnZ, h]
          rw [hD]
          clear hD
          go_enter Try.func10, Try.ntmps10
          go_wp2_with fail
          refine (HC.out _).mono ?_
          rintro e w1 ⟨rfl, hb⟩
          obtain ⟨hc, hf⟩ := bcell hb
          go_wp2_with (first | (go_at_call 22; refine (between_any _ _ _ _).mono ?_; rintro e w' ⟨rfl, rfl⟩) | fail)
          refine (HD.out _ (by omega) (by omega)).mono ?_
          rintro e w2 ⟨rfl, hb2⟩
          go_wp2_with fail
          go_ret3
          exact ⟨rfl, ((((Below.refl _ _).alloc (Nat.le_refl _) _).trans (hb.mono (by simp))).trans (hb2.mono (by have := hb.size; simp at this; omega)))⟩
        · have hD : drawnZ b 0 = 0 := by simp [drawnZ]
          rw [hD]
          clear hD
          go_enter Try.func10, Try.ntmps10
          go_wp2_with fail
          refine (HC.out _).mono ?_
          rintro e w1 ⟨rfl, hb⟩
          obtain ⟨hc, hf⟩ := bcell hb
          go_wp2_with (first | (go_at_call 22; refine (between_any _ _ _ _).mono ?_; rintro e w' ⟨rfl, rfl⟩) | fail)
          go_ret3
          exact ⟨by simp, (((Below.refl _ _).alloc (Nat.le_refl _) _).trans (hb.mono (by simp)))⟩
        · have hD : drawnZ b c = c := by simp [drawnZ]; omega
          rw [hD]
          clear hD
          go_enter Try.func10, Try.ntmps10
          go_wp2_with fail
          refine (HC.out _).mono ?_
          rintro e w1 ⟨rfl, hb⟩
          obtain ⟨hc, hf⟩ := bcell hb
          go_wp2_with (first | (go_at_call 22; refine (between_any _ _ _ _).mono ?_; rintro e w' ⟨rfl, rfl⟩) | fail)
          go_ret3
          exact ⟨rfl, (((Below.refl _ _).alloc (Nat.le_refl _) _).trans (hb.mono (by simp)))⟩
    · simp only [Bool.not_eq_true] at k2
      have k2' := wB_false.1 k2
      rw [step_range hok (by omega)]
      clear hok hg k2'
      simp only [Bat.v] at hc ⊢
      have HC := Lib.hid hc
      clear hc
      go_enter Try.func10, Try.ntmps10
      go_wp2_with fail
      refine (HC.out _).mono ?_
      rintro e w1 ⟨rfl, hb⟩
      obtain ⟨hc, hf⟩ := bcell hb
      go_wp2_with (go_at_call 22; refine (between_any _ _ _ _).mono ?_; rintro e w' ⟨rfl, rfl⟩)
      go_ret3
      exact ⟨rfl, (((Below.refl _ _).alloc (Nat.le_refl _) _).trans (hb.mono (by simp)))⟩
  · simp only [Bool.not_eq_true] at k1
    have k1' := wB_false.1 k1
    rw [step_range hok (by omega)]
    clear hok hg k1'
    simp only [Bat.v] at hc ⊢
    have HC := Lib.hid hc
    clear hc
    go_enter Try.func10, Try.ntmps10
    go_wp2_with fail
    refine (HC.out _).mono ?_
    rintro e w1 ⟨rfl, hb⟩
    obtain ⟨hc, hf⟩ := bcell hb
    go_wp2_with (go_at_call 22; refine (between_any _ _ _ _).mono ?_; rintro e w' ⟨rfl, rfl⟩)
    go_ret3
    exact ⟨rfl, (((Below.refl _ _).alloc (Nat.le_refl _) _).trans (hb.mono (by simp)))⟩

theorem rstep_any (b : Bat) (l c : Int) (w : World) : Calls Try.prog 10 #[b.v, .int .i64 l, .int .i64 c] w (stepPost (stepZ b l c) w) := by
  by_cases hok : b.ok = false
  · rw [step_bad hok]; exact rstep_bad b l c w hok
  · exact rstep_ok b l c w (by simpa using hok)
end Go.Proofs.Ythoknhbjeddcjaa
