/-
  The walks of layer 39 (battery), the reference: Between, Check.
-/
import Derived.Test.YthoknhbjeddcjaaB1
namespace Go.Proofs.Ythoknhbjeddcjaa
open Go.RowKit

theorem between_any (n lo hi : Int) (w : World) :
    Calls Try.prog 22 #[.int .i64 n, .int .i64 lo, .int .i64 hi] w fun e w' => e = .returned (.bool (wB n lo hi)) ∧ w = w' := by
  unfold wB
  by_cases h : lo ≤ n
  all_goals
    go_enter Try.func22, Try.ntmps22
    go_wp2
    go_ret
    exact ⟨ret_bool (by first | (simp [h]; done) | (simp; omega)), rfl⟩

set_option maxHeartbeats 4000000 in
theorem rcheck_any (b : Bat) (w : World) :
    Calls Try.prog 12 #[b.v] w fun e w' => e = .returned (.int .i64 b.chk) ∧ Below w.heap.size w w' := by
  have hk : b.chk = if b.ok = true then 0 else 2 := rfl
  obtain ⟨cap, reserve, charge, discharge, eff⟩ := b
  simp only [Bat.v]
  simp only [Bat.ok] at hk
  generalize (Bat.mk cap reserve charge discharge eff).chk = K at *
  by_cases h1 : wB cap 0 40 = true
  · by_cases h2 : wB reserve 0 cap = true
    · by_cases h3 : wB charge 0 40 = true
      · by_cases h4 : wB discharge 0 40 = true
        · by_cases h5 : wB eff 500 1000 = true
          · obtain rfl : K = 0 := by simpa [h1, h2, h3, h4, h5] using hk
            clear hk
            go_enter Try.func12, Try.ntmps12
            go_wp2_with (go_at_call 22; refine (between_any _ _ _ _).mono ?_; rintro e w' ⟨rfl, rfl⟩)
            go_ret
            exact ⟨rfl, (Below.refl _ _).alloc (Nat.le_refl _) _⟩
          · simp only [Bool.not_eq_true] at h5
            obtain rfl : K = 2 := by simpa [h1, h2, h3, h4, h5] using hk
            clear hk
            go_enter Try.func12, Try.ntmps12
            go_wp2_with (go_at_call 22; refine (between_any _ _ _ _).mono ?_; rintro e w' ⟨rfl, rfl⟩)
            go_ret
            exact ⟨rfl, (Below.refl _ _).alloc (Nat.le_refl _) _⟩
        · simp only [Bool.not_eq_true] at h4
          obtain rfl : K = 2 := by simpa [h1, h2, h3, h4] using hk
          clear hk
          go_enter Try.func12, Try.ntmps12
          go_wp2_with (go_at_call 22; refine (between_any _ _ _ _).mono ?_; rintro e w' ⟨rfl, rfl⟩)
          go_ret
          exact ⟨rfl, (Below.refl _ _).alloc (Nat.le_refl _) _⟩
      · simp only [Bool.not_eq_true] at h3
        obtain rfl : K = 2 := by simpa [h1, h2, h3] using hk
        clear hk
        go_enter Try.func12, Try.ntmps12
        go_wp2_with (go_at_call 22; refine (between_any _ _ _ _).mono ?_; rintro e w' ⟨rfl, rfl⟩)
        go_ret
        exact ⟨rfl, (Below.refl _ _).alloc (Nat.le_refl _) _⟩
    · simp only [Bool.not_eq_true] at h2
      obtain rfl : K = 2 := by simpa [h1, h2] using hk
      clear hk
      go_enter Try.func12, Try.ntmps12
      go_wp2_with (go_at_call 22; refine (between_any _ _ _ _).mono ?_; rintro e w' ⟨rfl, rfl⟩)
      go_ret
      exact ⟨rfl, (Below.refl _ _).alloc (Nat.le_refl _) _⟩
  · simp only [Bool.not_eq_true] at h1
    obtain rfl : K = 2 := by simpa [h1] using hk
    clear hk
    go_enter Try.func12, Try.ntmps12
    go_wp2_with (go_at_call 22; refine (between_any _ _ _ _).mono ?_; rintro e w' ⟨rfl, rfl⟩)
    go_ret
    exact ⟨rfl, (Below.refl _ _).alloc (Nat.le_refl _) _⟩


end Go.Proofs.Ythoknhbjeddcjaa
