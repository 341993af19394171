/-
  The walks of layer 39 (battery), part 1: Check, drawn, Step and what they call, of the program and of the reference.
-/
import Derived.Test.YtnppngaabfhkpaaProg
import Derived.Test.YtnppngaabfhkpaaF0Words
import Derived.Test.YtnppngaabfhkpaaFBPlain
import Derived.Lib.Hide
namespace Go.Proofs.Ytnppngaabfhkpaa
open Go.RowKit

theorem within_any (n lo hi : Int) (w : World) :
    Calls Try.prog 97 #[.int .i64 n, .int .i64 lo, .int .i64 hi] w fun e w' => e = .returned (.bool (wB n lo hi)) ∧ w = w' := by
  unfold wB
  by_cases h : lo ≤ n
  all_goals
    go_enter Try.func97, Try.ntmps97
    go_wp2
    go_ret
    exact ⟨ret_bool (by first | (simp [h]; done) | (simp; omega)), rfl⟩

theorem sat_any (n : Int) (w : World) (_h0 : -1000000 ≤ n) (_h1 : n ≤ 1000000) :
    Calls Try.prog 146 #[.int .i64 n] w fun e w' => e = .returned (.int .i64 n) ∧ w = w' := by
  go_enter Try.func146, Try.ntmps146
  go_wp2
  all_goals first | omega | skip
  go_ret
  exact ⟨rfl, rfl⟩

theorem ceil_pos {a b : Int} (_h0 : 0 < a) (_h1 : 500 ≤ b) (_h2 : b ≤ 1000) (_h3 : a ≤ 1000000) : (a + b - 1) / b = if a % b = 0 then a / b else a / b + 1 := by
  have e := Int.emod_add_mul_ediv a b
  have m0 := Int.emod_nonneg a (show b ≠ 0 by omega)
  have m1 := Int.emod_lt_of_pos a (show 0 < b by omega)
  by_cases h : a % b = 0
  · rw [if_pos h]
    have : a + b - 1 = (b - 1) + b * (a / b) := by omega
    rw [this, Int.add_mul_ediv_left _ _ (by omega), Int.ediv_eq_zero_of_lt (by omega) (by omega)]; omega
  · rw [if_neg h]
    have : a + b - 1 = (a % b - 1) + b * (a / b + 1) := by rw [Int.mul_add]; omega
    rw [this, Int.add_mul_ediv_left _ _ (by omega), Int.ediv_eq_zero_of_lt (by omega) (by omega)]; omega

theorem ceil_any (a b : Int) (w : World) (h0 : 0 < a) (h1 : 500 ≤ b) (h2 : b ≤ 1000) (h3 : a ≤ 1000000) :
    Calls Try.prog 144 #[.int .i64 a, .int .i64 b] w fun e w' => e = .returned (.int .i64 ((a + b - 1) / b)) ∧ w = w' := by
  have hc := ceil_pos h0 h1 h2 h3
  have hq0 : 0 ≤ a / b := Int.ediv_nonneg (by omega) (by omega)
  have hq1 : a / b ≤ a := Int.ediv_le_self _ (by omega)
  by_cases h : a % b = 0
  · rw [if_pos h] at hc
    have hb : (a % b == 0) = true := by simp [h]
    have hb' : (a % b != 0) = false := by simp [h]
    have HC := Lib.hid hc
    have H := Lib.hid h
    clear hc h
    go_enter Try.func144, Try.ntmps144
    go_wp2_with (go_at_call 146; refine (sat_any _ _ (by omega) (by omega)).mono ?_; rintro e w' ⟨rfl, rfl⟩)
    go_ret
    exact ⟨ret_int HC.out.symm, rfl⟩
  · rw [if_neg h] at hc
    have hb : (a % b == 0) = false := by simp [h]
    have hb' : (a % b != 0) = true := by simp [h]
    have hs : (decide (a < 0) == decide (b < 0)) = true := by simp; omega
    have HC := Lib.hid hc
    clear hc h
    go_enter Try.func144, Try.ntmps144
    go_wp2_with (go_at_call 146; refine (sat_any _ _ (by omega) (by omega)).mono ?_; rintro e w' ⟨rfl, rfl⟩)
    go_ret
    exact ⟨ret_int HC.out.symm, rfl⟩

theorem drawn_any (b : Bat) (c : Int) (w : World) (hg : b.Good) (_hc : c ≤ 40) :
    Calls Try.prog 120 #[b.v, .int .i64 c] w fun e w' => e = .returned (.int .i64 (drawnZ b c)) ∧ Below w.heap.size w w' := by
  obtain ⟨cap, reserve, charge, discharge, eff⟩ := b
  have e0 := hg.ef0
  have e1 := hg.ef1
  clear hg
  simp only [Bat.v]
  simp only at e0 e1
  by_cases h : 0 < c
  · have hd : drawnZ ⟨cap, reserve, charge, discharge, eff⟩ c = (1000 * c + eff - 1) / eff := by simp [drawnZ, h]
    rw [hd]
    clear hd
    go_enter Try.func120, Try.ntmps120
    go_wp2_with (go_at_call 144; refine (ceil_any _ _ _ (by omega) (by omega) (by omega) (by omega)).mono ?_; rintro e w' ⟨rfl, rfl⟩)
    go_ret
    exact ⟨rfl, (Below.refl _ _).alloc (Nat.le_refl _) _⟩
  · have hd : drawnZ ⟨cap, reserve, charge, discharge, eff⟩ c = c := by simp [drawnZ, h]
    rw [hd]
    clear hd
    go_enter Try.func120, Try.ntmps120
    go_wp2
    go_ret
    exact ⟨rfl, (Below.refl _ _).alloc (Nat.le_refl _) _⟩

theorem chk_false {b : Bat} (h : b.ok = false) : b.chk = 2 := by simp [Bat.chk, h]
theorem chk_true {b : Bat} (h : b.ok = true) : b.chk = 0 := by simp [Bat.chk, h]

set_option maxHeartbeats 4000000 in
theorem check_any (b : Bat) (w : World) :
    Calls Try.prog 51 #[b.v] w fun e w' => e = .returned (.int .i64 b.chk) ∧ Below w.heap.size w w' := by
  have hk : b.chk = if b.ok = true then 0 else 2 := rfl
  obtain ⟨cap, reserve, charge, discharge, eff⟩ := b
  simp only [Bat.v]
  simp only [Bat.ok] at hk
  generalize (Bat.mk cap reserve charge discharge eff).chk = K at *
  by_cases h1 : wB cap 0 40 = true
  · by_cases h2 : wB reserve 0 cap = true
    · by_cases h3 : wB charge 0 40 = true
      · by_cases h4 : wB discharge 0 40 = true
        · by_cases h5 : wB eff 500 1000 = true
          · obtain rfl : K = 0 := by simpa [h1, h2, h3, h4, h5] using hk
            clear hk
            go_enter Try.func51, Try.ntmps51
            go_wp2_with (go_at_call 97; refine (within_any _ _ _ _).mono ?_; rintro e w' ⟨rfl, rfl⟩)
            go_ret
            exact ⟨rfl, (Below.refl _ _).alloc (Nat.le_refl _) _⟩
          · simp only [Bool.not_eq_true] at h5
            obtain rfl : K = 2 := by simpa [h1, h2, h3, h4, h5] using hk
            clear hk
            go_enter Try.func51, Try.ntmps51
            go_wp2_with (go_at_call 97; refine (within_any _ _ _ _).mono ?_; rintro e w' ⟨rfl, rfl⟩)
            go_ret
            exact ⟨rfl, (Below.refl _ _).alloc (Nat.le_refl _) _⟩
        · simp only [Bool.not_eq_true] at h4
          obtain rfl : K = 2 := by simpa [h1, h2, h3, h4] using hk
          clear hk
          go_enter Try.func51, Try.ntmps51
          go_wp2_with (go_at_call 97; refine (within_any _ _ _ _).mono ?_; rintro e w' ⟨rfl, rfl⟩)
          go_ret
          exact ⟨rfl, (Below.refl _ _).alloc (Nat.le_refl _) _⟩
      · simp only [Bool.not_eq_true] at h3
        obtain rfl : K = 2 := by simpa [h1, h2, h3] using hk
        clear hk
        go_enter Try.func51, Try.ntmps51
        go_wp2_with (go_at_call 97; refine (within_any _ _ _ _).mono ?_; rintro e w' ⟨rfl, rfl⟩)
        go_ret
        exact ⟨rfl, (Below.refl _ _).alloc (Nat.le_refl _) _⟩
    · simp only [Bool.not_eq_true] at h2
      obtain rfl : K = 2 := by simpa [h1, h2] using hk
      clear hk
      go_enter Try.func51, Try.ntmps51
      go_wp2_with (go_at_call 97; refine (within_any _ _ _ _).mono ?_; rintro e w' ⟨rfl, rfl⟩)
      go_ret
      exact ⟨rfl, (Below.refl _ _).alloc (Nat.le_refl _) _⟩
  · simp only [Bool.not_eq_true] at h1
    obtain rfl : K = 2 := by simpa [h1] using hk
    clear hk
    go_enter Try.func51, Try.ntmps51
    go_wp2_with (go_at_call 97; refine (within_any _ _ _ _).mono ?_; rintro e w' ⟨rfl, rfl⟩)
    go_ret
    exact ⟨rfl, (Below.refl _ _).alloc (Nat.le_refl _) _⟩


end Go.Proofs.Ytnppngaabfhkpaa
