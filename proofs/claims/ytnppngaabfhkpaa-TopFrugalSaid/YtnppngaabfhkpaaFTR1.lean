/-
  The walks of layer 40 (thermal), the reference, part 1: Clamp, Floor, limit, Check, valid.
-/
import Derived.Test.YtnppngaabfhkpaaFT3
namespace Go.Proofs.Ytnppngaabfhkpaa
open Go.RowKit

theorem rsat_any (n : Int) (w : World) (_h0 : -10000000 ≤ n) (_h1 : n ≤ 10000000) :
    Calls Try.prog 105 #[.int .i64 n] w fun e w' => e = .returned (.int .i64 n) ∧ w = w' := by
  go_enter Try.func105, Try.ntmps105
  go_wp2
  go_ret
  exact ⟨rfl, rfl⟩

theorem rfloor_any (a : Int) (w : World) (h0 : -10000000 ≤ a) (h1 : a ≤ 10000000) :
    Calls Try.prog 58 #[.int .i64 a, .int .i64 1000] w fun e w' => e = .returned (.int .i64 (a / 1000)) ∧ w = w' := by
  by_cases hp : 0 ≤ a
  · by_cases hm : a % 1000 = 0
    · have e1 : (a % 1000 != 0) = false := by simp [hm]
      clear hm
      go_enter Try.func58, Try.ntmps58
      go_wp2_with (go_at_call 105; refine (rsat_any _ _ (by omega) (by omega)).mono ?_; rintro e w' ⟨rfl, rfl⟩)
      go_ret
      exact ⟨rfl, rfl⟩
    · have e1 : (a % 1000 != 0) = true := by simp [hm]
      have e2 : decide (a < 0) = false := by simp; omega
      clear hm
      go_enter Try.func58, Try.ntmps58
      go_wp2_with (go_at_call 105; refine (rsat_any _ _ (by omega) (by omega)).mono ?_; rintro e w' ⟨rfl, rfl⟩)
      go_ret
      exact ⟨rfl, rfl⟩
  · have hd : a.tdiv 1000 = -((-a) / 1000) := by
      have h := Int.neg_tdiv (-a) 1000
      rw [Int.neg_neg] at h
      rw [h, Int.tdiv_eq_ediv_of_nonneg (by omega)]
    have hmod : a.tmod 1000 = a - 1000 * a.tdiv 1000 := by have := Int.tmod_add_mul_tdiv a 1000; omega
    by_cases hm : a.tmod 1000 = 0
    · have e1 : (a.tmod 1000 != 0) = false := by simp [hm]
      have hr : a.tdiv 1000 = a / 1000 := by omega
      have b1 : -10000000 ≤ a.tdiv 1000 := by omega
      have b2 : a.tdiv 1000 ≤ 10000000 := by omega
      have HR := Lib.hid hr
      clear hm hd hmod hr
      go_enter Try.func58, Try.ntmps58
      go_wp2_with (go_at_call 105; refine (rsat_any _ _ (by omega) (by omega)).mono ?_; rintro e w' ⟨rfl, rfl⟩)
      go_ret
      exact ⟨ret_int HR.out, rfl⟩
    · have e1 : (a.tmod 1000 != 0) = true := by simp [hm]
      have hr : a.tdiv 1000 - 1 = a / 1000 := by omega
      have b1 : -10000000 ≤ a.tdiv 1000 := by omega
      have b2 : a.tdiv 1000 ≤ 10000000 := by omega
      have e2 : decide (a < 0) = true := by simp; omega
      have HR := Lib.hid hr
      clear hm hd hmod hr
      go_enter Try.func58, Try.ntmps58
      go_wp2_with (go_at_call 105; refine (rsat_any _ _ (by omega) (by omega)).mono ?_; rintro e w' ⟨rfl, rfl⟩)
      go_ret
      exact ⟨ret_int HR.out, rfl⟩


end Go.Proofs.Ytnppngaabfhkpaa
