/-
  The walks of layer 39 (battery), the reference: Drawn.
-/
import Derived.Test.YthoknhbjeddcjaaB1
namespace Go.Proofs.Ythoknhbjeddcjaa
open Go.RowKit

theorem ceil_of {a b k : Int} (hb : 0 < b) (h1 : a ≤ k * b) (h2 : k * b < a + b) : (a + b - 1) / b = k := by
  have h3 := Int.ediv_mul_le (a + b - 1) (show b ≠ 0 by omega)
  have h4 := Int.lt_ediv_add_one_mul_self (a + b - 1) hb
  have h5 : k ≤ (a + b - 1) / b := by
    rw [Int.le_ediv_iff_mul_le hb]; omega
  have h6 : (a + b - 1) / b < k + 1 := by
    rw [Int.ediv_lt_iff_lt_mul hb, Int.add_mul]; omega
  omega

set_option maxHeartbeats 1000000 in
theorem rdrawn_any (b : Bat) (c : Int) (w : World) (hg : b.Good) (h0 : 0 ≤ c) (h1 : c ≤ 40) :
    Calls Try.prog 23 #[b.v, .int .i64 c] w fun e w' => e = .returned (.int .i64 ((1000 * c + b.eff - 1) / b.eff)) ∧ Below w.heap.size w w' := by
  have e0 := hg.ef0
  have e1 := hg.ef1
  clear hg
  simp only [Bat.v]
  go_enter Try.func23, Try.ntmps23
  go_wp2_with fail
  go_loop [5] (fun n => ∃ k : Nat, n = .int .i64 k ∧ (k : Int) * b.eff < 1000 * c + b.eff ∧ 0 ≤ (k : Int) * b.eff ∧ (k : Int) ≤ 1000) (fun n => (42000 - intOf n * b.eff).toNat)
  case atStart => exact ⟨0, rfl, by simp; omega, by simp, by simp⟩
  case round =>
    obtain ⟨k, rfl, hk, hk0, hk1⟩ := hrel
    have hs : ((k : Int) + 1) * b.eff = (k : Int) * b.eff + b.eff := by rw [Int.add_mul, Int.one_mul]
    have HS := Lib.hid hs
    clear hs
    by_cases hlt : (k : Int) * b.eff < 1000 * c
    · go_wp2
      go_round
      case rel =>
        have hs := HS.out
        have hk2 : (k : Int) * 500 ≤ (k : Int) * b.eff := Int.mul_le_mul_of_nonneg_left e0 (by omega)
        refine ⟨k + 1, by go_num, ?_, ?_, ?_⟩
        · push_cast; rw [hs]; omega
        · push_cast; rw [hs]; omega
        · push_cast; omega
      case measure =>
        have hs := HS.out
        simp only [intOf]
        rw [hs]
        omega
    · go_wp2
      go_ret
      exact ⟨ret_int (ceil_of (by omega) (by omega) hk).symm, (Below.refl _ _).alloc (Nat.le_refl _) _⟩
end Go.Proofs.Ythoknhbjeddcjaa
