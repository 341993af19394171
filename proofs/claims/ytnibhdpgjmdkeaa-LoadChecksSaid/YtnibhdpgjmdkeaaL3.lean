/-
  The walks of layer 41 (load), part 1: units, unit, the test of an element, IndexFunc and ContainsFunc with it.
-/
import Derived.Test.YtnibhdpgjmdkeaaL2
import Derived.Test.YtnibhdpgjmdkeaaLP2
namespace Go.Proofs.Ytnibhdpgjmdkeaa
open Go.RowKit

theorem unit_any (n : Int) (w : World) : Calls Try.prog 32 #[.int .i64 n] w fun e w' => e = .returned (.int .i64 (unitZ n)) ∧ w = w' := by
  have hcs : n < 0 ∨ (¬ n < 0 ∧ 1000 < n) ∨ (¬ n < 0 ∧ ¬ 1000 < n) := by omega
  rcases hcs with h | ⟨h, h2⟩ | ⟨h, h2⟩
  · have hz : Hid (unitZ n = 0) := by show _ = _; unfold unitZ; rw [if_pos h]
    go_enter Try.func32, Try.ntmps32
    go_wp2
    go_ret
    exact ⟨ret_int hz.out.symm, rfl⟩
  · have hz : Hid (unitZ n = 1000) := by show _ = _; unfold unitZ; rw [if_neg h, if_pos h2]
    go_enter Try.func32, Try.ntmps32
    go_wp2
    go_ret
    exact ⟨ret_int hz.out.symm, rfl⟩
  · have hz : Hid (unitZ n = n) := by show _ = _; unfold unitZ; rw [if_neg h, if_neg h2]
    go_enter Try.func32, Try.ntmps32
    go_wp2
    go_ret
    exact ⟨ret_int hz.out.symm, rfl⟩

theorem units_any (n : Int) (w : World) : Calls Try.prog 31 #[.int .i64 n] w fun e w' => e = .returned (.int .i64 (unitZ n)) ∧ w = w' := by
  have hcs : (n ≤ 0 ∧ ¬ 1000 < n) ∨ (0 < n ∧ 1000 < n) ∨ (0 < n ∧ ¬ 1000 < n) := by omega
  rcases hcs with ⟨h, h2⟩ | ⟨h, h2⟩ | ⟨h, h2⟩
  · have hz : Hid (unitZ n = 0) := by show _ = _; unfold unitZ; split <;> (try split) <;> omega
    have h3 : ¬ 0 < n := by omega
    go_enter Try.func31, Try.ntmps31
    go_wp2
    go_ret
    exact ⟨ret_int hz.out.symm, rfl⟩
  · have hz : Hid (unitZ n = 1000) := by show _ = _; unfold unitZ; rw [if_neg (by omega), if_pos h2]
    go_enter Try.func31, Try.ntmps31
    go_wp2
    go_ret
    exact ⟨ret_int hz.out.symm, rfl⟩
  · have hz : Hid (unitZ n = n) := by show _ = _; unfold unitZ; rw [if_neg (by omega), if_neg h2]
    go_enter Try.func31, Try.ntmps31
    go_wp2
    go_ret
    exact ⟨ret_int hz.out.symm, rfl⟩

theorem bad_any (n : Int) (w : World) : Calls Try.prog 37 #[.int .i64 n] w fun e w' => e = .returned (.bool (!unitOk n)) ∧ w = w' := by
  have hu := Lib.hid (units_any n)
  have he := unitOk_eq n
  go_enter Try.func37, Try.ntmps37
  go_wp2_with fail
  refine (hu.out _).mono ?_
  rintro e w1 ⟨rfl, rfl⟩
  go_wp2
  go_ret
  exact ⟨rfl, rfl⟩
end Go.Proofs.Ytnibhdpgjmdkeaa
