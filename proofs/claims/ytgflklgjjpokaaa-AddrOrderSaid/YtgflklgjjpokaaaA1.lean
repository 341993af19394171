/-
  The walks of layer 3's Fnv, as layer 8 reaches it, of the program and of the reference.
-/
import Derived.Test.YtgflklgjjpokaaaProg
import Derived.Test.Ytgflklgjjpokaaa5Words
import Derived.Test.YtgflklgjjpokaaaAP1
import Derived.Lib.Hide
import Derived.Deep.QuietTactic
import Derived.BigQuiet
import Derived.Laws.BitsAllLaws
namespace Go.Proofs.Ytgflklgjjpokaaa
open Go.RowKit

set_option maxHeartbeats 1000000 in
theorem lfnv_any (s : ByteArray) (w : World) (hs : s.size ≤ maxLen) :
    Calls Try.prog 27 #[.string s] w fun e w' => e = .returned (.int .u64 (fnvS s)) ∧ w = w' := by
  unfold maxLen at hs
  have hz := Lib.hid (fnvTo_zero s)
  have hsu := Lib.hid (fun k h => fnvTo_succ s k h)
  have hfin : Hid (fnvTo s s.size = fnvS s) := rfl
  have hbd := Lib.hid (fnvTo_bd s)
  generalize fnvS s = r at *
  go_enter Try.func27, Try.ntmps27
  go_wp2_with fail
  go_loopw [3, 4] (fun h' i' wr => ∃ k : Nat, k ≤ s.size ∧ i' = .int .i64 k ∧ h' = .int .u64 (fnvTo s k) ∧ w = wr)
    (fun _ i' _ => s.size - (intOf i').toNat)
  case atStart => exact ⟨0, by omega, rfl, by rw [hz.out], rfl⟩
  case round =>
    obtain ⟨k, hk, rfl, rfl, rfl⟩ := hrel
    by_cases hlt : k < s.size
    · have hx : Hid (fnvTo s (k + 1) = IntKind.u64.wrap (bits .xor .u64 (fnvTo s k) (IntKind.u64.wrap ((s[k]'hlt).toNat : Int)) * 1099511628211)) := hsu.out k hlt
      generalize fnvTo s k = a at *
      go_wp2_with fail
      go_roundw
      case rel => exact ⟨k + 1, by omega, by go_num, by rw [hx.out], trivial⟩
      case measure => simp [intOf]; omega
    · have hz : Hid (fnvTo s k = r) := by show _ = _; rw [← hfin.out]; congr 1; omega
      go_wp2_with fail
      go_ret
      exact ⟨ret_int hz.out, rfl⟩

set_option maxHeartbeats 1000000 in
theorem rlfnv_any (s : ByteArray) (w : World) (hs : s.size ≤ maxLen) :
    Calls Try.prog 28 #[.string s] w fun e w' => e = .returned (.int .u64 (fnvS s)) ∧ w = w' := by
  unfold maxLen at hs
  have hz := Lib.hid (fnvTo_zero s)
  have hsu := Lib.hid (fun k h => fnvTo_succ s k h)
  have hfin : Hid (fnvTo s s.size = fnvS s) := rfl
  have hbd := Lib.hid (fnvTo_bd s)
  generalize fnvS s = r at *
  go_enter Try.func28, Try.ntmps28
  go_wp2_with fail
  go_loopw [3, 4] (fun h' i' wr => ∃ k : Nat, k ≤ s.size ∧ i' = .int .i64 k ∧ h' = .int .u64 (fnvTo s k) ∧ w = wr)
    (fun _ i' _ => s.size - (intOf i').toNat)
  case atStart => exact ⟨0, by omega, rfl, by rw [hz.out], rfl⟩
  case round =>
    obtain ⟨k, hk, rfl, rfl, rfl⟩ := hrel
    by_cases hlt : k < s.size
    · have hx : Hid (fnvTo s (k + 1) = IntKind.u64.wrap (bits .xor .u64 (fnvTo s k) (IntKind.u64.wrap ((s[k]'hlt).toNat : Int)) * 1099511628211)) := hsu.out k hlt
      generalize fnvTo s k = a at *
      go_wp2_with fail
      go_roundw
      case rel => exact ⟨k + 1, by omega, by go_num, by rw [hx.out], trivial⟩
      case measure => simp [intOf]; omega
    · have hz : Hid (fnvTo s k = r) := by show _ = _; rw [← hfin.out]; congr 1; omega
      go_wp2_with fail
      go_ret
      exact ⟨ret_int hz.out, rfl⟩
end Go.Proofs.Ytgflklgjjpokaaa
