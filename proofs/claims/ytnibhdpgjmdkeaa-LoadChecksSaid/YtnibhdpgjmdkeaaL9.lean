/-
  The walks of layer 41 (load), part 7: Last, Use.
-/
import Derived.Test.YtnibhdpgjmdkeaaL8
import Derived.Test.YtnibhdpgjmdkeaaLP4
namespace Go.Proofs.Ytnibhdpgjmdkeaa
open Go.RowKit

theorem ld_alloc (r : Ld) (A : Option Addr) (c : Nat) (w : World) : Below w.heap.size w (w.alloc (.cells #[.string r.name, .slice A r.prof.length c, .int .i64 r.early, .int .i64 r.late] 24)) := (Below.refl _ _).alloc (Nat.le_refl _) _

theorem llast_any (r : Ld) (A : Option Addr) (c : Nat) (w : World) :
    Calls Try.prog 16 #[r.v A c] w fun e w' => e = .returned (.int .i64 r.last) ∧ Below w.heap.size w w' := by
  have hB := Lib.hid (ld_alloc r A c w)
  simp only [Ld.v]
  have hl : (0 : Int) ≤ (r.prof.length : Int) := by omega
  by_cases h1 : r.late < (r.prof.length : Int)
  · have hz : Hid (r.last = -1) := by show _ = _; unfold Ld.last; rw [if_pos h1]
    go_enter Try.func16, Try.ntmps16
    go_wp2_with fail
    go_ret
    exact ⟨ret_int hz.out.symm, hB.out⟩
  · by_cases h2 : 96 < r.late
    · have hz : Hid (r.last = -1) := by show _ = _; unfold Ld.last; rw [if_neg h1, if_pos h2]
      go_enter Try.func16, Try.ntmps16
      go_wp2_with fail
      go_ret
      exact ⟨ret_int hz.out.symm, hB.out⟩
    · have hz : Hid (r.last = r.late - (r.prof.length : Int)) := by show _ = _; unfold Ld.last; rw [if_neg h1, if_neg h2]
      go_enter Try.func16, Try.ntmps16
      go_wp2_with fail
      go_ret
      exact ⟨ret_int hz.out.symm, hB.out⟩

theorem rllast_any (r : Ld) (A : Option Addr) (c : Nat) (w : World) :
    Calls Try.prog 17 #[r.v A c] w fun e w' => e = .returned (.int .i64 r.last) ∧ Below w.heap.size w w' := by
  have hB := Lib.hid (ld_alloc r A c w)
  simp only [Ld.v]
  have hl : (0 : Int) ≤ (r.prof.length : Int) := by omega
  by_cases h1 : r.late < (r.prof.length : Int)
  · have hz : Hid (r.last = -1) := by show _ = _; unfold Ld.last; rw [if_pos h1]
    go_enter Try.func17, Try.ntmps17
    go_wp2_with fail
    go_ret
    exact ⟨ret_int hz.out.symm, hB.out⟩
  · by_cases h2 : 96 < r.late
    · have hz : Hid (r.last = -1) := by show _ = _; unfold Ld.last; rw [if_neg h1, if_pos h2]
      go_enter Try.func17, Try.ntmps17
      go_wp2_with fail
      go_ret
      exact ⟨ret_int hz.out.symm, hB.out⟩
    · have hz : Hid (r.last = r.late - (r.prof.length : Int)) := by show _ = _; unfold Ld.last; rw [if_neg h1, if_neg h2]
      go_enter Try.func17, Try.ntmps17
      go_wp2_with fail
      go_ret
      exact ⟨ret_int hz.out.symm, hB.out⟩

set_option maxHeartbeats 1000000 in
theorem luse_any (r : Ld) (A : Option Addr) (c : Nat) (s i : Int) (w : World) (hA0 : RInts w A r.prof) (hl : r.prof.length < 1000000000)
    (s0 : -9223372036854775808 ≤ s) (_s1 : s ≤ 9223372036854775807) (_i0 : -9223372036854775808 ≤ i) (i1 : i ≤ 9223372036854775807) :
    Calls Try.prog 18 #[r.v A c, .int .i64 s, .int .i64 i] w fun e w' => e = .returned (.int .i64 (r.use s i)) ∧ Below w.heap.size w w' := by
  have hB := Lib.hid (ld_alloc r A c w)
  have hA := Lib.hid hA0
  simp only [Ld.v]
  have hl0 : (0 : Int) ≤ (r.prof.length : Int) := by omega
  clear hA0
  by_cases h1 : i < s
  · have hz : Hid (r.use s i = 0) := by show _ = _; unfold Ld.use; rw [if_pos h1]
    go_enter Try.func18, Try.ntmps18
    go_wp2_with fail
    go_ret
    exact ⟨ret_int hz.out.symm, hB.out⟩
  · have hw : IntKind.u64.wrap (IntKind.u64.wrap i - IntKind.u64.wrap s) = i - s := by
      show (_ : Int) = _
      have := wrapU (i := i) (s := s) (by omega) s0 i1
      simpa [IntKind.wrap, IntKind.bits, IntKind.signed] using this
    by_cases h2 : (r.prof.length : Int) ≤ i - s
    · have hz : Hid (r.use s i = 0) := by show _ = _; unfold Ld.use; rw [if_neg h1, if_pos h2]
      go_enter Try.func18, Try.ntmps18
      go_wp2_with fail
      go_ret
      exact ⟨ret_int hz.out.symm, hB.out⟩
    · have hk : (i - s).toNat < r.prof.length := by omega
      have hz : Hid (r.use s i = unitZ r.prof[(i - s).toNat]) := by show _ = _; unfold Ld.use; rw [if_neg h1, if_neg h2]; simp [List.getD, hk]
      obtain ⟨b, of, hAe, hb, hc⟩ := hA.out.at' hk
      subst hAe
      generalize r.prof[(i - s).toNat] = x at *
      go_enter Try.func18, Try.ntmps18
      go_wp2_with fail
      refine (units_any x _).mono ?_
      rintro e w1 ⟨rfl, rfl⟩
      go_wp2_with fail
      go_ret
      exact ⟨ret_int hz.out.symm, hB.out⟩

set_option maxHeartbeats 1000000 in
theorem rluse_any (r : Ld) (A : Option Addr) (c : Nat) (s i : Int) (w : World) (hA0 : RInts w A r.prof) (hl : r.prof.length < 1000000000)
    (s0 : -9223372036854775808 ≤ s) (_s1 : s ≤ 9223372036854775807) (_i0 : -9223372036854775808 ≤ i) (i1 : i ≤ 9223372036854775807) :
    Calls Try.prog 19 #[r.v A c, .int .i64 s, .int .i64 i] w fun e w' => e = .returned (.int .i64 (r.use s i)) ∧ Below w.heap.size w w' := by
  have hB := Lib.hid (ld_alloc r A c w)
  have hA := Lib.hid hA0
  simp only [Ld.v]
  have hl0 : (0 : Int) ≤ (r.prof.length : Int) := by omega
  clear hA0
  by_cases h1 : i < s
  · have hz : Hid (r.use s i = 0) := by show _ = _; unfold Ld.use; rw [if_pos h1]
    go_enter Try.func19, Try.ntmps19
    go_wp2_with fail
    go_ret
    exact ⟨ret_int hz.out.symm, hB.out⟩
  · have hw : IntKind.u64.wrap (IntKind.u64.wrap i - IntKind.u64.wrap s) = i - s := by
      show (_ : Int) = _
      have := wrapU (i := i) (s := s) (by omega) s0 i1
      simpa [IntKind.wrap, IntKind.bits, IntKind.signed] using this
    by_cases h2 : (r.prof.length : Int) ≤ i - s
    · have hz : Hid (r.use s i = 0) := by show _ = _; unfold Ld.use; rw [if_neg h1, if_pos h2]
      go_enter Try.func19, Try.ntmps19
      go_wp2_with fail
      go_ret
      exact ⟨ret_int hz.out.symm, hB.out⟩
    · have hk : (i - s).toNat < r.prof.length := by omega
      have hz : Hid (r.use s i = unitZ r.prof[(i - s).toNat]) := by show _ = _; unfold Ld.use; rw [if_neg h1, if_neg h2]; simp [List.getD, hk]
      obtain ⟨b, of, hAe, hb, hc⟩ := hA.out.at' hk
      subst hAe
      generalize r.prof[(i - s).toNat] = x at *
      go_enter Try.func19, Try.ntmps19
      go_wp2_with fail
      refine (unit_any x _).mono ?_
      rintro e w1 ⟨rfl, rfl⟩
      go_wp2_with fail
      go_ret
      exact ⟨ret_int hz.out.symm, hB.out⟩
end Go.Proofs.Ytnibhdpgjmdkeaa
