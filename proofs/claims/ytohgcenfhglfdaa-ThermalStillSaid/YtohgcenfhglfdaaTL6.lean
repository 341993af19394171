/-
  The walk of the law ThermalStill (layer 40).
-/
import Derived.Test.YtohgcenfhglfdaaTL0
import Derived.Test.YtohgcenfhglfdaaTP4
import Derived.Deep.RegionHeld3
import Derived.Deep.DrawnRows
namespace Go.Proofs.Ytohgcenfhglfdaa
open Go.RowKit
attribute [local go_sem ↓] Go.wp_at_zero Go.wp_at_succ

set_option maxHeartbeats 8000000 in
theorem still_law (r : Rm) (A B : Option Addr) (c d : Nat) (t : Int) (w : World) (hA : RInts w A r.low) (hB : RInts w B r.high) :
    Calls Try.prog 7 #[r.v A c B d, .int .i64 t] w fun e w' => e = .returned (.bool true) ∧ Below w.heap.size w w' := by
  have h0 := RoomX.first (c := c) (d := d) hA hB
  have HG := great_any r A B c d
  simp only [Rm.v] at HG ⊢
  generalize r.great = g at *
  have hg := Lib.hid HG
  clear HG hA hB
  have hcs : g = true ∨ (g = false ∧ t < -1000) ∨ (g = false ∧ ¬ t < -1000 ∧ 2000 < t) ∨ (g = false ∧ ¬ t < -1000 ∧ ¬ 2000 < t) := by
    cases g
    · simp; omega
    · simp
  rcases hcs with rfl | ⟨rfl, q1⟩ | ⟨rfl, q1, q2⟩ | ⟨rfl, q1, q2⟩
  · go_enter Try.func7, Try.ntmps7
    go_wp2_with fail
    refine (hg.out _).mono ?_
    rintro e v1 ⟨rfl, hb1⟩
    have h1 := h0.mk' hb1
    clear hb1
    go_wp2_with fail
    refine (lives_any _).mono ?_
    rintro e v2 ⟨rfl, hb2⟩
    go_wp2_with fail
    go_ret
    exact ⟨rfl, (h1.mk' hb2).out⟩
  · go_enter Try.func7, Try.ntmps7
    go_wp2_with fail
    refine (hg.out _).mono ?_
    rintro e v1 ⟨rfl, hb1⟩
    have h1 := h0.mk' hb1
    clear hb1
    go_wp2_with fail
    refine (lives_any _).mono ?_
    rintro e v2 ⟨rfl, hb2⟩
    go_wp2_with fail
    go_ret
    exact ⟨rfl, (h1.mk' hb2).out⟩
  · go_enter Try.func7, Try.ntmps7
    go_wp2_with fail
    refine (hg.out _).mono ?_
    rintro e v1 ⟨rfl, hb1⟩
    have h1 := h0.mk' hb1
    clear hb1
    go_wp2_with fail
    refine (lives_any _).mono ?_
    rintro e v2 ⟨rfl, hb2⟩
    go_wp2_with fail
    go_ret
    exact ⟨rfl, (h1.mk' hb2).out⟩
  · have H1 := fun W (h : RoomX r A c B d w W) C (hC : RInts W C [t, t, t]) => h.cDrift t (f := 3) hC
    have H2 := fun W (h : RoomX r A c B d w W) => h.cStep t t 0
    simp only [show outsT [t, t, t] = [t, t, t] from rfl, r.drift_still (show -1000 ≤ t by omega) (show t ≤ 2000 by omega), r.step_still (show -1000 ≤ t by omega) (show t ≤ 2000 by omega)] at H1 H2
    have c1 := Lib.hid H1
    have c2 := Lib.hid H2
    clear H1 H2
    go_enter Try.func7, Try.ntmps7
    go_wp2_with fail
    refine (hg.out _).mono ?_
    rintro e v1 ⟨rfl, hb1⟩
    have h1 := h0.mk' hb1
    clear hb1
    obtain ⟨z0, z1, z2, z3, z4, z5⟩ := h1.cells
    go_wp2_with fail
    clear z0 z1 z2 z3 z4 z5
    have h1' := h1.mk' ((Below.refl _ _).alloc (Nat.le_refl _) (.cells #[.int .i64 t, .int .i64 t, .int .i64 t] 3))
    refine (c1.out _ h1' _ (rints_lit _ _ _ rfl)).mono ?_
    rintro e v2 ⟨A2, c2', rfl, hr2, _, hb2⟩
    have h2 := h1'.mk' hb2
    have HR2 := Lib.hid hr2
    clear hb2 hr2 h1 h1'
    obtain ⟨z0, z1, z2, z3, z4, z5⟩ := h2.cells
    go_wp2_with fail
    clear z0 z1 z2 z3 z4 z5
    refine (c2.out _ h2).mono ?_
    rintro e v3 ⟨rfl, hb3⟩
    have h3 := h2.mk' hb3
    have HR3 := Lib.hid (HR2.out.below hb3)
    clear hb3 HR2 h2
    go_wp2_with fail
    refine (same_at [t, t, t] [t, t, t] rfl rfl (HR3.out.alloc _) (rints_lit _ _ _ rfl) (by simp)).mono ?_
    rintro e v4 ⟨rfl, hb4⟩
    have h4 := (h3.mk' ((Below.refl _ _).alloc (Nat.le_refl _) (.cells #[.int .i64 t, .int .i64 t, .int .i64 t] 3))).mk' hb4
    clear hb4 HR3 h3
    go_wp2_with fail
    refine (lives_any _).mono ?_
    rintro e v5 ⟨rfl, hb5⟩
    go_wp2_with fail
    go_ret
    exact ⟨rfl, (h4.mk' hb5).out⟩
end Go.Proofs.Ytohgcenfhglfdaa
