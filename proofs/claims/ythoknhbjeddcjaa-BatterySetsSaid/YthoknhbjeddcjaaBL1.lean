/-
  The walks of the laws of layer 39 (battery), part 1: BatterySteps.
-/
import Derived.Test.YthoknhbjeddcjaaBW
import Derived.Test.YthoknhbjeddcjaaBR6
import Derived.Deep.RegionHeld3
import Derived.Deep.DrawnRows
namespace Go.Proofs.Ythoknhbjeddcjaa
open Go.RowKit
attribute [local go_sem ↓] Go.wp_at_zero Go.wp_at_succ

/-- The world in which the call's battery has been laid. -/
def batW (b : Bat) (w : World) : World := w.alloc (.cells #[.int .i64 b.cap, .int .i64 b.reserve, .int .i64 b.charge, .int .i64 b.discharge, .int .i64 b.eff] 23)
/-- The battery's block, and all below, stand. -/
def BatS (b : Bat) (w W : World) : Prop := Below (w.heap.size + 1) (batW b w) W
theorem BatS.mk {b : Bat} {w W W' : World} (h : BatS b w W) (hb : Below W.heap.size W W') : BatS b w W' := h.trans (hb.mono (by have := h.size; simp [batW] at this; omega))
theorem BatS.cells {b : Bat} {w W : World} (h : BatS b w W) : W.cell? ⟨w.heap.size, 0, none⟩ = some (.int .i64 b.cap) ∧ W.cell? ⟨w.heap.size, 1, none⟩ = some (.int .i64 b.reserve) ∧ W.cell? ⟨w.heap.size, 2, none⟩ = some (.int .i64 b.charge) ∧ W.cell? ⟨w.heap.size, 3, none⟩ = some (.int .i64 b.discharge) ∧ W.cell? ⟨w.heap.size, 4, none⟩ = some (.int .i64 b.eff) := by
  have hc := (bcell' h).1
  refine ⟨?_, ?_, ?_, ?_, ?_⟩ <;> (rw [hc _ _ (by omega)]; simp [batW, World.cell?_alloc_new])
theorem BatS.keep {b : Bat} {w W W' : World} (h : BatS b w W) (hb : Below W.heap.size W W') : BatS b w W' ∧ W'.cell? ⟨w.heap.size, 0, none⟩ = some (.int .i64 b.cap) ∧ W'.cell? ⟨w.heap.size, 1, none⟩ = some (.int .i64 b.reserve) ∧ W'.cell? ⟨w.heap.size, 2, none⟩ = some (.int .i64 b.charge) ∧ W'.cell? ⟨w.heap.size, 3, none⟩ = some (.int .i64 b.discharge) ∧ W'.cell? ⟨w.heap.size, 4, none⟩ = some (.int .i64 b.eff) :=
  ⟨h.mk hb, (h.mk hb).cells⟩
theorem BatS.first {b : Bat} {w W : World} (h : BatS b w W) : BatS b w W ∧ W.cell? ⟨w.heap.size, 0, none⟩ = some (.int .i64 b.cap) ∧ W.cell? ⟨w.heap.size, 1, none⟩ = some (.int .i64 b.reserve) ∧ W.cell? ⟨w.heap.size, 2, none⟩ = some (.int .i64 b.charge) ∧ W.cell? ⟨w.heap.size, 3, none⟩ = some (.int .i64 b.discharge) ∧ W.cell? ⟨w.heap.size, 4, none⟩ = some (.int .i64 b.eff) := ⟨h, h.cells⟩
theorem BatS.drew {b : Bat} {w W : World} (h : BatS b w W) : BatS b w W.drew := Below.drew h

theorem BatS.out {b : Bat} {w W : World} (h : BatS b w W) : Below w.heap.size w W := ((Below.refl _ _).alloc (Nat.le_refl _) _).trans (h.mono (by omega))

set_option maxHeartbeats 4000000 in
theorem steps_law (b : Bat) (l c : Int) (w : World) : Calls Try.prog 3 #[b.v, .int .i64 l, .int .i64 c] w fun e w' => e = .returned (.bool true) ∧ Below w.heap.size w w' := by
  have h1 := step_any b l c
  have h2 := rstep_any b l c
  have h3 := check_any b
  have h4 := rcheck_any b
  generalize stepZ b l c = r at *
  obtain ⟨r1, r2, r3⟩ := r
  generalize b.chk = k at *
  unfold stepPost at h1 h2
  simp only [Bat.v] at h1 h2 h3 h4 ⊢
  have H1 := Lib.hid h1
  have H2 := Lib.hid h2
  have H3 := Lib.hid h3
  have H4 := Lib.hid h4
  clear h1 h2 h3 h4
  go_enter Try.func3, Try.ntmps3
  go_wp2_with fail
  refine (H1.out _).mono ?_
  rintro e w1 ⟨rfl, hb1⟩
  have B1 : BatS b w w1 := by
    have hb := hb1
    simp only [World.size_alloc] at hb
    exact hb
  clear hb1
  obtain ⟨c0, c1, c2, c3, c4⟩ := B1.cells
  go_wp2_with fail
  refine (H2.out _).mono ?_
  rintro e w2 ⟨rfl, hb2⟩
  have B2 := B1.mk hb2
  clear B1 hb2 c0 c1 c2 c3 c4
  have BF := B2.first
  go_wp2_with fail
  go_region_held3 (fun w' => BatS b w w' ∧ w'.cell? ⟨w.heap.size, 0, none⟩ = some (.int .i64 b.cap) ∧ w'.cell? ⟨w.heap.size, 1, none⟩ = some (.int .i64 b.reserve) ∧ w'.cell? ⟨w.heap.size, 2, none⟩ = some (.int .i64 b.charge) ∧ w'.cell? ⟨w.heap.size, 3, none⟩ = some (.int .i64 b.discharge) ∧ w'.cell? ⟨w.heap.size, 4, none⟩ = some (.int .i64 b.eff))
    (first | exact BatS.first (by assumption) | exact BatS.first (BatS.drew (by assumption)) | (refine BatS.keep ?_ (by assumption); first | assumption | exact And.left (by assumption) | exact BatS.drew (by assumption)))
    (first
      | (go_at_call 11; refine (H3.out _).mono ?_; rintro e w3 ⟨rfl, hb3⟩)
      | (go_at_call 12; refine (H4.out _).mono ?_; rintro e w3 ⟨rfl, hb3⟩)
      | (go_at_call 13; refine (awake_any _).mono ?_; rintro e w3 ⟨rfl, hb3⟩))
  go_wp2
  go_ret
  exact ⟨rfl, BatS.out (by first | assumption | exact And.left (by assumption))⟩
end Go.Proofs.Ythoknhbjeddcjaa
