/-
  The walk of the law ThermalSteps (layer 40).
-/
import Derived.Test.YtohgcenfhglfdaaTL0
import Derived.Deep.RegionHeld3
import Derived.Deep.DrawnRows
namespace Go.Proofs.Ytohgcenfhglfdaa
open Go.RowKit
attribute [local go_sem ↓] Go.wp_at_zero Go.wp_at_succ

set_option maxHeartbeats 8000000 in
theorem steps_law (r : Rm) (A B : Option Addr) (c d : Nat) (x y z i : Int) (w : World) (hA : RInts w A r.low) (hB : RInts w B r.high) :
    Calls Try.prog 10 #[r.v A c B d, .agg #[.int .i64 x, .int .i64 y, .int .i64 z], .int .i64 i] w fun e w' => e = .returned (.bool true) ∧ Below w.heap.size w w' := by
  have h00 := RoomX.first (c := c) (d := d) hA hB
  have h0 : RoomX r A c B d w ((roomX r A c B d w).alloc (.cells #[.int .i64 x, .int .i64 y, .int .i64 z] 38)) := h00.mk' ((Below.refl _ _).alloc (Nat.le_refl _) _)
  have k0 : (((roomX r A c B d w).alloc (.cells #[.int .i64 x, .int .i64 y, .int .i64 z] 38))).cell? ⟨w.heap.size + 1, 0, none⟩ = some (.int .i64 x) := by simp [roomX]
  have k1 : (((roomX r A c B d w).alloc (.cells #[.int .i64 x, .int .i64 y, .int .i64 z] 38))).cell? ⟨w.heap.size + 1, 1, none⟩ = some (.int .i64 y) := by simp [roomX]
  have k2 : (((roomX r A c B d w).alloc (.cells #[.int .i64 x, .int .i64 y, .int .i64 z] 38))).cell? ⟨w.heap.size + 1, 2, none⟩ = some (.int .i64 z) := by simp [roomX]
  have HG := great_any r A B c d
  have H1 := fun W (h : RoomX r A c B d w W) => h.cStep x y z
  have H2 := fun W (h : RoomX r A c B d w W) => h.cRStep x y z
  have H3 := fun W (h : RoomX r A c B d w W) => h.cOk i x
  have H4 := fun W (h : RoomX r A c B d w W) => h.cROk i x
  simp only [Rm.v] at HG ⊢
  generalize r.valid.step x y z = u at *
  generalize r.valid.okAt i x = ok at *
  generalize r.great = g at *
  have hg := Lib.hid HG
  have c1 := Lib.hid H1
  have c2 := Lib.hid H2
  have c3 := Lib.hid H3
  have c4 := Lib.hid H4
  clear HG H1 H2 H3 H4 hA hB h00
  cases g
  · go_enter Try.func10, Try.ntmps10
    go_wp2_with fail
    refine (hg.out _).mono ?_
    rintro e w1 ⟨rfl, hb1⟩
    have h1 := h0.mk' hb1
    have j0 := cell_below k0 hb1
    have j1 := cell_below k1 hb1
    have j2 := cell_below k2 hb1
    clear h0 k0 k1 k2 hb1
    go_wp2_with fail
    go_region_held3 (fun w' => Below w1.heap.size w1 w' ∧ w'.cell? ⟨w.heap.size, 0, none⟩ = some (.int .i64 r.gain) ∧ w'.cell? ⟨w.heap.size, 1, none⟩ = some (.int .i64 r.loss) ∧ w'.cell? ⟨w.heap.size, 2, none⟩ = some (.int .i64 r.steps) ∧ w'.cell? ⟨w.heap.size, 3, none⟩ = some (.int .i64 r.power) ∧ w'.cell? ⟨w.heap.size, 4, none⟩ = some (.slice A r.low.length c) ∧ w'.cell? ⟨w.heap.size, 5, none⟩ = some (.slice B r.high.length d) ∧ w'.cell? ⟨w.heap.size + 1, 0, none⟩ = some (.int .i64 x) ∧ w'.cell? ⟨w.heap.size + 1, 1, none⟩ = some (.int .i64 y) ∧ w'.cell? ⟨w.heap.size + 1, 2, none⟩ = some (.int .i64 z))
      (first | exact h1.keep3 j0 j1 j2 (Below.refl _ _) | exact h1.keep3 j0 j1 j2 (Below.drew (Below.refl _ _)) | exact h1.keep3 j0 j1 j2 (Below.drew (by assumption)) | exact h1.keep3 j0 j1 j2 (Below.drew (And.left (by assumption))) | exact h1.keep3 j0 j1 j2 (Below.trans (by first | assumption | exact And.left (by assumption) | exact Below.refl _ _ | exact Below.drew (Below.refl _ _) | exact Below.drew (by assumption) | exact Below.drew (And.left (by assumption))) (Below.mono (by assumption) (Below.size (by first | assumption | exact And.left (by assumption) | exact Below.refl _ _ | exact Below.drew (Below.refl _ _) | exact Below.drew (by assumption) | exact Below.drew (And.left (by assumption)))))))
      (first
        | (go_at_call 24; refine (c1.out _ (h1.mk' (by first | assumption | exact And.left (by assumption) | exact Below.refl _ _ | exact Below.drew (Below.refl _ _) | exact Below.drew (by assumption) | exact Below.drew (And.left (by assumption))))).mono ?_; rintro e w3 ⟨rfl, hb3⟩)
        | (go_at_call 25; refine (c2.out _ (h1.mk' (by first | assumption | exact And.left (by assumption) | exact Below.refl _ _ | exact Below.drew (Below.refl _ _) | exact Below.drew (by assumption) | exact Below.drew (And.left (by assumption))))).mono ?_; rintro e w4 ⟨rfl, hb4⟩)
        | (go_at_call 26; refine (c3.out _ (h1.mk' (by first | assumption | exact And.left (by assumption) | exact Below.refl _ _ | exact Below.drew (Below.refl _ _) | exact Below.drew (by assumption) | exact Below.drew (And.left (by assumption))))).mono ?_; rintro e w6 ⟨rfl, hb6⟩)
        | (go_at_call 27; refine (c4.out _ (h1.mk' (by first | assumption | exact And.left (by assumption) | exact Below.refl _ _ | exact Below.drew (Below.refl _ _) | exact Below.drew (by assumption) | exact Below.drew (And.left (by assumption))))).mono ?_; rintro e w7 ⟨rfl, hb7⟩)
        | (go_at_call 14; refine (lives_any _).mono ?_; rintro e w8 ⟨rfl, hb8⟩))
    go_wp2
    go_ret
    exact ⟨rfl, (h1.mk' (by first | assumption | exact And.left (by assumption))).out⟩
  · go_enter Try.func10, Try.ntmps10
    go_wp2_with fail
    refine (hg.out _).mono ?_
    rintro e w1 ⟨rfl, hb1⟩
    have h1 := h0.mk' hb1
    clear k0 k1 k2 hb1
    go_wp2_with fail
    refine (lives_any _).mono ?_
    rintro e w2 ⟨rfl, hb2⟩
    go_wp2_with fail
    go_ret
    exact ⟨rfl, (h1.mk' hb2).out⟩
end Go.Proofs.Ytohgcenfhglfdaa
