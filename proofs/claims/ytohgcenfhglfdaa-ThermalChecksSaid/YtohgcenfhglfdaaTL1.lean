/-
  The walk of the law ThermalChecks (layer 40).
-/
import Derived.Test.YtohgcenfhglfdaaTL0
import Derived.Deep.RegionHeld3
import Derived.Deep.DrawnRows
namespace Go.Proofs.Ytohgcenfhglfdaa
open Go.RowKit
attribute [local go_sem ↓] Go.wp_at_zero Go.wp_at_succ

attribute [local go_sem] undef
set_option maxHeartbeats 4000000 in
theorem checks_law (r : Rm) (A B : Option Addr) (c d : Nat) (n : Int) (w : World) (hA : RInts w A r.low) (hB : RInts w B r.high) :
    Calls Try.prog 3 #[r.v A c B d, .int .i64 n] w fun e w' => e = .returned (.bool true) ∧ Below w.heap.size w w' := by
  have h0 := RoomX.first (c := c) (d := d) hA hB
  have hg := Lib.hid (fun W => great_any r A B c d W)
  simp only [Rm.v] at hg
  have h1 := Lib.hid (fun W (h : RoomX r A c B d w W) => h.cCheck n)
  have h2 := Lib.hid (fun W (h : RoomX r A c B d w W) => h.cRCheck n)
  clear hA hB
  simp only [Rm.v]
  generalize r.chk n = k at *
  generalize r.great = g at *
  cases g
  · go_enter Try.func3, Try.ntmps3
    go_wp2_with fail
    go_region_held3 (fun w' => Below (roomX r A c B d w).heap.size (roomX r A c B d w) w' ∧ w'.cell? ⟨w.heap.size, 0, none⟩ = some (.int .i64 r.gain) ∧ w'.cell? ⟨w.heap.size, 1, none⟩ = some (.int .i64 r.loss) ∧ w'.cell? ⟨w.heap.size, 2, none⟩ = some (.int .i64 r.steps) ∧ w'.cell? ⟨w.heap.size, 3, none⟩ = some (.int .i64 r.power) ∧ w'.cell? ⟨w.heap.size, 4, none⟩ = some (.slice A r.low.length c) ∧ w'.cell? ⟨w.heap.size, 5, none⟩ = some (.slice B r.high.length d))
      (first | exact h0.keep (Below.refl _ _) | exact h0.keep (Below.drew (Below.refl _ _)) | exact h0.keep (Below.drew (by assumption)) | exact h0.keep (Below.drew (And.left (by assumption))) | exact h0.keep (Below.trans (by first | assumption | exact And.left (by assumption) | exact Below.refl _ _ | exact Below.drew (Below.refl _ _) | exact Below.drew (by assumption) | exact Below.drew (And.left (by assumption))) (Below.mono (by assumption) (Below.size (by first | assumption | exact And.left (by assumption) | exact Below.refl _ _ | exact Below.drew (Below.refl _ _) | exact Below.drew (by assumption) | exact Below.drew (And.left (by assumption)))))))
      (first
        | (go_at_call 11; refine (hg.out _).mono ?_; rintro e w3 ⟨rfl, hb3⟩)
        | (go_at_call 12; refine (h1.out _ (h0.mk' (by first | assumption | exact And.left (by assumption) | exact Below.refl _ _ | exact Below.drew (Below.refl _ _) | exact Below.drew (by assumption) | exact Below.drew (And.left (by assumption))))).mono ?_; rintro e w4 ⟨rfl, hb4⟩)
        | (go_at_call 13; refine (h2.out _ (h0.mk' (by first | assumption | exact And.left (by assumption) | exact Below.refl _ _ | exact Below.drew (Below.refl _ _) | exact Below.drew (by assumption) | exact Below.drew (And.left (by assumption))))).mono ?_; rintro e w5 ⟨rfl, hb5⟩)
        | (go_at_call 14; refine (lives_any _).mono ?_; rintro e w6 ⟨rfl, hb6⟩))
    go_wp2
    go_ret
    exact ⟨rfl, (h0.mk' (by first | assumption | exact And.left (by assumption))).out⟩
  · go_enter Try.func3, Try.ntmps3
    go_wp2_with fail
    first | go_region_with (first | (go_at_call 11; refine (hg.out _).mono ?_; rintro e w3 ⟨rfl, hb3⟩)) | fail
    all_goals
      go_wp2
      go_ret
      exact ⟨rfl, (h0.drew.mk' hb3).out⟩
end Go.Proofs.Ytohgcenfhglfdaa
