/-
  The walks of the laws of layer 39 (battery), part 3: BatteryChoices.
-/
import Derived.Test.YthoknhbjeddcjaaBL2
namespace Go.Proofs.Ythoknhbjeddcjaa
open Go.RowKit
attribute [local go_sem ↓] Go.wp_at_zero Go.wp_at_succ

theorem reachZ_length (b : Bat) (l n : Int) : (reachZ b l n).length ≤ 41 := by
  by_cases h : b.ok = true ∧ 0 ≤ l ∧ l ≤ b.cap ∧ 0 ≤ n ∧ n ≤ 96
  · rw [reach_is h]
    have := listTo_len (reachB b l n.toNat) (b.cap.toNat + 1)
    have h1 := (Bat.good h.1).cap1
    omega
  · rw [reach_not h]; simp

set_option maxHeartbeats 8000000 in
theorem choices_law (b : Bat) (l n c : Int) (w : World) : Calls Try.prog 4 #[b.v, .int .i64 l, .int .i64 n, .int .i64 c] w fun e w' => e = .returned (.bool true) ∧ Below w.heap.size w w' := by
  have h1 := choices_any b l
  have h2 := rchoices_any b l
  have h3 := reach_any b l n
  have h4 := rreach_any b l n
  have h5 := round_any b c
  have h6 := rround_any b c
  have hl1 := choicesZ_length b l
  have hl2 := reachZ_length b l n
  generalize choicesZ b l = xs at *
  generalize reachZ b l n = ys at *
  generalize roundZ b c = k at *
  simp only [Bat.v] at h1 h2 h3 h4 h5 h6 ⊢
  have H1 := Lib.hid h1
  have H2 := Lib.hid h2
  have H3 := Lib.hid h3
  have H4 := Lib.hid h4
  have H5 := Lib.hid h5
  have H6 := Lib.hid h6
  clear h1 h2 h3 h4 h5 h6
  have BF := (bat_first (Below.refl _ (batW b w))).first
  go_enter Try.func4, Try.ntmps4
  go_wp2_with fail
  go_region_held3 (fun w' => BatS b w w' ∧ w'.cell? ⟨w.heap.size, 0, none⟩ = some (.int .i64 b.cap) ∧ w'.cell? ⟨w.heap.size, 1, none⟩ = some (.int .i64 b.reserve) ∧ w'.cell? ⟨w.heap.size, 2, none⟩ = some (.int .i64 b.charge) ∧ w'.cell? ⟨w.heap.size, 3, none⟩ = some (.int .i64 b.discharge) ∧ w'.cell? ⟨w.heap.size, 4, none⟩ = some (.int .i64 b.eff))
    (first | exact BatS.first (BatS.drew BF.1) | exact BatS.first (by assumption) | exact BatS.first (BatS.drew (by assumption)) | (refine BatS.keep ?_ (by assumption); first | assumption | exact And.left (by assumption) | exact BatS.drew (by assumption)))
    (first
      | (go_at_call 15; refine (H1.out _).mono ?_; rintro e w1 ⟨A1, c1, rfl, hr1, _, hb1⟩)
      | (go_at_call 16; refine (H2.out _).mono ?_; rintro e w2 ⟨A2, c2, rfl, hr2, _, hb2⟩; have hr1b := hr1.below hb2; clear hr1)
      | (go_at_call 14; refine (same_at xs xs rfl rfl hr1b hr2 (by omega)).mono ?_; rintro e w3 ⟨rfl, hb3⟩; clear hr1b hr2)
      | (go_at_call 17; refine (H3.out _).mono ?_; rintro e w4 ⟨A3, c3, rfl, hr3, _, hb4⟩)
      | (go_at_call 18; refine (H4.out _).mono ?_; rintro e w5 ⟨A4, c4, rfl, hr4, _, hb5⟩; have hr3b := hr3.below hb5; clear hr3)
      | (go_at_call 14; refine (same_at ys ys rfl rfl hr3b hr4 (by omega)).mono ?_; rintro e w6 ⟨rfl, hb6⟩; clear hr3b hr4)
      | (go_at_call 19; refine (H5.out _).mono ?_; rintro e w7 ⟨rfl, hb7⟩)
      | (go_at_call 20; refine (H6.out _).mono ?_; rintro e w8 ⟨rfl, hb8⟩)
      | (go_at_call 13; refine (awake_any _).mono ?_; rintro e w9 ⟨rfl, hb9⟩))
  go_wp2
  go_ret
  exact ⟨rfl, BatS.out (by first | assumption | exact And.left (by assumption))⟩
end Go.Proofs.Ythoknhbjeddcjaa
