/-
  The walk of the law ThermalDrifts (layer 40).
-/
import Derived.Test.YtohgcenfhglfdaaTL0
import Derived.Deep.RegionHeld3
import Derived.Deep.DrawnRows
namespace Go.Proofs.Ytohgcenfhglfdaa
open Go.RowKit
attribute [local go_sem ↓] Go.wp_at_zero Go.wp_at_succ

theorem driftT_length (r : Rm) (t : Int) (l : List Int) : (r.valid.drift t (outsT l)).length ≤ 96 := by rw [drift_length]; exact outsT_len l

set_option maxHeartbeats 8000000 in
theorem drifts_law (r : Rm) (A B : Option Addr) (c d : Nat) (temp : Int) (C : Option Addr) (f : Nat) (l : List Int) (w : World) (hA : RInts w A r.low) (hB : RInts w B r.high) (hC : RInts w C l) :
    Calls Try.prog 5 #[r.v A c B d, .int .i64 temp, .slice C l.length f] w fun e w' => e = .returned (.bool true) ∧ Below w.heap.size w w' := by
  have h0 := RoomX.first (c := c) (d := d) hA hB
  have HG := great_any r A B c d
  have H1 := fun W (h : RoomX r A c B d w W) => h.cDrift temp (f := f) (hC.below h.out)
  have H2 := fun W (h : RoomX r A c B d w W) => h.cRDrift temp (f := f) (hC.below h.out)
  have H3 := fun W (h : RoomX r A c B d w W) => h.cSafe temp (f := f) (hC.below h.out)
  have H4 := fun W (h : RoomX r A c B d w W) => h.cRSafe temp (f := f) (hC.below h.out)
  have hl := driftT_length r temp l
  simp only [Rm.v] at HG ⊢
  generalize r.valid.drift temp (outsT l) = xs at *
  generalize r.valid.safe temp (outsT l) = hh at *
  generalize r.great = g at *
  generalize l.length = m at *
  have hg := Lib.hid HG
  have c1 := Lib.hid H1
  have c2 := Lib.hid H2
  have c3 := Lib.hid H3
  have c4 := Lib.hid H4
  clear HG H1 H2 H3 H4 hA hB hC
  cases g
  · have hcs : ((12 : Int) < (m : Int) ∧ (m : Int) ≤ 96) ∨ (300 : Int) < (m : Int) ∨ ¬ (12 : Int) < (m : Int) ∨ ((12 : Int) < (m : Int) ∧ ¬ (m : Int) ≤ 96 ∧ ¬ (300 : Int) < (m : Int)) := by omega
    rcases hcs with ⟨q1, q2⟩ | q1 | q1 | ⟨q1, q2, q3⟩
    · go_enter Try.func5, Try.ntmps5
      go_wp2_with fail
      refine (hg.out _).mono ?_
      rintro e w1 ⟨rfl, hb1⟩
      have h1 := h0.mk' hb1
      clear hb1
      go_wp2_with fail
      refine (lives_any _).mono ?_
      rintro e w2 ⟨rfl, hb2⟩
      go_wp2_with fail
      go_ret
      exact ⟨rfl, (h1.mk' hb2).out⟩
    · have q2 : (12 : Int) < (m : Int) := by omega
      have q3 : ¬ (m : Int) ≤ 96 := by omega
      go_enter Try.func5, Try.ntmps5
      go_wp2_with fail
      refine (hg.out _).mono ?_
      rintro e w1 ⟨rfl, hb1⟩
      have h1 := h0.mk' hb1
      clear hb1
      go_wp2_with fail
      refine (lives_any _).mono ?_
      rintro e w2 ⟨rfl, hb2⟩
      go_wp2_with fail
      go_ret
      exact ⟨rfl, (h1.mk' hb2).out⟩
    · have q2 : ¬ (300 : Int) < (m : Int) := by omega
      go_enter Try.func5, Try.ntmps5
      go_wp2_with fail
      refine (hg.out _).mono ?_
      rintro e w1 ⟨rfl, hb1⟩
      have h1 := h0.mk' hb1
      clear hb1
      go_wp2_with fail
      go_region_held3 (fun w' => Below w1.heap.size w1 w' ∧ w'.cell? ⟨w.heap.size, 0, none⟩ = some (.int .i64 r.gain) ∧ w'.cell? ⟨w.heap.size, 1, none⟩ = some (.int .i64 r.loss) ∧ w'.cell? ⟨w.heap.size, 2, none⟩ = some (.int .i64 r.steps) ∧ w'.cell? ⟨w.heap.size, 3, none⟩ = some (.int .i64 r.power) ∧ w'.cell? ⟨w.heap.size, 4, none⟩ = some (.slice A r.low.length c) ∧ w'.cell? ⟨w.heap.size, 5, none⟩ = some (.slice B r.high.length d))
        (first | exact h1.keep (Below.refl _ _) | exact h1.keep (Below.drew (Below.refl _ _)) | exact h1.keep (Below.drew (by assumption)) | exact h1.keep (Below.drew (And.left (by assumption))) | exact h1.keep (Below.trans (by first | assumption | exact And.left (by assumption) | exact Below.refl _ _ | exact Below.drew (Below.refl _ _) | exact Below.drew (by assumption) | exact Below.drew (And.left (by assumption))) (Below.mono (by assumption) (Below.size (by first | assumption | exact And.left (by assumption) | exact Below.refl _ _ | exact Below.drew (Below.refl _ _) | exact Below.drew (by assumption) | exact Below.drew (And.left (by assumption)))))))
        (first
          | (go_at_call 20; refine (c1.out _ (h1.mk' (by first | assumption | exact And.left (by assumption) | exact Below.refl _ _ | exact Below.drew (Below.refl _ _) | exact Below.drew (by assumption) | exact Below.drew (And.left (by assumption))))).mono ?_; rintro e w3 ⟨A1, c1', rfl, hr1, _, hb3⟩)
          | (go_at_call 21; refine (c2.out _ (h1.mk' (by first | assumption | exact And.left (by assumption) | exact Below.refl _ _ | exact Below.drew (Below.refl _ _) | exact Below.drew (by assumption) | exact Below.drew (And.left (by assumption))))).mono ?_; rintro e w4 ⟨A2, c2', rfl, hr2, _, hb4⟩; have hr1b := hr1.below hb4; clear hr1)
          | (go_at_call 15; refine (same_at xs xs rfl rfl hr1b hr2 (by omega)).mono ?_; rintro e w5 ⟨rfl, hb5⟩; clear hr1b hr2)
          | (go_at_call 22; refine (c3.out _ (h1.mk' (by first | assumption | exact And.left (by assumption) | exact Below.refl _ _ | exact Below.drew (Below.refl _ _) | exact Below.drew (by assumption) | exact Below.drew (And.left (by assumption))))).mono ?_; rintro e w6 ⟨rfl, hb6⟩)
          | (go_at_call 23; refine (c4.out _ (h1.mk' (by first | assumption | exact And.left (by assumption) | exact Below.refl _ _ | exact Below.drew (Below.refl _ _) | exact Below.drew (by assumption) | exact Below.drew (And.left (by assumption))))).mono ?_; rintro e w7 ⟨rfl, hb7⟩)
          | (go_at_call 14; refine (lives_any _).mono ?_; rintro e w8 ⟨rfl, hb8⟩))
      go_wp2
      go_ret
      exact ⟨rfl, (h1.mk' (by first | assumption | exact And.left (by assumption))).out⟩
    · go_enter Try.func5, Try.ntmps5
      go_wp2_with fail
      refine (hg.out _).mono ?_
      rintro e w1 ⟨rfl, hb1⟩
      have h1 := h0.mk' hb1
      clear hb1
      go_wp2_with fail
      go_region_held3 (fun w' => Below w1.heap.size w1 w' ∧ w'.cell? ⟨w.heap.size, 0, none⟩ = some (.int .i64 r.gain) ∧ w'.cell? ⟨w.heap.size, 1, none⟩ = some (.int .i64 r.loss) ∧ w'.cell? ⟨w.heap.size, 2, none⟩ = some (.int .i64 r.steps) ∧ w'.cell? ⟨w.heap.size, 3, none⟩ = some (.int .i64 r.power) ∧ w'.cell? ⟨w.heap.size, 4, none⟩ = some (.slice A r.low.length c) ∧ w'.cell? ⟨w.heap.size, 5, none⟩ = some (.slice B r.high.length d))
        (first | exact h1.keep (Below.refl _ _) | exact h1.keep (Below.drew (Below.refl _ _)) | exact h1.keep (Below.drew (by assumption)) | exact h1.keep (Below.drew (And.left (by assumption))) | exact h1.keep (Below.trans (by first | assumption | exact And.left (by assumption) | exact Below.refl _ _ | exact Below.drew (Below.refl _ _) | exact Below.drew (by assumption) | exact Below.drew (And.left (by assumption))) (Below.mono (by assumption) (Below.size (by first | assumption | exact And.left (by assumption) | exact Below.refl _ _ | exact Below.drew (Below.refl _ _) | exact Below.drew (by assumption) | exact Below.drew (And.left (by assumption)))))))
        (first
          | (go_at_call 20; refine (c1.out _ (h1.mk' (by first | assumption | exact And.left (by assumption) | exact Below.refl _ _ | exact Below.drew (Below.refl _ _) | exact Below.drew (by assumption) | exact Below.drew (And.left (by assumption))))).mono ?_; rintro e w3 ⟨A1, c1', rfl, hr1, _, hb3⟩)
          | (go_at_call 21; refine (c2.out _ (h1.mk' (by first | assumption | exact And.left (by assumption) | exact Below.refl _ _ | exact Below.drew (Below.refl _ _) | exact Below.drew (by assumption) | exact Below.drew (And.left (by assumption))))).mono ?_; rintro e w4 ⟨A2, c2', rfl, hr2, _, hb4⟩; have hr1b := hr1.below hb4; clear hr1)
          | (go_at_call 15; refine (same_at xs xs rfl rfl hr1b hr2 (by omega)).mono ?_; rintro e w5 ⟨rfl, hb5⟩; clear hr1b hr2)
          | (go_at_call 22; refine (c3.out _ (h1.mk' (by first | assumption | exact And.left (by assumption) | exact Below.refl _ _ | exact Below.drew (Below.refl _ _) | exact Below.drew (by assumption) | exact Below.drew (And.left (by assumption))))).mono ?_; rintro e w6 ⟨rfl, hb6⟩)
          | (go_at_call 23; refine (c4.out _ (h1.mk' (by first | assumption | exact And.left (by assumption) | exact Below.refl _ _ | exact Below.drew (Below.refl _ _) | exact Below.drew (by assumption) | exact Below.drew (And.left (by assumption))))).mono ?_; rintro e w7 ⟨rfl, hb7⟩)
          | (go_at_call 14; refine (lives_any _).mono ?_; rintro e w8 ⟨rfl, hb8⟩))
      go_wp2
      go_ret
      exact ⟨rfl, (h1.mk' (by first | assumption | exact And.left (by assumption))).out⟩
  · go_enter Try.func5, Try.ntmps5
    go_wp2_with fail
    refine (hg.out _).mono ?_
    rintro e w1 ⟨rfl, hb1⟩
    have h1 := h0.mk' hb1
    clear hb1
    go_wp2_with fail
    refine (lives_any _).mono ?_
    rintro e w2 ⟨rfl, hb2⟩
    go_wp2_with fail
    go_ret
    exact ⟨rfl, (h1.mk' hb2).out⟩
end Go.Proofs.Ytohgcenfhglfdaa
