/-
  The walk of the chapter's examples (layer 39, battery): awake returns true.
-/
import Derived.Test.YthoknhbjeddcjaaB4
import Derived.Test.YthoknhbjeddcjaaBR5
import Derived.Test.YthoknhbjeddcjaaBS
namespace Go.Proofs.Ythoknhbjeddcjaa
open Go.RowKit

/-- The battery of the examples. -/
def batE : Bat := ⟨10, 2, 3, 4, 900⟩
theorem batE_v : batE.v = .agg #[.int .i64 10, .int .i64 2, .int .i64 3, .int .i64 4, .int .i64 900] := rfl
theorem awake_s1 (w : World) : Calls Try.prog 9 #[.agg #[.int .i64 10, .int .i64 2, .int .i64 3, .int .i64 4, .int .i64 900], .int .i64 5, .int .i64 3] w (stepPost (8, 4, 0) w) := step_any batE 5 3 w
theorem awake_s2 (w : World) : Calls Try.prog 9 #[.agg #[.int .i64 10, .int .i64 2, .int .i64 3, .int .i64 4, .int .i64 900], .int .i64 5, .int .i64 (-3)] w (stepPost (2, -3, 0) w) := step_any batE 5 (-3) w
theorem awake_s3 (w : World) : Calls Try.prog 9 #[.agg #[.int .i64 10, .int .i64 2, .int .i64 3, .int .i64 4, .int .i64 900], .int .i64 5, .int .i64 (-4)] w (stepPost (0, 0, 20) w) := step_any batE 5 (-4) w
theorem awake_s4 (w : World) : Calls Try.prog 9 #[.agg #[.int .i64 10, .int .i64 2, .int .i64 3, .int .i64 4, .int .i64 900], .int .i64 5, .int .i64 4] w (stepPost (0, 0, 2) w) := step_any batE 5 4 w
theorem awake_c1 (w : World) : Calls Try.prog 15 #[.agg #[.int .i64 10, .int .i64 2, .int .i64 3, .int .i64 4, .int .i64 900], .int .i64 1] w (IntsOut [0, 1, 2, 3] w) := by
  have h := choices_any batE 1 w
  rw [show choicesZ batE 1 = [0, 1, 2, 3] by decide] at h
  exact h
theorem awake_c9 (w : World) : Calls Try.prog 15 #[.agg #[.int .i64 10, .int .i64 2, .int .i64 3, .int .i64 4, .int .i64 900], .int .i64 9] w (IntsOut [-4, -3, -2, -1, 0, 1] w) := by
  have h := choices_any batE 9 w
  rw [show choicesZ batE 9 = [-4, -3, -2, -1, 0, 1] by decide] at h
  exact h
theorem awake_r (w : World) : Calls Try.prog 17 #[.agg #[.int .i64 10, .int .i64 2, .int .i64 3, .int .i64 4, .int .i64 900], .int .i64 9, .int .i64 1] w (IntsOut [5, 6, 7, 8, 9, 10] w) := by
  have h := reach_any batE 9 1 w
  rw [show reachZ batE 9 1 = [5, 6, 7, 8, 9, 10] by decide] at h
  exact h
theorem awake_o (w : World) : Calls Try.prog 19 #[.agg #[.int .i64 10, .int .i64 2, .int .i64 3, .int .i64 4, .int .i64 900], .int .i64 3] w fun e w' => e = .returned (.int .i64 1) ∧ Below w.heap.size w w' := round_any batE 3 w
theorem awake_k (w : World) : Calls Try.prog 11 #[.agg #[.int .i64 10, .int .i64 2, .int .i64 3, .int .i64 4, .int .i64 900]] w fun e w' => e = .returned (.int .i64 0) ∧ Below w.heap.size w w' := check_any batE w

set_option maxHeartbeats 4000000 in
theorem awake_any (w : World) : Calls Try.prog 13 #[] w fun e w' => e = .returned (.bool true) ∧ Below w.heap.size w w' := by
  go_enter Try.func13, Try.ntmps13
  go_wp2_with fail
  refine (awake_s1 _).mono ?_
  rintro e w1 ⟨rfl, hb1⟩
  have HB1 : Below (w.heap.size + 1) (w.alloc (.cells #[.int .i64 10, .int .i64 2, .int .i64 3, .int .i64 4, .int .i64 900] 23)) w1 := by simpa using hb1
  obtain ⟨hc, hf⟩ := bcell' HB1
  have hz1 := HB1.size
  simp only [World.size_alloc] at hz1
  clear hb1
  go_wp2_with fail
  refine (awake_s2 _).mono ?_
  rintro e w2 ⟨rfl, hb2⟩
  have HB2 := HB1.trans (hb2.mono (by have := HB1.size; simp at this ⊢; omega))
  clear HB1 hc hf
  obtain ⟨hc, hf⟩ := bcell' HB2
  have hz2 := HB2.size
  simp only [World.size_alloc] at hz2
  clear hb2
  go_wp2_with fail
  refine (awake_s3 _).mono ?_
  rintro e w3 ⟨rfl, hb3⟩
  have HB3 := HB2.trans (hb3.mono (by have := HB2.size; simp at this ⊢; omega))
  clear HB2 hc hf
  obtain ⟨hc, hf⟩ := bcell' HB3
  have hz3 := HB3.size
  simp only [World.size_alloc] at hz3
  clear hb3
  go_wp2_with fail
  refine (awake_s4 _).mono ?_
  rintro e w4 ⟨rfl, hb4⟩
  have HB4 := HB3.trans (hb4.mono (by have := HB3.size; simp at this ⊢; omega))
  clear HB3 hc hf
  obtain ⟨hc, hf⟩ := bcell' HB4
  have hz4 := HB4.size
  simp only [World.size_alloc] at hz4
  clear hb4
  go_wp2_with fail
  refine (awake_c1 _).mono ?_
  rintro e w5 ⟨A5, c5, rfl, hr5, _, hb5⟩
  have HB5 := HB4.trans (hb5.mono (by have := HB4.size; simp at this ⊢; omega))
  clear HB4 hc hf
  obtain ⟨hc, hf⟩ := bcell' HB5
  have hz5 := HB5.size
  simp only [World.size_alloc] at hz5
  clear hb5
  go_wp2_with fail
  refine (same_at [0, 1, 2, 3] [0, 1, 2, 3] rfl rfl (hr5.alloc _) (rints_lit _ _ _ rfl) (by decide)).mono ?_
  rintro e w6 ⟨rfl, hb6⟩
  have HB6 := (HB5.alloc (by omega) _).trans (hb6.mono (by simp; omega))
  clear HB5 hc hf
  obtain ⟨hc, hf⟩ := bcell' HB6
  have hz6 := HB6.size
  simp only [World.size_alloc] at hz6
  clear hb6 hr5
  go_wp2_with fail
  refine (awake_c9 _).mono ?_
  rintro e w7 ⟨A7, c7, rfl, hr7, _, hb7⟩
  have HB7 := HB6.trans (hb7.mono (by have := HB6.size; simp at this ⊢; omega))
  clear HB6 hc hf
  obtain ⟨hc, hf⟩ := bcell' HB7
  have hz7 := HB7.size
  simp only [World.size_alloc] at hz7
  clear hb7
  go_wp2_with fail
  refine (same_at [-4, -3, -2, -1, 0, 1] [-4, -3, -2, -1, 0, 1] rfl rfl (hr7.alloc _) (rints_lit _ _ _ rfl) (by decide)).mono ?_
  rintro e w8 ⟨rfl, hb8⟩
  have HB8 := (HB7.alloc (by omega) _).trans (hb8.mono (by simp; omega))
  clear HB7 hc hf
  obtain ⟨hc, hf⟩ := bcell' HB8
  have hz8 := HB8.size
  simp only [World.size_alloc] at hz8
  clear hb8 hr7
  go_wp2_with fail
  refine (awake_r _).mono ?_
  rintro e w9 ⟨A9, c9, rfl, hr9, _, hb9⟩
  have HB9 := HB8.trans (hb9.mono (by have := HB8.size; simp at this ⊢; omega))
  clear HB8 hc hf
  obtain ⟨hc, hf⟩ := bcell' HB9
  have hz9 := HB9.size
  simp only [World.size_alloc] at hz9
  clear hb9
  go_wp2_with fail
  refine (same_at [5, 6, 7, 8, 9, 10] [5, 6, 7, 8, 9, 10] rfl rfl (hr9.alloc _) (rints_lit _ _ _ rfl) (by decide)).mono ?_
  rintro e w10 ⟨rfl, hb10⟩
  have HB10 := (HB9.alloc (by omega) _).trans (hb10.mono (by simp; omega))
  clear HB9 hc hf
  obtain ⟨hc, hf⟩ := bcell' HB10
  have hz10 := HB10.size
  simp only [World.size_alloc] at hz10
  clear hb10 hr9
  go_wp2_with fail
  refine (awake_o _).mono ?_
  rintro e w11 ⟨rfl, hb11⟩
  have HB11 := HB10.trans (hb11.mono (by have := HB10.size; simp at this ⊢; omega))
  clear HB10 hc hf
  obtain ⟨hc, hf⟩ := bcell' HB11
  have hz11 := HB11.size
  simp only [World.size_alloc] at hz11
  clear hb11
  go_wp2_with fail
  refine (awake_k _).mono ?_
  rintro e w12 ⟨rfl, hb12⟩
  have HB12 := HB11.trans (hb12.mono (by have := HB11.size; simp at this ⊢; omega))
  clear HB11 hc hf
  obtain ⟨hc, hf⟩ := bcell' HB12
  have hz12 := HB12.size
  simp only [World.size_alloc] at hz12
  clear hb12
  go_wp2_with fail
  go_ret
  exact ⟨rfl, ((Below.refl _ _).alloc (Nat.le_refl _) _).trans (HB12.mono (by omega))⟩
end Go.Proofs.Ythoknhbjeddcjaa
