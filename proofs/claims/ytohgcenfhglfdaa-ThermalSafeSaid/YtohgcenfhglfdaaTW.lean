/-
  The walk of the chapter's examples (layer 40, thermal): lives returns true.
-/
import Derived.Test.YtohgcenfhglfdaaTR5
import Derived.Test.YtohgcenfhglfdaaTS
namespace Go.Proofs.Ytohgcenfhglfdaa
open Go.RowKit

/-- The room of the examples. -/
def roomE : Rm := ⟨10, 100, 3, 0, [190, 190], [210, 210]⟩
section
variable {A B : Option Addr} {c d : Nat} {w1 W : World}
theorem lives_k (h : RoomX roomE A c B d w1 W) : Calls Try.prog 12 #[.agg #[.int .i64 10, .int .i64 100, .int .i64 3, .int .i64 0, .slice A 2 c, .slice B 2 d], .int .i64 2] W fun e w' => e = .returned (.int .i64 0) ∧ Below W.heap.size W w' := tcheck_any roomE A B c d 2 W h.low h.high
theorem lives_s (h : RoomX roomE A c B d w1 W) : Calls Try.prog 24 #[.agg #[.int .i64 10, .int .i64 100, .int .i64 3, .int .i64 0, .slice A 2 c, .slice B 2 d], .int .i64 200, .int .i64 100, .int .i64 2] W fun e w' => e = .returned (.int .i64 210) ∧ Below W.heap.size W w' := by
  have h1 := tstep_any roomE A B c d 200 100 2 W h.low h.high
  rw [show roomE.valid.step 200 100 2 = 210 by decide] at h1
  exact h1
theorem lives_c (h : RoomX roomE A c B d w1 W) : Calls Try.prog 16 #[.agg #[.int .i64 10, .int .i64 100, .int .i64 3, .int .i64 0, .slice A 2 c, .slice B 2 d], .int .i64 0, .int .i64 200, .int .i64 100] W (IntsOut [0, 1, 2] W) := by
  have h1 := tchoices_any roomE A B c d 0 200 100 W h.low h.high
  rw [show roomE.valid.choices 0 200 100 = [0, 1, 2] by decide] at h1
  exact h1
theorem lives_h (h : RoomX roomE A c B d w1 W) : Calls Try.prog 18 #[.agg #[.int .i64 10, .int .i64 100, .int .i64 3, .int .i64 0, .slice A 2 c, .slice B 2 d], .int .i64 0, .int .i64 190, .int .i64 100] W fun e w' => e = .returned (.int .i64 1) ∧ Below W.heap.size W w' := by
  have h1 := thold_any roomE A B c d 0 190 100 W h.low h.high
  rw [show roomE.valid.hold 0 190 100 = 1 by decide] at h1
  exact h1
theorem lives_d (h : RoomX roomE A c B d w1 W) {C : Option Addr} (hC : RInts W C [100, 100]) : Calls Try.prog 20 #[.agg #[.int .i64 10, .int .i64 100, .int .i64 3, .int .i64 0, .slice A 2 c, .slice B 2 d], .int .i64 200, .slice C 2 2] W (IntsOut [190, 181] W) := by
  have h1 := tdrift_any roomE A B C c d 2 200 [100, 100] W h.low h.high hC
  rw [show roomE.valid.drift 200 (outsT [100, 100]) = [190, 181] by decide] at h1
  exact h1
theorem lives_f (h : RoomX roomE A c B d w1 W) {C : Option Addr} (hC : RInts W C [100, 100]) : Calls Try.prog 22 #[.agg #[.int .i64 10, .int .i64 100, .int .i64 3, .int .i64 0, .slice A 2 c, .slice B 2 d], .int .i64 200, .slice C 2 2] W fun e w' => e = .returned (.int .i64 2) ∧ Below W.heap.size W w' := by
  have h1 := tsafe_any roomE A B C c d 2 200 [100, 100] W h.low h.high hC
  rw [show roomE.valid.safe 200 (outsT [100, 100]) = 2 by decide] at h1
  exact h1
end

theorem RoomX.cellsE {A B : Option Addr} {c d n : Nat} {w1 W : World} (h : RoomX roomE A c B d w1 W) (hn : w1.heap.size = n) : W.cell? ⟨n, 0, none⟩ = some (.int .i64 10) ∧ W.cell? ⟨n, 1, none⟩ = some (.int .i64 100) ∧ W.cell? ⟨n, 2, none⟩ = some (.int .i64 3) ∧
    W.cell? ⟨n, 3, none⟩ = some (.int .i64 0) ∧ W.cell? ⟨n, 4, none⟩ = some (.slice A 2 c) ∧ W.cell? ⟨n, 5, none⟩ = some (.slice B 2 d) := by
  subst hn
  exact h.cells

set_option maxHeartbeats 4000000 in
theorem lives_any (w : World) : Calls Try.prog 14 #[] w fun e w' => e = .returned (.bool true) ∧ Below w.heap.size w w' := by
  have hS0 : RoomX roomE (some ⟨w.heap.size, 0, none⟩) 2 (some ⟨w.heap.size + 1, 0, none⟩) 2 ((w.alloc (.cells #[.int .i64 190, .int .i64 190] 3)).alloc (.cells #[.int .i64 210, .int .i64 210] 3))
      (roomX roomE (some ⟨w.heap.size, 0, none⟩) 2 (some ⟨w.heap.size + 1, 0, none⟩) 2 ((w.alloc (.cells #[.int .i64 190, .int .i64 190] 3)).alloc (.cells #[.int .i64 210, .int .i64 210] 3))) :=
    ⟨by rw [← roomX_size (s := roomE) (A := some ⟨w.heap.size, 0, none⟩) (B := some ⟨w.heap.size + 1, 0, none⟩) (c := 2) (d := 2)]; exact Below.refl _ _, (rints_lit w _ _ rfl).alloc _, by
      have h := rints_lit (w.alloc (.cells #[.int .i64 190, .int .i64 190] 3)) #[.int .i64 210, .int .i64 210] 3 (l := [210, 210]) rfl
      rw [World.size_alloc] at h
      exact h⟩
  have hB0 : Below w.heap.size w ((w.alloc (.cells #[.int .i64 190, .int .i64 190] 3)).alloc (.cells #[.int .i64 210, .int .i64 210] 3)) := ((Below.refl _ _).alloc (Nat.le_refl _) _).alloc (by simp) _
  have HS := Lib.hid hS0
  clear hS0
  go_enter Try.func14, Try.ntmps14
  go_wp2_with fail
  refine (lives_k HS.out).mono ?_
  rintro e v1 ⟨rfl, hb1⟩
  have S1 := HS.out.mk' hb1
  obtain ⟨x0, x1, x2, x3, x4, x5⟩ := S1.cellsE (n := w.heap.size + 2) (by simp)
  have hz1 : w.heap.size + 3 ≤ v1.heap.size := by have := S1.size; simpa using this
  clear hb1
  go_wp2_with fail
  clear x0 x1 x2 x3 x4 x5
  refine (lives_s S1).mono ?_
  rintro e v2 ⟨rfl, hb2⟩
  have S2 := S1.mk' hb2
  obtain ⟨x0, x1, x2, x3, x4, x5⟩ := S2.cellsE (n := w.heap.size + 2) (by simp)
  have hz2 : w.heap.size + 3 ≤ v2.heap.size := by have := S2.size; simpa using this
  clear hb2
  go_wp2_with fail
  clear x0 x1 x2 x3 x4 x5
  refine (lives_c S2).mono ?_
  rintro e v3 ⟨A3, c3, rfl, hr3, _, hb3⟩
  have S3 := S2.mk' hb3
  have HR3 := Lib.hid hr3
  obtain ⟨x0, x1, x2, x3, x4, x5⟩ := S3.cellsE (n := w.heap.size + 2) (by simp)
  have hz3 : w.heap.size + 3 ≤ v3.heap.size := by have := S3.size; simpa using this
  clear hb3 hr3
  go_wp2_with fail
  clear x0 x1 x2 x3 x4 x5
  refine (same_at [0, 1, 2] [0, 1, 2] rfl rfl (HR3.out.alloc _) (rints_lit _ _ _ rfl) (by decide)).mono ?_
  rintro e v4 ⟨rfl, hb4⟩
  have S4 := (S3.mk' ((Below.refl _ _).alloc (Nat.le_refl _) (.cells #[.int .i64 0, .int .i64 1, .int .i64 2] 3))).mk' hb4
  obtain ⟨x0, x1, x2, x3, x4, x5⟩ := S4.cellsE (n := w.heap.size + 2) (by simp)
  have hz4 : w.heap.size + 3 ≤ v4.heap.size := by have := S4.size; simpa using this
  clear hb4 HR3
  go_wp2_with fail
  clear x0 x1 x2 x3 x4 x5
  refine (lives_h S4).mono ?_
  rintro e v5 ⟨rfl, hb5⟩
  have S5 := S4.mk' hb5
  obtain ⟨x0, x1, x2, x3, x4, x5⟩ := S5.cellsE (n := w.heap.size + 2) (by simp)
  have hz5 : w.heap.size + 3 ≤ v5.heap.size := by have := S5.size; simpa using this
  clear hb5
  go_wp2_with fail
  clear x0 x1 x2 x3 x4 x5
  have S5' := S5.mk' ((Below.refl _ _).alloc (Nat.le_refl _) (.cells #[.int .i64 100, .int .i64 100] 3))
  refine (lives_d S5' (rints_lit _ _ _ rfl)).mono ?_
  rintro e v6 ⟨A6, c6, rfl, hr6, _, hb6⟩
  have S6 := S5'.mk' hb6
  have HR6 := Lib.hid hr6
  obtain ⟨x0, x1, x2, x3, x4, x5⟩ := S6.cellsE (n := w.heap.size + 2) (by simp)
  have hz6 : w.heap.size + 3 ≤ v6.heap.size := by have := S6.size; simpa using this
  clear hb6 hr6
  go_wp2_with fail
  clear x0 x1 x2 x3 x4 x5
  refine (same_at [190, 181] [190, 181] rfl rfl (HR6.out.alloc _) (rints_lit _ _ _ rfl) (by decide)).mono ?_
  rintro e v7 ⟨rfl, hb7⟩
  have S7 := (S6.mk' ((Below.refl _ _).alloc (Nat.le_refl _) (.cells #[.int .i64 190, .int .i64 181] 3))).mk' hb7
  obtain ⟨x0, x1, x2, x3, x4, x5⟩ := S7.cellsE (n := w.heap.size + 2) (by simp)
  have hz7 : w.heap.size + 3 ≤ v7.heap.size := by have := S7.size; simpa using this
  clear hb7 HR6
  go_wp2_with fail
  clear x0 x1 x2 x3 x4 x5
  have S7' := S7.mk' ((Below.refl _ _).alloc (Nat.le_refl _) (.cells #[.int .i64 100, .int .i64 100] 3))
  refine (lives_f S7' (rints_lit _ _ _ rfl)).mono ?_
  rintro e v8 ⟨rfl, hb8⟩
  have S8 := S7'.mk' hb8
  go_wp2_with fail
  go_ret
  exact ⟨rfl, hB0.trans (S8.from1.mono hB0.size)⟩
end Go.Proofs.Ytohgcenfhglfdaa
