/-
  The walks of the laws of layer 39 (battery), part 2: BatteryLimits, BatteryRounds, BatteryEnergy.
-/
import Derived.Test.YthoknhbjeddcjaaBL1
namespace Go.Proofs.Ythoknhbjeddcjaa
open Go.RowKit

theorem stepZ_cases (b : Bat) (l c : Int) : ((stepZ b l c).1 = 0 ∧ (stepZ b l c).2.1 = 0 ∧ ((stepZ b l c).2.2 = 2 ∨ (stepZ b l c).2.2 = 20)) ∨
    (stepZ b l c = (l + c, drawnZ b c, 0) ∧ b.ok = true ∧ 0 ≤ l ∧ l ≤ b.cap ∧ -b.discharge ≤ c ∧ c ≤ b.charge ∧ l + c ≤ b.cap ∧ (0 ≤ c ∨ b.reserve ≤ l + c)) := by
  by_cases h : canZ b l c = true
  · right
    have h' := canZ_iff.1 h
    refine ⟨step_ok h'.1 (by omega) (by omega), h'⟩
  · left
    unfold canZ at h
    by_cases k : b.ok = false
    · rw [step_bad k]; simp
    · have hok : b.ok = true := by simpa using k
      by_cases h2 : l < 0 ∨ b.cap < l ∨ c < -b.discharge ∨ b.charge < c
      · rw [step_range hok h2]; simp
      · by_cases h3 : b.cap < l + c ∨ (c < 0 ∧ l + c < b.reserve)
        · rw [step_inf hok h2 h3]; simp
        · rw [step_ok hok h2 h3] at h; simp at h

theorem bat_first {b : Bat} {w w1 : World} (hb : Below (batW b w).heap.size (batW b w) w1) : BatS b w w1 := by
  have h := hb
  simp only [batW, World.size_alloc] at h
  exact h

set_option maxHeartbeats 4000000 in
theorem limits_law (b : Bat) (l c : Int) (w : World) : Calls Try.prog 5 #[b.v, .int .i64 l, .int .i64 c] w fun e w' => e = .returned (.bool true) ∧ Below w.heap.size w w' := by
  have h1 := step_any b l c
  have h3 := check_any b
  rcases stepZ_cases b l c with ⟨z1, z2, z3⟩ | ⟨z, hok, z1, z2, z3, z4, z5, z6⟩
  · generalize stepZ b l c = r at *
    obtain ⟨r1, r2, r3⟩ := r
    simp only at z1 z2 z3
    subst z1 z2
    unfold stepPost at h1
    simp only [Bat.v] at h1 ⊢
    have H1 := Lib.hid h1
    have hne : (r3 != 0) = true := by rw [bne_iff_ne]; omega
    clear h1 h3 z3
    go_enter Try.func5, Try.ntmps5
    go_wp2_with fail
    refine (H1.out _).mono ?_
    rintro e w1 ⟨rfl, hb1⟩
    have B1 := bat_first hb1
    clear hb1
    go_wp2_with fail
    refine (awake_any _).mono ?_
    rintro e w2 ⟨rfl, hb2⟩
    have B2 := B1.mk hb2
    go_wp2_with fail
    go_ret
    exact ⟨rfl, B2.out⟩
  · rw [z] at h1
    rw [chk_true hok] at h3
    have hg := Bat.good hok
    have hD := drawnZ_bd (b := b) (c := c) hg (by have := hg.ch1; omega)
    have g1 := hg.di0; have g2 := hg.di1; have g3 := hg.ch1; have g4 := hg.cap1; have g5 := hg.res0
    have hneg : c < 0 → drawnZ b c = c := fun h => by unfold drawnZ; rw [if_neg (by omega)]
    have hcs : (0 ≤ c ∧ 0 ≤ drawnZ b c ∧ 0 ≤ l + c) ∨ (c < 0 ∧ drawnZ b c < 0 ∧ b.reserve ≤ l + c ∧ 0 ≤ l + c) := by
      by_cases hc : 0 ≤ c
      · left; omega
      · right; have := hneg (by omega); omega
    generalize drawnZ b c = D at *
    obtain ⟨hD1, hD2⟩ := hD
    unfold stepPost at h1
    simp only [Bat.v] at h1 h3 ⊢
    have H1 := Lib.hid h1
    have H3 := Lib.hid h3
    clear h1 h3 z hok hg hneg z6
    rcases hcs with ⟨k1, k2, k3⟩ | ⟨k1, k2, k3, k4⟩
    all_goals
      go_enter Try.func5, Try.ntmps5
      go_wp2_with fail
      refine (H1.out _).mono ?_
      rintro e w1 ⟨rfl, hb1⟩
      have B1 := bat_first hb1
      clear hb1
      obtain ⟨c0, c1, c2, c3, c4⟩ := B1.cells
      go_wp2_with fail
      refine (H3.out _).mono ?_
      rintro e w2 ⟨rfl, hb2⟩
      have B2 := B1.mk hb2
      clear c0 c1 c2 c3 c4 B1 hb2
      obtain ⟨c0, c1, c2, c3, c4⟩ := B2.cells
      go_wp2_with fail
      refine (awake_any _).mono ?_
      rintro e w3 ⟨rfl, hb3⟩
      have B3 := B2.mk hb3
      clear c0 c1 c2 c3 c4 hb3
      go_wp2_with fail
      go_ret
      exact ⟨rfl, B3.out⟩

set_option maxHeartbeats 4000000 in
theorem rounds_law (b : Bat) (l c : Int) (w : World) : Calls Try.prog 8 #[b.v, .int .i64 l, .int .i64 c] w fun e w' => e = .returned (.bool true) ∧ Below w.heap.size w w' := by
  by_cases hr : 0 ≤ c ∧ c ≤ 40
  · obtain ⟨k1, k2⟩ := hr
    have h1 := step_any b l c
    rcases stepZ_cases b l c with ⟨_, _, z3⟩ | ⟨z, hok, z1, z2, z3, z4, z5, z6⟩
    · generalize stepZ b l c = r at *
      obtain ⟨r1, r2, r3⟩ := r
      simp only at z3
      unfold stepPost at h1
      simp only [Bat.v] at h1 ⊢
      have H1 := Lib.hid h1
      have hne : (r3 != 0) = true := by rw [bne_iff_ne]; omega
      clear h1 z3
      go_enter Try.func8, Try.ntmps8
      go_wp2_with fail
      refine (H1.out _).mono ?_
      rintro e w1 ⟨rfl, hb1⟩
      have B1 := bat_first hb1
      clear hb1
      go_wp2_with fail
      refine (awake_any _).mono ?_
      rintro e w2 ⟨rfl, hb2⟩
      have B2 := B1.mk hb2
      go_wp2_with fail
      go_ret
      exact ⟨rfl, B2.out⟩
    · have h2 := step_any b (l + c) (-c)
      have h4 := round_any b c
      rw [z] at h1
      rcases stepZ_cases b (l + c) (-c) with ⟨_, _, y3⟩ | ⟨y, _, y1, y2, y3, y4, y5, y6⟩
      · generalize stepZ b (l + c) (-c) = r at *
        obtain ⟨r1, r2, r3⟩ := r
        simp only at y3
        generalize drawnZ b c = D at *
        unfold stepPost at h1 h2
        have hbd : -1000 ≤ l + c ∧ l + c ≤ 1000 := by have hg := Bat.good hok; have := hg.cap1; omega
        obtain ⟨q1, q2⟩ := hbd
        simp only [Bat.v] at h1 h2 ⊢
        have H1 := Lib.hid h1
        have H2 := Lib.hid h2
        have hne : (r3 != 0) = true := by rw [bne_iff_ne]; omega
        clear h1 h2 h4 y3 z hok
        go_enter Try.func8, Try.ntmps8
        go_wp2_with fail
        refine (H1.out _).mono ?_
        rintro e w1 ⟨rfl, hb1⟩
        have B1 := bat_first hb1
        clear hb1
        obtain ⟨c0, c1, c2, c3, c4⟩ := B1.cells
        go_wp2_with fail
        refine (H2.out _).mono ?_
        rintro e w2 ⟨rfl, hb2⟩
        have B2 := B1.mk hb2
        clear c0 c1 c2 c3 c4 B1 hb2
        go_wp2_with fail
        refine (awake_any _).mono ?_
        rintro e w3 ⟨rfl, hb3⟩
        have B3 := B2.mk hb3
        go_wp2_with fail
        go_ret
        exact ⟨rfl, B3.out⟩
      · rw [y] at h2
        have hg := Bat.good hok
        have hD := drawnZ_bd (b := b) (c := c) hg (by have := hg.ch1; omega)
        have hD0 : drawnZ b (-c) = -c := by unfold drawnZ; rw [if_neg (by omega)]
        have hR : roundZ b c = drawnZ b c - c := round_is ⟨hok, by omega, by omega, by omega, by omega⟩
        rw [hD0] at h2
        rw [hR] at h4
        generalize drawnZ b c = D at *
        obtain ⟨hD1, hD2⟩ := hD
        unfold stepPost at h1 h2
        have hbd : -1000 ≤ l ∧ l ≤ 1000 := by have := hg.cap1; omega
        obtain ⟨q1, q2⟩ := hbd
        have e1 : l + c + -c = l := by omega
        rw [e1] at h2
        have e2 : D - c = D + -c := by omega
        rw [e2] at h4
        simp only [Bat.v] at h1 h2 h4 ⊢
        have H1 := Lib.hid h1
        have H2 := Lib.hid h2
        have H4 := Lib.hid h4
        clear h1 h2 h4 z y hok hg hR hD0 e1 e2
        go_enter Try.func8, Try.ntmps8
        go_wp2_with fail
        refine (H1.out _).mono ?_
        rintro e w1 ⟨rfl, hb1⟩
        have B1 := bat_first hb1
        clear hb1
        obtain ⟨c0, c1, c2, c3, c4⟩ := B1.cells
        go_wp2_with fail
        refine (H2.out _).mono ?_
        rintro e w2 ⟨rfl, hb2⟩
        have B2 := B1.mk hb2
        clear c0 c1 c2 c3 c4 B1 hb2
        obtain ⟨c0, c1, c2, c3, c4⟩ := B2.cells
        go_wp2_with fail
        refine (H4.out _).mono ?_
        rintro e w3 ⟨rfl, hb3⟩
        have B3 := B2.mk hb3
        clear c0 c1 c2 c3 c4 B2 hb3
        go_wp2_with fail
        refine (awake_any _).mono ?_
        rintro e w4 ⟨rfl, hb4⟩
        have B4 := B3.mk hb4
        go_wp2_with fail
        go_ret
        exact ⟨rfl, B4.out⟩
  · have hcs : c < 0 ∨ (0 ≤ c ∧ 40 < c) := by omega
    clear hr
    simp only [Bat.v]
    rcases hcs with k | ⟨k, k'⟩
    all_goals
      go_enter Try.func8, Try.ntmps8
      go_wp2_with fail
      refine (awake_any _).mono ?_
      rintro e w1 ⟨rfl, hb1⟩
      have B1 := bat_first hb1
      clear hb1
      go_wp2_with fail
      go_ret
      exact ⟨rfl, B1.out⟩
end Go.Proofs.Ythoknhbjeddcjaa
