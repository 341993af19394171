/-
  The walks of layer 39 (battery), part 2: Step.
-/
import Derived.Test.YtdheockmphdakaaQB1
namespace Go.Proofs.Ytdheockmphdakaa
open Go.RowKit

theorem step_bad {b : Bat} {l c : Int} (h : b.ok = false) : stepZ b l c = (0, 0, 2) := by simp [stepZ, h]
theorem step_range {b : Bat} {l c : Int} (h : b.ok = true) (h2 : l < 0 ∨ b.cap < l ∨ c < -b.discharge ∨ b.charge < c) : stepZ b l c = (0, 0, 2) := by
  unfold stepZ; rw [if_neg (by simp [h]), if_pos h2]
theorem step_inf {b : Bat} {l c : Int} (h : b.ok = true) (h2 : ¬ (l < 0 ∨ b.cap < l ∨ c < -b.discharge ∨ b.charge < c)) (h3 : b.cap < l + c ∨ (c < 0 ∧ l + c < b.reserve)) : stepZ b l c = (0, 0, 20) := by
  unfold stepZ; rw [if_neg (by simp [h]), if_neg h2, if_pos h3]
theorem step_ok {b : Bat} {l c : Int} (h : b.ok = true) (h2 : ¬ (l < 0 ∨ b.cap < l ∨ c < -b.discharge ∨ b.charge < c)) (h3 : ¬ (b.cap < l + c ∨ (c < 0 ∧ l + c < b.reserve))) : stepZ b l c = (l + c, drawnZ b c, 0) := by
  unfold stepZ; rw [if_neg (by simp [h]), if_neg h2, if_neg h3]

/-- What Step leaves. -/
def stepPost (r : Int × Int × Int) (w : World) (e : Ending) (w' : World) : Prop := e = .returned (.tuple #[.int .i64 r.1, .int .i64 r.2.1, .int .i64 r.2.2]) ∧ Below w.heap.size w w'

set_option maxHeartbeats 400000 in
theorem step_any_bad (b : Bat) (l c : Int) (w : World) (hok : b.ok = false) : Calls Try.prog 22 #[b.v, .int .i64 l, .int .i64 c] w (stepPost (0, 0, 2) w) := by
  have hc := check_any b
  rw [chk_false hok] at hc
  clear hok
  obtain ⟨cap, reserve, charge, discharge, eff⟩ := b
  simp only [Bat.v] at hc ⊢
  have HC := Lib.hid hc
  clear hc
  go_enter Try.func22, Try.ntmps22
  go_wp2_with fail
  refine (HC.out _).mono ?_
  rintro e w1 ⟨rfl, hb⟩
  go_wp2_with fail
  go_ret3
  exact ⟨rfl, (((Below.refl _ _).alloc (Nat.le_refl _) _).trans (hb.mono (by simp)))⟩

set_option maxHeartbeats 4000000 in
theorem step_any_range (b : Bat) (l c : Int) (w : World) (hok : b.ok = true) (h2 : l < 0 ∨ b.cap < l ∨ c < -b.discharge ∨ b.charge < c) : Calls Try.prog 22 #[b.v, .int .i64 l, .int .i64 c] w (stepPost (0, 0, 2) w) := by
  have hc := check_any b
  rw [chk_true hok] at hc
  have hg := Bat.good hok
  clear hok
  obtain ⟨cap, reserve, charge, discharge, eff⟩ := b
  have d0 := hg.di0
  have d1 := hg.di1
  clear hg
  simp only [Bat.v] at hc h2 d0 d1 ⊢
  have HC := Lib.hid hc
  clear hc
  have hcases : l < 0 ∨ (0 ≤ l ∧ cap < l) ∨ (0 ≤ l ∧ l ≤ cap ∧ c < -discharge) ∨ (0 ≤ l ∧ l ≤ cap ∧ -discharge ≤ c ∧ charge < c) := by omega
  clear h2
  rcases hcases with h | ⟨h, h'⟩ | ⟨h, h', h''⟩ | ⟨h, h', h'', h3⟩
  all_goals
    go_enter Try.func22, Try.ntmps22
    go_wp2_with fail
    refine (HC.out _).mono ?_
    rintro e w1 ⟨rfl, hb⟩
    obtain ⟨hc, hf⟩ := bcell hb
    go_wp2_with fail
    go_ret3
    exact ⟨rfl, (((Below.refl _ _).alloc (Nat.le_refl _) _).trans (hb.mono (by simp)))⟩

set_option maxHeartbeats 4000000 in
theorem step_any_inf (b : Bat) (l c : Int) (w : World) (hok : b.ok = true) (h2 : ¬ (l < 0 ∨ b.cap < l ∨ c < -b.discharge ∨ b.charge < c)) (h3 : b.cap < l + c ∨ (c < 0 ∧ l + c < b.reserve)) : Calls Try.prog 22 #[b.v, .int .i64 l, .int .i64 c] w (stepPost (0, 0, 20) w) := by
  have hc := check_any b
  rw [chk_true hok] at hc
  have hg := Bat.good hok
  clear hok
  obtain ⟨cap, reserve, charge, discharge, eff⟩ := b
  have d0 := hg.di0
  have d1 := hg.di1
  have d2 := hg.cap1
  have d3 := hg.ch1
  clear hg
  simp only [Bat.v] at hc h2 h3 d0 d1 d2 d3 ⊢
  have HC := Lib.hid hc
  clear hc
  have g1 : 0 ≤ l := by omega
  have g2 : l ≤ cap := by omega
  have g3 : -discharge ≤ c := by omega
  have g4 : c ≤ charge := by omega
  have hcases : cap < l + c ∨ (l + c ≤ cap ∧ c < 0 ∧ l + c < reserve) := by omega
  clear h2 h3
  rcases hcases with h | ⟨h, h', h''⟩
  all_goals
    go_enter Try.func22, Try.ntmps22
    go_wp2_with fail
    refine (HC.out _).mono ?_
    rintro e w1 ⟨rfl, hb⟩
    obtain ⟨hc, hf⟩ := bcell hb
    go_wp2_with fail
    go_ret3
    exact ⟨rfl, (((Below.refl _ _).alloc (Nat.le_refl _) _).trans (hb.mono (by simp)))⟩

set_option maxHeartbeats 4000000 in
theorem step_any_ok (b : Bat) (l c : Int) (w : World) (hok : b.ok = true) (h2 : ¬ (l < 0 ∨ b.cap < l ∨ c < -b.discharge ∨ b.charge < c)) (h3 : ¬ (b.cap < l + c ∨ (c < 0 ∧ l + c < b.reserve))) : Calls Try.prog 22 #[b.v, .int .i64 l, .int .i64 c] w (stepPost (l + c, drawnZ b c, 0) w) := by
  have hc := check_any b
  rw [chk_true hok] at hc
  have hg := Bat.good hok
  clear hok
  have d0 := hg.di0
  have d1 := hg.di1
  have d2 := hg.cap1
  have d3 := hg.ch1
  have hd := fun w => drawn_any b c w hg (by omega)
  clear hg
  obtain ⟨cap, reserve, charge, discharge, eff⟩ := b
  generalize hD : drawnZ ⟨cap, reserve, charge, discharge, eff⟩ c = D at *
  clear hD
  simp only [Bat.v] at hc hd h2 h3 d0 d1 d2 d3 ⊢
  have HC := Lib.hid hc
  have HD := Lib.hid hd
  clear hc hd
  have g1 : 0 ≤ l := by omega
  have g2 : l ≤ cap := by omega
  have g3 : -discharge ≤ c := by omega
  have g4 : c ≤ charge := by omega
  have g5 : l + c ≤ cap := by omega
  have hcases : 0 ≤ c ∨ (c < 0 ∧ reserve ≤ l + c) := by omega
  clear h2 h3
  rcases hcases with h | ⟨h, h'⟩
  all_goals
    go_enter Try.func22, Try.ntmps22
    go_wp2_with fail
    refine (HC.out _).mono ?_
    rintro e w1 ⟨rfl, hb⟩
    obtain ⟨hc, hf⟩ := bcell hb
    go_wp2_with fail
    refine (HD.out _).mono ?_
    rintro e w2 ⟨rfl, hb2⟩
    go_wp2_with fail
    go_ret3
    exact ⟨rfl, ((((Below.refl _ _).alloc (Nat.le_refl _) _).trans (hb.mono (by simp))).trans (hb2.mono (by have := hb.size; simp at this; omega)))⟩

theorem step_any (b : Bat) (l c : Int) (w : World) : Calls Try.prog 22 #[b.v, .int .i64 l, .int .i64 c] w (stepPost (stepZ b l c) w) := by
  by_cases hok : b.ok = false
  · rw [step_bad hok]; exact step_any_bad b l c w hok
  · have hok : b.ok = true := by simpa using hok
    by_cases h2 : l < 0 ∨ b.cap < l ∨ c < -b.discharge ∨ b.charge < c
    · rw [step_range hok h2]; exact step_any_range b l c w hok h2
    · by_cases h3 : b.cap < l + c ∨ (c < 0 ∧ l + c < b.reserve)
      · rw [step_inf hok h2 h3]; exact step_any_inf b l c w hok h2 h3
      · rw [step_ok hok h2 h3]; exact step_any_ok b l c w hok h2 h3
end Go.Proofs.Ytdheockmphdakaa
