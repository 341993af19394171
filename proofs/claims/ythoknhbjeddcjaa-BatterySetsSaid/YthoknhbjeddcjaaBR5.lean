/-
  The walks of layer 39 (battery): Round, of the program and of the reference.
-/
import Derived.Test.YthoknhbjeddcjaaB2
import Derived.Test.YthoknhbjeddcjaaBR1
import Derived.Test.YthoknhbjeddcjaaBR2
import Derived.WalkLawsBesides
namespace Go.Proofs.Ythoknhbjeddcjaa
open Go.RowKit

theorem round_not {b : Bat} {c : Int} (h : ¬ (b.ok = true ∧ 0 ≤ c ∧ c ≤ b.charge ∧ c ≤ b.discharge ∧ c ≤ b.cap)) : roundZ b c = 0 := by unfold roundZ; rw [if_neg h]
theorem round_is {b : Bat} {c : Int} (h : b.ok = true ∧ 0 ≤ c ∧ c ≤ b.charge ∧ c ≤ b.discharge ∧ c ≤ b.cap) : roundZ b c = drawnZ b c - c := by unfold roundZ; rw [if_pos h]
theorem drawnZ_bd {b : Bat} {c : Int} (hg : b.Good) (h : c ≤ 40) : c ≤ drawnZ b c ∧ drawnZ b c ≤ 1000000 := by
  unfold drawnZ
  have e0 := hg.ef0
  have e1 := hg.ef1
  split
  · constructor
    · rw [Int.le_ediv_iff_mul_le (by omega)]
      have := Int.mul_le_mul_of_nonneg_left e1 (show 0 ≤ c by omega)
      omega
    · have := Int.ediv_le_self b.eff (show 0 ≤ 1000 * c + b.eff - 1 by omega)
      omega
  · omega

set_option maxHeartbeats 4000000 in
theorem round_any (b : Bat) (c : Int) (w : World) : Calls Try.prog 19 #[b.v, .int .i64 c] w fun e w' => e = .returned (.int .i64 (roundZ b c)) ∧ Below w.heap.size w w' := by
  have hc := check_any b
  by_cases hok : b.ok = true
  · have hg := Bat.good hok
    rw [chk_true hok] at hc
    have q0 := hg.di0; have q1 := hg.di1; have q2 := hg.ch0; have q3 := hg.ch1; have q4 := hg.cap0; have q5 := hg.cap1
    by_cases k : 0 ≤ c ∧ c ≤ b.charge ∧ c ≤ b.discharge ∧ c ≤ b.cap
    · rw [round_is ⟨hok, k⟩]
      obtain ⟨k0, k1, k2, k3⟩ := k
      have hd := fun w => drawn_any b c w hg (by omega)
      have hbd := drawnZ_bd (b := b) (c := c) hg (by omega)
      generalize drawnZ b c = D at *
      obtain ⟨hb0, hb1⟩ := hbd
      clear hok hg
      simp only [Bat.v] at hc hd ⊢
      have HC := Lib.hid hc
      have HD := Lib.hid hd
      clear hc hd
      have hcs : (b.charge ≤ b.discharge ∧ b.charge ≤ b.cap) ∨ (b.charge ≤ b.discharge ∧ b.cap < b.charge) ∨ (b.discharge < b.charge ∧ b.discharge ≤ b.cap) ∨ (b.discharge < b.charge ∧ b.cap < b.discharge) := by omega
      rcases hcs with ⟨m1, m2⟩ | ⟨m1, m2⟩ | ⟨m1, m2⟩ | ⟨m1, m2⟩
      all_goals
        go_enter Try.func19, Try.ntmps19
        go_wp2_with fail
        refine (HC.out _).mono ?_
        rintro e w1 ⟨rfl, hb⟩
        obtain ⟨hc, hf⟩ := bcell hb
        go_wp2_with fail
        refine (HD.out _).mono ?_
        rintro e w2 ⟨rfl, hb2⟩
        go_wp2_with fail
        go_ret
        exact ⟨rfl, ((((Below.refl _ _).alloc (Nat.le_refl _) _).trans (hb.mono (by simp))).trans (hb2.mono (by have := hb.size; simp at this; omega)))⟩
    · rw [round_not (fun h => k h.2)]
      clear hok hg
      simp only [Bat.v] at hc ⊢
      have HC := Lib.hid hc
      clear hc
      have hcs : c < 0 ∨ (0 ≤ c ∧ b.charge ≤ b.discharge ∧ b.charge ≤ b.cap ∧ b.charge < c) ∨ (0 ≤ c ∧ b.charge ≤ b.discharge ∧ b.cap < b.charge ∧ b.cap < c) ∨ (0 ≤ c ∧ b.discharge < b.charge ∧ b.discharge ≤ b.cap ∧ b.discharge < c) ∨ (0 ≤ c ∧ b.discharge < b.charge ∧ b.cap < b.discharge ∧ b.cap < c) := by omega
      clear k
      rcases hcs with m | ⟨m0, m1, m2, m3⟩ | ⟨m0, m1, m2, m3⟩ | ⟨m0, m1, m2, m3⟩ | ⟨m0, m1, m2, m3⟩
      all_goals
        go_enter Try.func19, Try.ntmps19
        go_wp2_with fail
        refine (HC.out _).mono ?_
        rintro e w1 ⟨rfl, hb⟩
        obtain ⟨hc, hf⟩ := bcell hb
        go_wp2_with fail
        go_ret
        exact ⟨rfl, (((Below.refl _ _).alloc (Nat.le_refl _) _).trans (hb.mono (by simp)))⟩
  · rw [round_not (fun h => hok h.1)]
    rw [chk_false (by simpa using hok)] at hc
    clear hok
    simp only [Bat.v] at hc ⊢
    have HC := Lib.hid hc
    clear hc
    go_enter Try.func19, Try.ntmps19
    go_wp2_with fail
    refine (HC.out _).mono ?_
    rintro e w1 ⟨rfl, hb⟩
    go_wp2_with fail
    go_ret
    exact ⟨rfl, (((Below.refl _ _).alloc (Nat.le_refl _) _).trans (hb.mono (by simp)))⟩

set_option maxHeartbeats 4000000 in
theorem rround_any (b : Bat) (c : Int) (w : World) : Calls Try.prog 20 #[b.v, .int .i64 c] w fun e w' => e = .returned (.int .i64 (roundZ b c)) ∧ Below w.heap.size w w' := by
  have hc := rcheck_any b
  by_cases hok : b.ok = true
  · have hg := Bat.good hok
    rw [chk_true hok] at hc
    have q0 := hg.di0; have q1 := hg.di1; have q2 := hg.ch0; have q3 := hg.ch1; have q4 := hg.cap0; have q5 := hg.cap1
    by_cases k : 0 ≤ c ∧ c ≤ b.charge ∧ c ≤ b.discharge ∧ c ≤ b.cap
    · rw [round_is ⟨hok, k⟩]
      obtain ⟨k0, k1, k2, k3⟩ := k
      have hd := fun w => rdrawn_any b c w hg (by omega) (by omega)
      have hbd := drawnZ_bd (b := b) (c := c) hg (by omega)
      have hdd : (1000 * c + b.eff - 1) / b.eff = drawnZ b c := by
        unfold drawnZ
        split
        · rfl
        · have e0 := hg.ef0
          obtain rfl : c = 0 := by omega
          exact Int.ediv_eq_zero_of_lt (by omega) (by omega)
      simp only [hdd] at hd
      clear hdd
      generalize drawnZ b c = D at *
      obtain ⟨hb0, hb1⟩ := hbd
      have kw : wB c 0 b.charge = true := wB_true.2 ⟨k0, k1⟩
      clear hok hg
      simp only [Bat.v] at hc hd ⊢
      have HC := Lib.hid hc
      have HD := Lib.hid hd
      clear hc hd
      go_enter Try.func20, Try.ntmps20
      go_wp2_with fail
      refine (HC.out _).mono ?_
      rintro e w1 ⟨rfl, hb⟩
      obtain ⟨hc, hf⟩ := bcell hb
      go_wp2_with (first | (go_at_call 22; refine (between_any _ _ _ _).mono ?_; rintro e w' ⟨rfl, rfl⟩) | fail)
      refine (HD.out _).mono ?_
      rintro e w2 ⟨rfl, hb2⟩
      go_wp2_with fail
      go_ret
      exact ⟨rfl, ((((Below.refl _ _).alloc (Nat.le_refl _) _).trans (hb.mono (by simp))).trans (hb2.mono (by have := hb.size; simp at this; omega)))⟩
    · rw [round_not (fun h => k h.2)]
      clear hok hg
      simp only [Bat.v] at hc ⊢
      have HC := Lib.hid hc
      clear hc
      by_cases kw : wB c 0 b.charge = true
      · have kw' := wB_true.1 kw
        have hcs : b.discharge < c ∨ (c ≤ b.discharge ∧ b.cap < c) := by omega
        clear k
        rcases hcs with m | ⟨m0, m1⟩
        all_goals
          go_enter Try.func20, Try.ntmps20
          go_wp2_with fail
          refine (HC.out _).mono ?_
          rintro e w1 ⟨rfl, hb⟩
          obtain ⟨hc, hf⟩ := bcell hb
          go_wp2_with (first | (go_at_call 22; refine (between_any _ _ _ _).mono ?_; rintro e w' ⟨rfl, rfl⟩) | fail)
          go_ret
          exact ⟨rfl, (((Below.refl _ _).alloc (Nat.le_refl _) _).trans (hb.mono (by simp)))⟩
      · simp only [Bool.not_eq_true] at kw
        clear k
        go_enter Try.func20, Try.ntmps20
        go_wp2_with fail
        refine (HC.out _).mono ?_
        rintro e w1 ⟨rfl, hb⟩
        obtain ⟨hc, hf⟩ := bcell hb
        go_wp2_with (first | (go_at_call 22; refine (between_any _ _ _ _).mono ?_; rintro e w' ⟨rfl, rfl⟩) | fail)
        go_ret
        exact ⟨rfl, (((Below.refl _ _).alloc (Nat.le_refl _) _).trans (hb.mono (by simp)))⟩
  · rw [round_not (fun h => hok h.1)]
    rw [chk_false (by simpa using hok)] at hc
    clear hok
    simp only [Bat.v] at hc ⊢
    have HC := Lib.hid hc
    clear hc
    go_enter Try.func20, Try.ntmps20
    go_wp2_with fail
    refine (HC.out _).mono ?_
    rintro e w1 ⟨rfl, hb⟩
    go_wp2_with fail
    go_ret
    exact ⟨rfl, (((Below.refl _ _).alloc (Nat.le_refl _) _).trans (hb.mono (by simp)))⟩
end Go.Proofs.Ythoknhbjeddcjaa
