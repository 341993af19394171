/-
  The plain mathematics of plans (layer 42), part 4: loads of a valid problem, the plan that does nothing.
-/
import Derived.Test.YtdheockmphdakaaQP13
namespace Go.Proofs.Ytdheockmphdakaa

theorem allTo_each {l : List Ld} {n : Int} {k i : Nat} (h : allTo l n k = 0) (hi : i < k) (hk : k ≤ l.length) : ∃ h : i < l.length, l[i].chk n = 0 := by
  refine ⟨by omega, ?_⟩
  have h1 : allTo l n (i + 1) = 0 := by
    by_cases h2 : allTo l n (i + 1) = 0
    · exact h2
    · rw [allTo_stay h2 hi] at h; exact absurd h h2
  rw [allTo] at h1
  split at h1
  · by_cases h3 : l[i].chk n = 0
    · exact h3
    · rw [loadErr_bad (by omega) h3] at h1; exact absurd h1 h3
  · rename_i h2; exact absurd h1 h2
theorem Pb.load_ok {p : Pb} (g : p.Good) {i : Nat} (hi : i < p.loads.length) : p.loads[i].chk p.n = 0 := by
  have h := g.loads
  unfold allChk at h
  split at h
  · cases h
  · exact (allTo_each h hi (Nat.le_refl _)).2
theorem Pb.idle_ok {p : Pb} (h : p.chk = 0) : p.idle = ⟨List.replicate p.n 0, List.replicate p.n 0, p.loads.map Ld.early⟩ := by
  unfold Pb.idle; rw [if_neg (by simp [h])]
theorem Pb.idle_form {p : Pb} (h : p.chk = 0) : p.form p.idle = 0 := by
  have g := Pb.good h
  rw [Pb.idle_ok h]
  refine Pb.form_ok ?_ ?_ ?_
  · simp [Pb.sized]
  · unfold Pb.fitsTo
    rw [List.all_eq_true]
    intro i hi
    rw [List.mem_range] at hi
    have h1 := Pb.load_ok g hi
    have g1 := Ld.good h1
    have e1 : p.loads.getD i Ld.zero = p.loads[i] := by simp [List.getD, hi]
    have e2 : (p.loads.map Ld.early).getD i 0 = p.loads[i].early := by simp [List.getD, hi]
    rw [e1, e2]
    unfold Ld.fit
    have := g1.p
    rw [decide_eq_true h1, decide_eq_true (Int.le_refl _), decide_eq_true (by omega)]
    rfl
  · unfold allB
    rw [List.all_eq_true]
    intro z hz
    have := List.eq_of_mem_replicate hz
    subst this
    have := (Rm.good (Pb.room_ok g).1).s0
    exact wB_true.2 ⟨Int.le_refl _, this⟩
theorem step_zero {b : Bat} (hok : b.ok = true) {lv : Int} (h0 : 0 ≤ lv) (h1 : lv ≤ b.cap) : stepZ b lv 0 = (lv, 0, 0) := by
  have g := Bat.good hok
  have := g.ch0; have := g.di0
  rw [step_ok hok (by omega) (by omega)]
  simp [drawnZ]
theorem Pb.idle_lv {p : Pb} (h : p.chk = 0) (k : Nat) : p.lv p.idle k = p.level := by
  have g := Pb.good h
  induction k with
  | zero => rfl
  | succ k ih =>
    have e : p.idle.charge.getD k 0 = 0 := by
      rw [Pb.idle_ok h]
      by_cases hk : k < p.n
      · simp [List.getD, hk]
      · simp [List.getD, hk]
    rw [Pb.lv, ih, e, step_zero (Pb.bat_good g).1 g.l0 g.l1]
theorem Pb.idle_slot {p : Pb} (h : p.chk = 0) (k : Nat) : p.slotErr p.idle k = 0 ∨ p.slotErr p.idle k = 20 := by
  have g := Pb.good h
  have e : p.idle.charge.getD k 0 = 0 := by
    rw [Pb.idle_ok h]
    by_cases hk : k < p.n
    · simp [List.getD, hk]
    · simp [List.getD, hk]
  unfold Pb.slotErr
  rw [Pb.idle_lv h, e, step_zero (Pb.bat_good g).1 g.l0 g.l1]
  simp only []
  rw [if_neg (by simp)]
  split
  · exact .inl rfl
  · exact .inr rfl
theorem Pb.idle_err {p : Pb} (h : p.chk = 0) : p.err p.idle = 0 ∨ p.err p.idle = 20 := by
  rw [Pb.err_run h (Pb.idle_form h)]
  generalize p.n = n
  induction n with
  | zero => exact .inl rfl
  | succ n ih =>
    rcases ih with ih | ih
    · rcases Pb.idle_slot h n with h1 | h1
      · exact .inl (Pb.errTo_go ih h1)
      · right
        rw [Pb.errTo, if_pos ih, h1]
    · right
      rw [Pb.errTo, if_neg (by rw [ih]; decide), ih]
theorem Pb.idle_trace {p : Pb} (h : p.chk = 0) (h2 : p.err p.idle = 0) : (p.trace p.idle).level = List.replicate p.n p.level := by
  rw [Pb.trace_ok h2]
  apply List.ext_getElem
  · simp [Pb.levels]
  · intro i h1 h3
    simp [Pb.levels, Pb.idle_lv h]
end Go.Proofs.Ytdheockmphdakaa

/-
  The plain mathematics of plans (layer 42), part 5: what a feasible plan meets in each slot.
-/
namespace Go.Proofs.Ytdheockmphdakaa

theorem Pb.err_zero {p : Pb} {x : Pn} (h : p.err x = 0) : p.chk = 0 ∧ p.form x = 0 ∧ p.errTo x p.n = 0 := by
  by_cases hc : p.chk = 0
  · by_cases hf : p.form x = 0
    · exact ⟨hc, hf, by rw [← Pb.err_run hc hf]; exact h⟩
    · rw [(Pb.err_form hc hf).1] at h; exact absurd h hf
  · rw [(Pb.err_chk hc).1] at h; exact absurd h hc
theorem Pb.errTo_each {p : Pb} {x : Pn} {n k : Nat} (h : p.errTo x n = 0) (hk : k < n) : p.errTo x k = 0 ∧ p.slotErr x k = 0 := by
  have h1 : p.errTo x k = 0 := by
    by_cases h2 : p.errTo x k = 0
    · exact h2
    · rw [Pb.errTo_stay h2 (by omega)] at h; exact absurd h h2
  refine ⟨h1, ?_⟩
  by_cases h3 : p.slotErr x k = 0
  · exact h3
  · rw [Pb.errTo_hit h1 h3 hk] at h; exact absurd h h3
theorem Pb.slot_zero {p : Pb} {x : Pn} {k : Nat} (h : p.slotErr x k = 0) :
    (stepZ p.bat (p.lv x k) (x.charge.getD k 0)).2.2 = 0 ∧ p.room.valid.okAt (k : Int) (p.tm x (k + 1)) = true ∧ wB (p.net x k) (-p.t.fuse) p.t.fuse = true := by
  unfold Pb.slotErr at h
  split at h
  · rename_i h1; exact absurd h h1
  · rename_i h1
    split at h
    · rename_i h2
      simp only [Pb.slotOk, Bool.and_eq_true] at h2
      exact ⟨by simpa using h1, h2.1, h2.2⟩
    · cases h
theorem step_ok_bd {b : Bat} {l c : Int} (h : (stepZ b l c).2.2 = 0) : 0 ≤ (stepZ b l c).1 ∧ (stepZ b l c).1 ≤ b.cap := by
  have hc : canZ b l c = true := by unfold canZ; rw [decide_eq_true_iff]; exact h
  obtain ⟨hok, h1, h2, h3, h4, h5, h6⟩ := canZ_iff.1 hc
  have g := Bat.good hok
  have g1 := g.res0
  have e : (stepZ b l c).1 = l + c := by
    unfold stepZ at h ⊢
    rw [if_neg (by simp [hok])] at h ⊢
    split at h
    · cases h
    · rename_i h7
      rw [if_neg h7]
      split at h
      · cases h
      · rename_i h8
        rw [if_neg h8]
  rw [e]
  omega
/-- What the law PlanLimits asks of a slot. -/
theorem Pb.limits {p : Pb} {x : Pn} (h : p.err x = 0) {k : Nat} (hk : k < p.n) :
    0 ≤ p.lv x (k + 1) ∧ p.lv x (k + 1) ≤ p.bat.cap ∧ p.room.valid.okAt (k : Int) (p.tm x (k + 1)) = true ∧ p.t.fits (k : Int) (p.net x k) = true := by
  obtain ⟨hc, hf, he⟩ := Pb.err_zero h
  obtain ⟨h1, h2, h3⟩ := Pb.slot_zero (Pb.errTo_each he hk).2
  have hb := step_ok_bd h1
  refine ⟨hb.1, hb.2, h2, ?_⟩
  have g := Pb.good hc
  have hk' : (k : Int) < (p.t.buy.length : Int) := by
    have : p.n = p.t.buy.length := rfl
    omega
  simp only [Tf.fits, Tf.slot]
  rw [wB_true] at h3
  simp [g.t, hk', h3.1, h3.2, wB_true]
end Go.Proofs.Ytdheockmphdakaa
