/-
  The plain mathematics of the end of settling (layer 8): 621 rounds are enough.
-/
import Derived.Test.YtgflklgjjpokaaaAP10
namespace Go.Proofs.Ytgflklgjjpokaaa

/-- What becomes of one claim. -/
def gF (l : List Cl) : Nat → Cl → Cl
  | 0, c => c
  | k + 1, c => stepCl (iterL l k) (gF l k c)
theorem iterL_map (l : List Cl) (k : Nat) : iterL l k = l.map (gF l k) := by
  induction k with
  | zero => simp [iterL, gF]
  | succ k ih =>
    have h : iterL l (k + 1) = (iterL l k).map (stepCl (iterL l k)) := rfl
    rw [h]
    conv => lhs; rhs; rw [ih]
    rw [List.map_map]
    rfl
theorem stepCl_eui (l : List Cl) (c : Cl) : (stepCl l c).eui = c.eui := by unfold stepCl; split <;> rfl
theorem gF_eui (l : List Cl) (k : Nat) (c : Cl) : (gF l k c).eui = c.eui := by
  induction k with
  | zero => rfl
  | succ k ih => rw [gF, stepCl_eui, ih]
theorem gF_addr (l : List Cl) (k : Nat) {c : Cl} (h : c.addr = pickZ c.eui c.try_) : (gF l k c).addr = pickZ c.eui (gF l k c).try_ := by
  induction k with
  | zero => exact h
  | succ k ih =>
    rw [gF]
    unfold stepCl
    split
    · exact ih
    · show pickZ (gF l k c).eui _ = _
      rw [gF_eui]
      rfl
theorem gF_try (l : List Cl) (k : Nat) (c : Cl) : c.try_ ≤ (gF l k c).try_ := by
  induction k with
  | zero => exact Int.le_refl _
  | succ k ih =>
    rw [gF]
    unfold stepCl
    split
    · exact ih
    · show _ ≤ (gF l k c).try_ + 1
      omega
def lesser (l : List Cl) (c : Cl) : List Cl := l.filter fun d => decide (d.eui < c.eui)
theorem lesser_mem {l : List Cl} {c d : Cl} : d ∈ lesser l c ↔ d ∈ l ∧ d.eui < c.eui := by unfold lesser; rw [List.mem_filter, decide_eq_true_iff]
def takenL (l : List Cl) (k : Nat) (c : Cl) : List Int := (lesser l c).map fun d => (gF l k d).addr
theorem least_iff (l : List Cl) (k : Nat) (c : Cl) : isLeast (iterL l k) (gF l k c) = true ↔ (gF l k c).addr ∉ takenL l k c := by
  rw [isLeast_true, iterL_map]
  unfold takenL
  constructor
  · intro h hm
    obtain ⟨d, hd, ha⟩ := List.mem_map.1 hm
    rw [lesser_mem] at hd
    have := h (gF l k d) (List.mem_map_of_mem hd.1) ha
    rw [gF_eui, gF_eui] at this
    exact this hd.2
  · intro h x hx ha hlt
    obtain ⟨d, hd, rfl⟩ := List.mem_map.1 hx
    rw [gF_eui, gF_eui] at hlt
    exact h (ha ▸ List.mem_map_of_mem (f := fun d => (gF l k d).addr) (lesser_mem.2 ⟨hd, hlt⟩))
def Still (l : List Cl) (K : Nat) (c : Cl) : Prop := ∀ k, K ≤ k → gF l k c = gF l K c
theorem Still.later {l : List Cl} {K K' : Nat} {c : Cl} (h : Still l K c) (hk : K ≤ K') : Still l K' c := by
  intro k hk'
  rw [h k (by omega), h K' hk]
theorem taken_still {l : List Cl} {K k : Nat} {c : Cl} (h : ∀ d ∈ l, d.eui < c.eui → Still l K d) (hk : K ≤ k) : takenL l k c = takenL l K c := by
  unfold takenL
  apply List.map_congr_left
  intro d hd
  rw [lesser_mem] at hd
  rw [h d hd.1 hd.2 k hk]
theorem still_of {l : List Cl} {K k : Nat} {c : Cl} (h : ∀ d ∈ l, d.eui < c.eui → Still l K d) (hk : K ≤ k) (hn : (gF l k c).addr ∉ takenL l K c) : Still l k c := by
  intro j hj
  induction j with
  | zero => rw [show k = 0 by omega]
  | succ j ih =>
    by_cases e : k = j + 1
    · rw [e]
    · have h1 := ih (by omega)
      rw [gF, stepCl_least, h1]
      rw [least_iff, taken_still h (by omega), h1]
      exact hn
theorem moves {l : List Cl} {K : Nat} {c : Cl} (hc : c.addr = pickZ c.eui c.try_) (h : ∀ d ∈ l, d.eui < c.eui → Still l K d) (j : Nat) (hn : ¬ Still l (K + j) c) : (gF l (K + j) c).try_ = (gF l K c).try_ + (j : Int) ∧ ∀ i : Nat, i ≤ j → pickZ c.eui ((gF l K c).try_ + (i : Int)) ∈ takenL l K c := by
  induction j with
  | zero =>
    refine ⟨by simp, fun i hi => ?_⟩
    rw [show i = 0 by omega]
    apply Classical.byContradiction
    intro hm
    apply hn
    refine still_of h (by omega) ?_
    rw [gF_addr l _ hc]
    simpa using hm
  | succ j ih =>
    obtain ⟨h1, h2⟩ := ih (fun hs => hn (hs.later (by omega)))
    have h3 : (gF l (K + (j + 1)) c).try_ = (gF l K c).try_ + ((j + 1 : Nat) : Int) := by
      have hl : isLeast (iterL l (K + j)) (gF l (K + j) c) = false := by
        rw [← Bool.not_eq_true, least_iff, taken_still h (by omega), gF_addr l _ hc, h1]
        exact fun hx => hx (h2 j (by omega))
      rw [← Nat.add_assoc, gF, stepCl_moved hl]
      show (gF l (K + j) c).try_ + 1 = _
      omega
    refine ⟨h3, fun i hi => ?_⟩
    by_cases e : i = j + 1
    · subst e
      apply Classical.byContradiction
      intro hm
      apply hn
      refine still_of h (by omega) ?_
      rw [gF_addr l _ hc, h3]
      exact hm
    · exact h2 i (by omega)
/-- Different members of a list are no more than it is long. -/
theorem pigeon {A : List Int} (f : Nat → Int) (n : Nat) (hin : ∀ i, i < n → f i ∈ A) (hinj : ∀ i j, i < n → j < n → f i = f j → i = j) : n ≤ A.length := by
  induction n generalizing A with
  | zero => omega
  | succ n ih =>
    have hm := hin n (by omega)
    have h1 := ih (A := A.erase (f n)) (fun i hi => ?_) (fun i j hi hj => hinj i j (by omega) (by omega))
    · rw [List.length_erase_of_mem hm] at h1
      have := List.length_pos_of_mem hm
      omega
    · refine (List.mem_erase_of_ne ?_).2 (hin i (by omega))
      intro e
      have := hinj i n (by omega) (by omega) e
      omega
theorem probe_apart {t t0 L : Int} {i j s : Nat} (_ht : t0 ≤ t) (h250 : s < 250) (hi : i ≤ s) (hj : j ≤ s) (h : (L - 1 + (t + ((15 + i : Nat) : Int) - 15) % 250) % 250 + 1 = (L - 1 + (t + ((15 + j : Nat) : Int) - 15) % 250) % 250 + 1) : i = j := by
  omega
theorem still_next {l : List Cl} {K s : Nat} {c : Cl} (hc : c.addr = pickZ c.eui c.try_) (h0 : 0 ≤ c.try_) (h : ∀ d ∈ l, d.eui < c.eui → Still l K d) (hs : (lesser l c).length ≤ s) (h250 : s < 250) : Still l (K + (15 + s)) c := by
  apply Classical.byContradiction
  intro hn
  obtain ⟨_, h2⟩ := moves hc h (15 + s) hn
  have ht := gF_try l K c
  have hp := pigeon (A := takenL l K c) (fun i => pickZ c.eui ((gF l K c).try_ + ((15 + i : Nat) : Int))) (s + 1) (fun i hi => h2 (15 + i) (by omega)) (fun i j hi hj he => ?_)
  · unfold takenL at hp
    rw [List.length_map] at hp
    omega
  · have hb := pickLow_bd c.eui 15
    have he2 : pickZ c.eui ((gF l K c).try_ + ((15 + i : Nat) : Int)) = pickZ c.eui ((gF l K c).try_ + ((15 + j : Nat) : Int)) := he
    clear he hn h2 h
    generalize (gF l K c).try_ = t at he2 ht
    rw [pickZ_probe (show 15 ≤ t + ((15 + i : Nat) : Int) by omega), pickZ_probe (show 15 ≤ t + ((15 + j : Nat) : Int) by omega)] at he2
    generalize pickLow c.eui 15 = L at he2 hb
    exact probe_apart ht h250 (by omega) (by omega) he2
theorem lesser_lt {l : List Cl} {c d : Cl} (hd : d ∈ l) (h : d.eui < c.eui) : (lesser l d).length < (lesser l c).length := by
  have h1 : lesser l d = (lesser l c).filter fun x => decide (x.eui < d.eui) := by
    unfold lesser
    rw [List.filter_filter]
    apply List.filter_congr
    intro x _
    rw [Bool.eq_iff_iff]
    simp only [Bool.and_eq_true, decide_eq_true_iff]
    omega
  rw [h1, List.length_filter_lt_length_iff_exists]
  exact ⟨d, lesser_mem.2 ⟨hd, h⟩, by simp⟩
def endT : Nat → Nat
  | 0 => 0
  | r + 1 => endT r + (15 + (r + 1))
theorem still_rank {l : List Cl} (hl : ∀ c ∈ l, c.addr = pickZ c.eui c.try_ ∧ 0 ≤ c.try_) (r : Nat) (hr : r < 250) : ∀ c ∈ l, (lesser l c).length ≤ r → Still l (endT r) c := by
  induction r with
  | zero =>
    intro c hc h
    have h1 : lesser l c = [] := List.eq_nil_of_length_eq_zero (by omega)
    refine still_of (K := endT 0) (fun d hd hlt => ?_) (Nat.le_refl _) ?_
    · have := lesser_mem.2 ⟨hd, hlt⟩
      rw [h1] at this
      cases this
    · unfold takenL
      rw [h1]
      simp
  | succ r ih =>
    intro c hc h
    have hless : ∀ d ∈ l, d.eui < c.eui → Still l (endT r) d := by
      intro d hd hlt
      have := lesser_lt hd hlt
      exact ih (by omega) d hd (by omega)
    exact still_next (hl c hc).1 (hl c hc).2 hless h hr
theorem lesser_length {l : List Cl} {c : Cl} (hc : c ∈ l) : (lesser l c).length < l.length := by
  unfold lesser
  rw [List.length_filter_lt_length_iff_exists]
  exact ⟨c, hc, by simp⟩
theorem Cl.ok_iff {c : Cl} : c.ok = true ↔ 0 ≤ c.try_ ∧ c.try_ ≤ 100000 ∧ c.addr = pickZ c.eui c.try_ := by
  unfold Cl.ok
  simp only [Bool.and_eq_true, decide_eq_true_iff]
theorem still_good {l : List Cl} (hg : ClGood l) : ∀ c ∈ l, Still l 621 c := by
  intro c hc
  have h1 := lesser_length hc
  have h2 := hg.len
  have h3 := still_rank (l := l) (fun c hc => ⟨(Cl.ok_iff.1 (hg.ok c hc)).2.2, (Cl.ok_iff.1 (hg.ok c hc)).1⟩) 23 (by omega) c hc (by omega)
  exact h3
theorem iterL_end {l : List Cl} (hg : ClGood l) {k : Nat} (hk : 621 ≤ k) : iterL l k = iterL l 621 := by
  rw [iterL_map, iterL_map]
  apply List.map_congr_left
  intro c hc
  exact still_good hg c hc k hk
theorem settle_end (l : List Cl) : settleL l 700 = settleL l 1000 := by
  unfold settleL
  by_cases h : clChk l = 0
  · rw [if_pos h, if_pos h, iterL_end (clGood h) (k := 700) (by omega), iterL_end (clGood h) (k := 1000) (by omega)]
  · rw [if_neg h, if_neg h]
end Go.Proofs.Ytgflklgjjpokaaa
