/-
  The plain mathematics of a load's shift (layer 41), and of what the laws say.
-/
import Derived.Test.YtnibhdpgjmdkeaaLP6
namespace Go.Proofs.Ytnibhdpgjmdkeaa

def Ld.zero : Ld := ⟨ByteArray.empty, [], 0, 0⟩
def clampK (k : Int) : Int := if k < 0 then 0 else if 96 < k then 96 else k
theorem clampK_bd (k : Int) : 0 ≤ clampK k ∧ clampK k ≤ 96 := by unfold clampK; split <;> (try split) <;> omega
def Ld.canShift (r : Ld) (k : Int) : Bool := decide (r.chk 96 = 0) && decide ((r.prof.length : Int) ≤ r.late - clampK k)
def Ld.moved (r : Ld) (k : Int) : Ld := ⟨r.name, r.prof, if r.early - clampK k < 0 then 0 else r.early - clampK k, r.late - clampK k⟩
def Ld.shift (r : Ld) (k : Int) : Ld := if r.canShift k = true then r.moved k else Ld.zero
theorem Ld.shift_no {r : Ld} {k : Int} (h : r.canShift k = false) : r.shift k = Ld.zero := by unfold Ld.shift; rw [if_neg (by simp [h])]
theorem Ld.shift_yes {r : Ld} {k : Int} (h : r.canShift k = true) : r.shift k = r.moved k := by unfold Ld.shift; rw [if_pos h]
theorem Ld.can_chk {r : Ld} {k : Int} (h : r.chk 96 ≠ 0) : r.canShift k = false := by unfold Ld.canShift; rw [decide_eq_false h]; rfl
theorem Ld.can_len {r : Ld} {k : Int} (h : ¬ (r.prof.length : Int) ≤ r.late - clampK k) : r.canShift k = false := by unfold Ld.canShift; rw [decide_eq_false h, Bool.and_false]
theorem Ld.can_yes {r : Ld} {k : Int} (h : r.chk 96 = 0) (h2 : (r.prof.length : Int) ≤ r.late - clampK k) : r.canShift k = true := by simp [Ld.canShift, h, h2]
theorem Ld.chk_iff {r : Ld} {n : Int} : r.chk n = 0 ↔ (nameOk r.name = true ∧ r.lim = true ∧ r.prof.all unitOk = true ∧ r.span n = true) := by
  unfold Ld.chk
  constructor
  · intro h
    split at h
    · split at h
      · split at h
        · rename_i a b c; exact ⟨a, b, c.1, c.2⟩
        · cases h
      · cases h
    · cases h
  · rintro ⟨a, b, c, d⟩
    rw [if_pos a, if_pos b, if_pos ⟨c, d⟩]
theorem Ld.chk96 {r : Ld} {n : Int} (h : r.chk n = 0) : r.chk 96 = 0 := by
  rw [Ld.chk_iff] at h ⊢
  refine ⟨h.1, h.2.1, h.2.2.1, ?_⟩
  have := h.2.2.2
  simp only [Ld.span, decide_eq_true_iff] at this ⊢
  omega
/-- LoadMoved: a shifted load has the same starts and uses, as seen from the later horizon. -/
theorem Ld.moved_no {r : Ld} {n k s : Int} (h : r.chk n = 0) (k0 : 0 ≤ k) (k1 : k < n) (s0 : k ≤ s) (hc : r.canShift k = false) : r.fit s n = false := by
  have g := Ld.good h
  have h96 := Ld.chk96 h
  have hk : clampK k = k := by have := g.n1; unfold clampK; rw [if_neg (by omega), if_neg (by omega)]
  have : ¬ (r.prof.length : Int) ≤ r.late - k := by
    intro hh
    rw [Ld.can_yes h96 (by rw [hk]; exact hh)] at hc
    cases hc
  unfold Ld.fit
  rw [decide_eq_false (p := s ≤ _) (by omega), Bool.and_false, Bool.and_false]
theorem Ld.moved_chk {r : Ld} {n k : Int} (h : r.chk n = 0) (k0 : 0 ≤ k) (k1 : k < n) (hc : r.canShift k = true) : (r.moved k).chk (n - k) = 0 := by
  have g := Ld.good h
  have hk : clampK k = k := by have := g.n1; unfold clampK; rw [if_neg (by omega), if_neg (by omega)]
  have hl : (r.prof.length : Int) ≤ r.late - k := by
    have := hc
    simp only [Ld.canShift, Bool.and_eq_true, decide_eq_true_iff, hk] at this
    exact this.2
  rw [Ld.chk_iff] at h ⊢
  refine ⟨h.1, h.2.1, h.2.2.1, ?_⟩
  have hs := h.2.2.2
  simp only [Ld.span, decide_eq_true_iff, Ld.moved, hk] at hs ⊢
  split <;> omega
theorem Ld.moved_fit {r : Ld} {n k s : Int} (h : r.chk n = 0) (k0 : 0 ≤ k) (k1 : k < n) (s0 : k ≤ s) (hc : r.canShift k = true) : (r.moved k).fit (s - k) (n - k) = r.fit s n := by
  have g := Ld.good h
  have hk : clampK k = k := by have := g.n1; unfold clampK; rw [if_neg (by omega), if_neg (by omega)]
  unfold Ld.fit
  rw [decide_eq_true h, decide_eq_true (Ld.moved_chk h k0 k1 hc), Bool.eq_iff_iff]
  simp only [Bool.true_and, Bool.and_eq_true, decide_eq_true_iff, Ld.moved, hk]
  split <;> omega
theorem Ld.moved_use {r : Ld} {k s i : Int} : (r.moved k).use (s - k) (i - k) = r.use s i := by
  unfold Ld.use Ld.moved
  simp only []
  have e : i - k - (s - k) = i - s := by omega
  rw [e]
  by_cases h : i < s
  · rw [if_pos h, if_pos (by omega)]
  · rw [if_neg h, if_neg (by omega)]
/-- LoadWhole: what a load that starts at s uses in the first slots. -/
def Ld.usedTo (r : Ld) (s : Int) (k : Nat) : Int := sumZ ((List.range k).map fun (i : Nat) => r.use s (i : Int))
theorem Ld.usedTo_succ (r : Ld) (s : Int) (k : Nat) : r.usedTo s (k + 1) = r.usedTo s k + r.use s (k : Int) := by
  unfold Ld.usedTo
  rw [List.range_succ, List.map_append, sumZ_append]
  simp [sumZ]
theorem Ld.usedTo_bd (r : Ld) (s : Int) (k : Nat) : 0 ≤ r.usedTo s k ∧ r.usedTo s k ≤ 1000 * (k : Int) := by
  induction k with
  | zero => simp [Ld.usedTo, sumZ]
  | succ k ih =>
    rw [Ld.usedTo_succ]
    have := r.use_bd s (k : Int)
    omega
theorem Ld.usedTo_before {r : Ld} {s : Nat} {k : Nat} (h : k ≤ s) : r.usedTo (s : Int) k = 0 := by
  induction k with
  | zero => simp [Ld.usedTo, sumZ]
  | succ k ih =>
    rw [Ld.usedTo_succ, ih (by omega)]
    unfold Ld.use
    rw [if_pos (by omega)]
    rfl
theorem Ld.usedTo_in {r : Ld} {s j : Nat} (h : j ≤ r.prof.length) : r.usedTo (s : Int) (s + j) = enTo r.prof j := by
  induction j with
  | zero => rw [Nat.add_zero, Ld.usedTo_before (Nat.le_refl _)]; simp [enTo, sumZ]
  | succ j ih =>
    rw [← Nat.add_assoc, Ld.usedTo_succ, ih (by omega), enTo_succ (by omega)]
    unfold Ld.use
    rw [if_neg (by omega), if_neg (by omega), show (((s + j : Nat) : Int) - (s : Int)).toNat = j by omega]
    simp [List.getD, show j < r.prof.length by omega]
theorem Ld.usedTo_after {r : Ld} {s j : Nat} (h : r.prof.length ≤ j) : r.usedTo (s : Int) (s + j) = r.energy := by
  induction j with
  | zero =>
    have h0 : r.prof.length = 0 := by omega
    rw [Ld.usedTo_in (by omega), ← enTo_all, h0]
  | succ j ih =>
    by_cases e : r.prof.length = j + 1
    · rw [Ld.usedTo_in (by omega), ← enTo_all, e]
    · rw [← Nat.add_assoc, Ld.usedTo_succ, ih (by omega)]
      unfold Ld.use
      rw [if_neg (by omega), if_pos (by omega)]
      omega
theorem Ld.whole {r : Ld} {s n : Int} (h : r.fit s n = true) : r.usedTo s (slotsN n) = r.energy := by
  simp only [Ld.fit, Bool.and_eq_true, decide_eq_true_iff] at h
  obtain ⟨hc, h1, h2⟩ := h
  have g := Ld.good hc
  have e0 := g.e0; have l1 := g.l1; have n1 := g.n1; have n0 := g.n0
  have hN : slotsN n = n.toNat := by unfold slotsN; rw [if_neg (by omega), if_neg (by omega)]
  rw [hN]
  obtain ⟨s', rfl⟩ : ∃ s' : Nat, s = (s' : Int) := ⟨s.toNat, by omega⟩
  have := Ld.usedTo_after (r := r) (s := s') (j := n.toNat - s') (by omega)
  rwa [show s' + (n.toNat - s') = n.toNat by omega] at this
theorem Ld.use_window {r : Ld} {s n i : Int} (h : r.fit s n = true) (hu : r.use s i ≠ 0) : r.early ≤ i ∧ i < r.late := by
  simp only [Ld.fit, Bool.and_eq_true, decide_eq_true_iff] at h
  obtain ⟨hc, h1, h2⟩ := h
  unfold Ld.use at hu
  split at hu
  · exact absurd rfl hu
  · split at hu
    · exact absurd rfl hu
    · omega
theorem Ld.fit_last {r : Ld} {s n : Int} (h : r.chk n = 0) : r.fit s n = (decide (r.early ≤ s) && decide (s ≤ r.last)) ∧ (((r.starts n).length : Nat) : Int) = r.last - r.early + 1 := by
  have g := Ld.good h
  have e0 := g.e0; have l1 := g.l1; have n1 := g.n1; have n0 := g.n0; have p := g.p
  have hl : r.last = r.late - (r.prof.length : Int) := by unfold Ld.last; rw [if_neg (by omega), if_neg (by omega)]
  refine ⟨by unfold Ld.fit; rw [decide_eq_true h, hl]; rfl, ?_⟩
  unfold Ld.starts
  rw [if_pos h, seqFrom_length, hl]
  unfold Ld.cnt
  omega
end Go.Proofs.Ytnibhdpgjmdkeaa
