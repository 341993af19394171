/-
  Plain facts for the laws without the reference (layer 40): a step rises with heat and temperature; a temperature equal to the outside's stays; what Hold and Safe return.
-/
import Derived.Test.YtohgcenfhglfdaaTP3
namespace Go.Proofs.Ytohgcenfhglfdaa

theorem cool_mono {l T T' O : Int} (l1 : l ≤ 1000) (h : T ≤ T') : T - l * (T - O) / 1000 ≤ T' - l * (T' - O) / 1000 := by
  have e : l * (T' - O) = l * (T - O) + l * (T' - T) := by rw [← Int.mul_add]; congr 1; omega
  have h1 : l * (T' - T) ≤ 1000 * (T' - T) := Int.mul_le_mul_of_nonneg_right l1 (by omega)
  have h2 : l * (T' - O) / 1000 ≤ (l * (T - O) + (T' - T) * 1000) / 1000 := Int.ediv_le_ediv (by omega) (by omega)
  rw [Int.add_mul_ediv_right _ _ (by omega)] at h2
  omega
theorem stepT_mono {g l s t t' o h h' : Int} (g0 : 0 ≤ g) (l1 : l ≤ 1000) (s0 : 0 ≤ s) (ht : t ≤ t') (hh : h ≤ h') : stepT g l s t o h ≤ stepT g l s t' o h' := by
  unfold stepT
  refine limT_mono ?_
  have h1 := cool_mono (O := limT o) l1 (limT_mono ht)
  have h2 : g * heatT h s ≤ g * heatT h' s := Int.mul_le_mul_of_nonneg_left (heatT_mono s0 hh) g0
  omega
theorem Rm.step_mono (r : Rm) {t t' o h h' : Int} (ht : t ≤ t') (hh : h ≤ h') : r.valid.step t o h ≤ r.valid.step t' o h' :=
  stepT_mono r.fine.g0 r.fine.l1 r.fine.s0 ht hh
theorem Rm.step_bd (r : Rm) (t o h : Int) : -1000 ≤ r.step t o h ∧ r.step t o h ≤ 2000 := stepT_bd _ _ _ _ _ _
theorem Rm.step_still (r : Rm) {t : Int} (h0 : -1000 ≤ t) (h1 : t ≤ 2000) : r.valid.step t t 0 = t := by
  have s0 := r.fine.s0
  unfold Rm.step stepT
  rw [limT_id h0 h1, heatT_id (Int.le_refl 0) s0]
  simp
  exact limT_id h0 h1
theorem Rm.drift_still (r : Rm) {t : Int} (h0 : -1000 ≤ t) (h1 : t ≤ 2000) : r.valid.drift t [t, t, t] = [t, t, t] := by
  simp only [Rm.drift, r.step_still h0 h1]

/-- What holdTo returns. -/
theorem holdTo_spec (p : Int → Bool) : ∀ n : Nat, 0 ≤ holdTo p n ∧ holdTo p n ≤ (n : Int) ∧ (holdTo p n < (n : Int) → p (holdTo p n) = true) ∧ ∀ x : Int, 0 ≤ x → x < holdTo p n → p x = false := by
  intro n
  induction n with
  | zero => refine ⟨by simp [holdTo], by simp [holdTo], fun h => ?_, fun x h0 h1 => ?_⟩ <;> (simp [holdTo] at *; try omega)
  | succ n ih =>
    obtain ⟨a, b, c, d⟩ := ih
    simp only [holdTo]
    split
    · rename_i hany
      obtain ⟨x, hx, hp⟩ := List.any_eq_true.1 hany
      rw [mem_upto] at hx
      refine ⟨a, by omega, fun h => ?_, d⟩
      by_cases hlt : holdTo p n < (n : Int)
      · exact c hlt
      · have := d x hx.1 (by omega)
        rw [this] at hp; cases hp
    · rename_i hany
      have hno : ∀ x : Int, 0 ≤ x → x < (n : Int) → p x = false := fun x h0 h1 => by
        cases hp : p x
        · rfl
        · exact absurd (List.any_eq_true.2 ⟨x, mem_upto.2 ⟨h0, h1⟩, hp⟩) hany
      split
      · rename_i hp
        exact ⟨by omega, by omega, fun _ => hp, fun x h0 h1 => hno x h0 h1⟩
      · rename_i hp
        refine ⟨by omega, by omega, fun h => by omega, fun x h0 h1 => ?_⟩
        by_cases hx : x < (n : Int)
        · exact hno x h0 hx
        · rw [show x = (n : Int) by omega]; simpa using hp
theorem Rm.hold_spec {r : Rm} (hok : r.ok = true) {i : Int} (h0 : 0 ≤ i) (h1 : i < (r.low.length : Int)) (t o : Int) :
    0 ≤ r.hold i t o ∧ r.hold i t o ≤ r.steps ∧ (r.hold i t o < r.steps → r.low.getD i.toNat 0 ≤ r.step t o (r.hold i t o)) ∧ (0 < r.hold i t o → r.step t o (r.hold i t o - 1) < r.low.getD i.toNat 0) := by
  have s0 := (Rm.good hok).s0
  have h := holdTo_spec (fun h => decide (r.low.getD i.toNat 0 ≤ r.step t o h)) r.steps.toNat
  unfold Rm.hold
  rw [if_pos ⟨h0, h1⟩]
  generalize holdTo (fun h => decide (r.low.getD i.toNat 0 ≤ r.step t o h)) r.steps.toNat = k at *
  obtain ⟨a, b, c, d⟩ := h
  refine ⟨a, by omega, fun h => ?_, fun h => ?_⟩
  · simpa using c (by omega)
  · have := d (k - 1) (by omega) (by omega)
    simpa using this

/-- Safe: the number of slots in which comfort is possible. -/
theorem listT_take {s : Rm} {t : Int} {outs : List Int} {m : Nat} : ∀ {k : Nat}, k ≤ m → listT s t (outs.take m) k = listT s t outs k := by
  intro k
  induction k with
  | zero => intro _; rfl
  | succ k ih =>
    intro h
    simp only [listT]
    rw [ih (by omega)]
    congr 1
    rw [List.getD_eq_getElem?_getD, List.getD_eq_getElem?_getD, List.getElem?_take_of_lt (by omega)]
theorem Rm.safe_take (s : Rm) (t : Int) {outs : List Int} {m : Nat} (hm : m ≤ outs.length) : s.safe t (outs.take m) ≤ s.safe t outs := by
  unfold Rm.safe
  have h1 := holdTo_spec (fun i => (listT s t (outs.take m) (i.toNat + 1)).isEmpty) (outs.take m).length
  have h2 := holdTo_spec (fun i => (listT s t outs (i.toNat + 1)).isEmpty) outs.length
  have hl : (outs.take m).length = m := by rw [List.length_take]; omega
  rw [hl] at h1 ⊢
  obtain ⟨a1, b1, c1, d1⟩ := h1
  obtain ⟨a2, b2, c2, d2⟩ := h2
  generalize holdTo (fun i => (listT s t (outs.take m) (i.toNat + 1)).isEmpty) m = k1 at *
  generalize holdTo (fun i => (listT s t outs (i.toNat + 1)).isEmpty) outs.length = k2 at *
  by_cases h : k1 ≤ k2
  · exact h
  · exfalso
    have hp := c2 (by omega)
    have hq := d1 k2 a2 (by omega)
    rw [listT_take (by omega)] at hq
    rw [hp] at hq; cases hq
theorem Rm.safe_bd (s : Rm) (t : Int) (outs : List Int) : 0 ≤ s.safe t outs ∧ s.safe t outs ≤ (outs.length : Int) ∧ s.safe t outs ≤ (s.low.length : Int) := by
  obtain ⟨a, b, c, d⟩ := holdTo_spec (fun i => (listT s t outs (i.toNat + 1)).isEmpty) outs.length
  unfold Rm.safe
  generalize holdTo (fun i => (listT s t outs (i.toNat + 1)).isEmpty) outs.length = k at *
  refine ⟨a, b, ?_⟩
  by_cases h : k ≤ (s.low.length : Int)
  · exact h
  · exfalso
    have := d (s.low.length : Int) (by omega) (by omega)
    rw [Int.toNat_natCast, listT_far (Nat.le_refl _)] at this
    cases this
theorem Rm.safe_first {s : Rm} {t o : Int} {outs : List Int} (hl : 1 ≤ outs.length) (ho : outs.getD 0 0 = o) : (1 ≤ s.safe t outs) ↔ 0 < (s.choices 0 t o).length := by
  obtain ⟨a, b, c, d⟩ := holdTo_spec (fun i => (listT s t outs (i.toNat + 1)).isEmpty) outs.length
  have hmem : ∀ u, u ∈ listT s t outs 1 ↔ s.okAt 0 u = true ∧ ∃ h : Nat, h < (s.steps + 1).toNat ∧ stepT s.gain s.loss s.steps t o h = u := by
    intro u
    simp only [listT]
    rw [mem_growAll, ho]
    constructor
    · rintro ⟨h1, t', ht, h2⟩
      rw [List.mem_singleton] at ht; subst ht
      exact ⟨h1, h2⟩
    · rintro ⟨h1, h2⟩
      exact ⟨h1, t, by simp, h2⟩
  have hch : 0 < (s.choices 0 t o).length ↔ (listT s t outs 1).isEmpty = false := by
    rw [List.length_pos_iff_exists_mem]
    constructor
    · rintro ⟨x, hx⟩
      unfold Rm.choices at hx
      rw [List.mem_filter, mem_upto] at hx
      obtain ⟨⟨hx0, hx1⟩, hx2⟩ := hx
      have : s.step t o x ∈ listT s t outs 1 := (hmem _).2 ⟨hx2, x.toNat, by omega, by rw [show ((x.toNat : Nat) : Int) = x by omega]; rfl⟩
      cases he : listT s t outs 1 with
      | nil => rw [he] at this; simp at this
      | cons a b => rfl
    · intro h
      cases he : listT s t outs 1 with
      | nil => rw [he] at h; cases h
      | cons u b =>
        obtain ⟨h1, k, h2, h3⟩ := (hmem u).1 (by rw [he]; simp)
        refine ⟨(k : Int), ?_⟩
        unfold Rm.choices
        rw [List.mem_filter, mem_upto]
        refine ⟨⟨by omega, by omega⟩, ?_⟩
        show s.okAt 0 (stepT s.gain s.loss s.steps t o k) = true
        rw [h3]; exact h1
  rw [hch]
  unfold Rm.safe
  generalize hk : holdTo (fun i => (listT s t outs (i.toNat + 1)).isEmpty) outs.length = k at *
  constructor
  · intro h
    exact d 0 (by omega) (by omega)
  · intro h
    by_cases hk0 : 1 ≤ k
    · exact hk0
    · exfalso
      have h2 : (listT s t outs 1).isEmpty = true := by
        have := c (by omega)
        rw [show k = 0 by omega] at this
        exact this
      rw [h] at h2; cases h2
end Go.Proofs.Ytohgcenfhglfdaa
