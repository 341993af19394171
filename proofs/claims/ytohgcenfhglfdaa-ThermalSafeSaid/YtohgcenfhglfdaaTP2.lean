/-
  Plain facts on the temperatures that a room can reach slot by slot (layer 40, Safe).
-/
import Derived.Test.YtohgcenfhglfdaaTPlain
namespace Go.Proofs.Ytohgcenfhglfdaa

/-- What t leads to with the first k heats, put to what there is: no number twice. -/
def growT (s : Rm) (i o t : Int) (acc : List Int) : Nat → List Int
  | 0 => acc
  | k + 1 => if s.okAt i (stepT s.gain s.loss s.steps t o k) = true ∧ stepT s.gain s.loss s.steps t o k ∉ growT s i o t acc k then growT s i o t acc k ++ [stepT s.gain s.loss s.steps t o k] else growT s i o t acc k
theorem mem_growT {s : Rm} {i o t u : Int} {acc : List Int} : ∀ {k : Nat}, u ∈ growT s i o t acc k ↔ u ∈ acc ∨ (s.okAt i u = true ∧ ∃ h : Nat, h < k ∧ stepT s.gain s.loss s.steps t o h = u) := by
  intro k
  induction k with
  | zero => simp [growT]
  | succ k ih =>
    simp only [growT]
    split
    · rename_i hc
      rw [List.mem_append, ih, List.mem_singleton]
      constructor
      · rintro ((h | ⟨h1, h, h2, h3⟩) | h)
        · exact .inl h
        · exact .inr ⟨h1, h, by omega, h3⟩
        · exact .inr ⟨by rw [h]; exact hc.1, k, by omega, h.symm⟩
      · rintro (h | ⟨h1, h, h2, h3⟩)
        · exact .inl (.inl h)
        · by_cases e : h = k
          · subst e; exact .inr h3.symm
          · exact .inl (.inr ⟨h1, h, by omega, h3⟩)
    · rename_i hc
      rw [ih]
      constructor
      · rintro (h | ⟨h1, h, h2, h3⟩)
        · exact .inl h
        · exact .inr ⟨h1, h, by omega, h3⟩
      · rintro (h | ⟨h1, h, h2, h3⟩)
        · exact .inl h
        · by_cases e : h = k
          · subst e
            by_cases hm : u ∈ growT s i o t acc h
            · exact ih.1 hm
            · exact absurd ⟨by rw [h3]; exact h1, by rw [h3]; exact hm⟩ hc
          · exact .inr ⟨h1, h, by omega, h3⟩
/-- No number twice, all within the limits. -/
def FineL (l : List Int) : Prop := l.Nodup ∧ ∀ u ∈ l, -1000 ≤ u ∧ u ≤ 2000
theorem growT_fine {s : Rm} {i o t : Int} {acc : List Int} (h : FineL acc) : ∀ k : Nat, FineL (growT s i o t acc k) := by
  intro k
  induction k with
  | zero => exact h
  | succ k ih =>
    simp only [growT]
    split
    · rename_i hc
      refine ⟨?_, ?_⟩
      · rw [List.nodup_append]
        refine ⟨ih.1, by simp, ?_⟩
        intro a ha b hb e
        rw [List.mem_singleton] at hb
        subst e
        rw [hb] at ha
        exact hc.2 ha
      · intro u hu
        rw [List.mem_append, List.mem_singleton] at hu
        rcases hu with hu | hu
        · exact ih.2 u hu
        · rw [hu]; exact stepT_bd _ _ _ _ _ _
    · exact ih
/-- A list without repetitions within n successive numbers has at most n elements. -/
theorem nodup_len (a : Int) : ∀ (n : Nat) (l : List Int), l.Nodup → (∀ u ∈ l, a ≤ u ∧ u < a + (n : Int)) → l.length ≤ n := by
  intro n
  induction n with
  | zero =>
    intro l _ h
    cases l with
    | nil => simp
    | cons x l => have := h x (by simp); omega
  | succ n ih =>
    intro l hn h
    have h1 := ih (l.erase (a + (n : Int))) (hn.erase _) (fun u hu => by
      have hm := (hn.mem_erase_iff).1 hu
      have := h u hm.2
      have := hm.1
      omega)
    have h2 : l.length ≤ (l.erase (a + (n : Int))).length + 1 := by
      rw [List.length_erase]; split <;> omega
    omega
theorem FineL.len {l : List Int} (h : FineL l) : l.length ≤ 3001 := nodup_len (-1000) 3001 l h.1 (fun u hu => by have := h.2 u hu; omega)
/-- What all of a list leads to. -/
def growAll (s : Rm) (i o : Int) (l : List Int) : List Int := l.foldl (fun acc t => growT s i o t acc (s.steps + 1).toNat) []
theorem growAll_snoc (s : Rm) (i o t : Int) (l : List Int) : growAll s i o (l ++ [t]) = growT s i o t (growAll s i o l) (s.steps + 1).toNat := by simp [growAll, List.foldl_append]
theorem growAll_fine (s : Rm) (i o : Int) (l : List Int) : FineL (growAll s i o l) := by
  unfold growAll
  have h : ∀ (l acc : List Int), FineL acc → FineL (l.foldl (fun acc t => growT s i o t acc (s.steps + 1).toNat) acc) := by
    intro l
    induction l with
    | nil => intro acc h; exact h
    | cons x l ih => intro acc h; exact ih _ (growT_fine h _)
  exact h l [] ⟨by simp, by simp⟩
theorem mem_growAll {s : Rm} {i o u : Int} : ∀ {l : List Int}, u ∈ growAll s i o l ↔ s.okAt i u = true ∧ ∃ t ∈ l, ∃ h : Nat, h < (s.steps + 1).toNat ∧ stepT s.gain s.loss s.steps t o h = u := by
  have h : ∀ (l acc : List Int), u ∈ l.foldl (fun acc t => growT s i o t acc (s.steps + 1).toNat) acc ↔ u ∈ acc ∨ (s.okAt i u = true ∧ ∃ t ∈ l, ∃ h : Nat, h < (s.steps + 1).toNat ∧ stepT s.gain s.loss s.steps t o h = u) := by
    intro l
    induction l with
    | nil => intro acc; simp
    | cons x l ih =>
      intro acc
      rw [List.foldl_cons, ih, mem_growT]
      constructor
      · rintro ((h | ⟨h1, h, h2, h3⟩) | ⟨h1, t, ht, h, h2, h3⟩)
        · exact .inl h
        · exact .inr ⟨h1, x, by simp, h, h2, h3⟩
        · exact .inr ⟨h1, t, List.mem_cons_of_mem _ ht, h, h2, h3⟩
      · rintro (h | ⟨h1, t, ht, h, h2, h3⟩)
        · exact .inl (.inl h)
        · rcases List.mem_cons.1 ht with rfl | ht
          · exact .inl (.inr ⟨h1, h, h2, h3⟩)
          · exact .inr ⟨h1, t, ht, h, h2, h3⟩
  intro l
  unfold growAll
  rw [h]
  simp

/-- The temperatures behind k slots of a start, all comfortable: as the program lists them. -/
def listT (s : Rm) (t0 : Int) (outs : List Int) : Nat → List Int
  | 0 => [t0]
  | k + 1 => growAll s (k : Int) (outs.getD k 0) (listT s t0 outs k)
/-- In how many slots comfort is possible: the first slot behind which there is none. -/
def Rm.safe (s : Rm) (t0 : Int) (outs : List Int) : Int := holdTo (fun i => (listT s t0 outs (i.toNat + 1)).isEmpty) outs.length
theorem listT_len (s : Rm) (t0 : Int) (outs : List Int) (k : Nat) : (listT s t0 outs k).length ≤ 3001 := by
  cases k with
  | zero => simp [listT]
  | succ k => exact (growAll_fine _ _ _ _).len
/-- Nothing is comfortable beyond the last slot. -/
theorem listT_far {s : Rm} {t0 : Int} {outs : List Int} {k : Nat} (h : s.low.length ≤ k) : listT s t0 outs (k + 1) = [] := by
  rw [List.eq_nil_iff_forall_not_mem]
  intro u hu
  simp only [listT] at hu
  rw [mem_growAll] at hu
  have := hu.1
  unfold Rm.okAt at this
  simp only [Bool.and_eq_true, decide_eq_true_eq] at this
  omega
end Go.Proofs.Ytohgcenfhglfdaa
