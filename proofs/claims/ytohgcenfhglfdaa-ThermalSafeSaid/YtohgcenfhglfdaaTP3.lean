/-
  Plain facts for the reference's Safe (layer 40): temperatures in ascending order.
-/
import Derived.Test.YtohgcenfhglfdaaTP2
namespace Go.Proofs.Ytohgcenfhglfdaa

/-- Those of a list among the first j temperatures, ascending. -/
def upL (L : List Int) (j : Nat) : List Int := ((upto j).map (· - 1000)).filter (fun u => decide (u ∈ L))
theorem upL_succ (L : List Int) (j : Nat) : upL L (j + 1) = upL L j ++ (if (j : Int) - 1000 ∈ L then [(j : Int) - 1000] else []) := by
  unfold upL
  rw [upto_succ, List.map_append, List.filter_append]
  congr 1
  by_cases h : (j : Int) - 1000 ∈ L <;> simp [h]
theorem mem_upL {L : List Int} {j : Nat} {u : Int} : u ∈ upL L j ↔ u ∈ L ∧ -1000 ≤ u ∧ u < (j : Int) - 1000 := by
  unfold upL
  rw [List.mem_filter, List.mem_map, decide_eq_true_iff]
  constructor
  · rintro ⟨⟨x, hx, rfl⟩, h⟩
    rw [mem_upto] at hx
    exact ⟨h, by omega, by omega⟩
  · rintro ⟨h, h0, h1⟩
    exact ⟨⟨u + 1000, mem_upto.2 ⟨by omega, by omega⟩, by omega⟩, h⟩
def accU (s : Rm) (i o : Int) (L : List Int) (j : Nat) : List Int := growAll s i o (upL L j)
theorem accU_hit {s : Rm} {i o : Int} {L : List Int} {j : Nat} (h : (j : Int) - 1000 ∈ L) : accU s i o L (j + 1) = growT s i o ((j : Int) - 1000) (accU s i o L j) (s.steps + 1).toNat := by
  unfold accU
  rw [upL_succ, if_pos h, growAll_snoc]
theorem accU_miss {s : Rm} {i o : Int} {L : List Int} {j : Nat} (h : (j : Int) - 1000 ∉ L) : accU s i o L (j + 1) = accU s i o L j := by
  unfold accU
  rw [upL_succ, if_neg h, List.append_nil]
theorem accU_end {s : Rm} {i o u : Int} {L : List Int} (h : FineL L) : u ∈ accU s i o L 3001 ↔ u ∈ growAll s i o L := by
  unfold accU
  rw [mem_growAll, mem_growAll]
  constructor
  · rintro ⟨h1, t, ht, h2⟩
    exact ⟨h1, t, (mem_upL.1 ht).1, h2⟩
  · rintro ⟨h1, t, ht, h2⟩
    have := h.2 t ht
    exact ⟨h1, t, mem_upL.2 ⟨ht, by omega, by omega⟩, h2⟩
theorem isEmpty_of_mem {l r : List Int} (h : ∀ u, u ∈ l ↔ u ∈ r) : l.isEmpty = r.isEmpty := by
  cases l with
  | nil =>
    cases r with
    | nil => rfl
    | cons b r => have := (h b).2 (by simp); simp at this
  | cons a l =>
    cases r with
    | nil => have := (h a).1 (by simp); simp at this
    | cons b r => rfl
theorem accU_empty {s : Rm} {i o : Int} {L : List Int} (h : FineL L) : (accU s i o L 3001).isEmpty = (growAll s i o L).isEmpty := isEmpty_of_mem fun _ => accU_end h

theorem limT_limT (t : Int) : limT (limT t) = limT t := limT_id (limT_bd t).1 (limT_bd t).2
theorem stepT_limT (g l s t o h : Int) : stepT g l s (limT t) o h = stepT g l s t o h := by unfold stepT; rw [limT_limT]
theorem growT_limT (s : Rm) (i o t : Int) (acc : List Int) : ∀ k : Nat, growT s i o (limT t) acc k = growT s i o t acc k := by
  intro k
  induction k with
  | zero => rfl
  | succ k ih => simp only [growT, ih, stepT_limT]
theorem listT_limT (s : Rm) (t : Int) (outs : List Int) : ∀ k : Nat, listT s (limT t) outs (k + 1) = listT s t outs (k + 1) := by
  intro k
  induction k with
  | zero => simp only [listT, growAll, List.foldl, growT_limT]
  | succ k ih => rw [listT, ih]; rfl
theorem safe_limT (s : Rm) (t : Int) (outs : List Int) : s.safe (limT t) outs = s.safe t outs := by
  unfold Rm.safe
  congr 1
  funext i
  rw [listT_limT]
theorem listT_fine {s : Rm} {t : Int} {outs : List Int} {k : Nat} (h0 : -1000 ≤ t) (h1 : t ≤ 2000) : FineL (listT s t outs k) := by
  cases k with
  | zero => exact ⟨by simp [listT], fun u hu => by simp [listT] at hu; omega⟩
  | succ k => exact growAll_fine _ _ _ _
end Go.Proofs.Ytohgcenfhglfdaa
