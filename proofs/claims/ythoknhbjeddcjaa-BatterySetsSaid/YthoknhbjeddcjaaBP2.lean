/-
  Plain facts on spans of numbers, and on the choices of a battery.
-/
import Derived.Test.YthoknhbjeddcjaaBPlain
namespace Go.Proofs.Ythoknhbjeddcjaa

/-- The n numbers from a on. -/
def span (a : Int) (n : Nat) : List Int := (List.range n).map fun (i : Nat) => a + (i : Int)
theorem span_succ (a : Int) (n : Nat) : span a (n + 1) = span a n ++ [a + (n : Int)] := by simp [span, List.range_succ]
theorem span_add (a : Int) (m n : Nat) : span a (m + n) = span a m ++ span (a + (m : Int)) n := by
  induction n with
  | zero => simp [span]
  | succ n ih => rw [← Nat.add_assoc, span_succ, ih, span_succ, List.append_assoc]; congr 3; push_cast; omega
theorem mem_span {a x : Int} {n : Nat} : x ∈ span a n ↔ a ≤ x ∧ x < a + (n : Int) := by
  simp only [span, List.mem_map, List.mem_range]
  constructor
  · rintro ⟨i, hi, rfl⟩; omega
  · intro ⟨h1, h2⟩; exact ⟨(x - a).toNat, by omega, by omega⟩
theorem span_length (a : Int) (n : Nat) : (span a n).length = n := by simp [span]
theorem filter_span_none {p : Int → Bool} {a : Int} {n : Nat} (h : ∀ x, a ≤ x → x < a + (n : Int) → p x = false) : (span a n).filter p = [] := by
  rw [List.filter_eq_nil_iff]
  intro x hx
  rw [mem_span] at hx
  rw [h x hx.1 hx.2]
  simp
/-- A filter over a longer span, which finds nothing outside. -/
theorem filter_span {p : Int → Bool} {a c : Int} {n m : Nat} (h0 : a ≤ c) (h1 : c + (m : Int) ≤ a + (n : Int)) (hl : ∀ x, x < c → p x = false) (hr : ∀ x, c + (m : Int) ≤ x → p x = false) :
    (span a n).filter p = (span c m).filter p := by
  obtain ⟨k, hk⟩ : ∃ k : Nat, n = (c - a).toNat + (m + k) := ⟨n - ((c - a).toNat + m), by omega⟩
  subst hk
  rw [span_add, span_add, List.filter_append, List.filter_append, filter_span_none (fun x _ h => hl x (by omega)),
    show a + (((c - a).toNat : Nat) : Int) = c by omega, filter_span_none (a := c + (m : Int)) (fun x h _ => hr x h)]
  simp

theorem choicesZ_span (b : Bat) (l : Int) : choicesZ b l = (span (-40) 81).filter (canZ b l) := by
  unfold choicesZ
  by_cases h : b.ok = true
  · rw [if_pos h]
    have hg := Bat.good h
    have d0 := hg.di0; have d1 := hg.di1; have c0 := hg.ch0; have c1 := hg.ch1
    rw [filter_span (c := -b.discharge) (m := (b.discharge + b.charge + 1).toNat) (by omega) (by omega)]
    · unfold span
      congr 2
      funext i
      omega
    · intro x hx
      rw [← Bool.not_eq_true, canZ_iff]; omega
    · intro x hx
      rw [← Bool.not_eq_true, canZ_iff]; omega
  · rw [if_neg h]
    symm
    rw [List.filter_eq_nil_iff]
    intro x _
    rw [canZ_iff]
    simp [h]

theorem mem_choicesZ {b : Bat} {l c : Int} : c ∈ choicesZ b l ↔ canZ b l c = true := by
  rw [choicesZ_span, List.mem_filter, mem_span]
  constructor
  · exact fun h => h.2
  · intro h
    refine ⟨?_, h⟩
    rw [canZ_iff] at h
    have hg := Bat.good h.1
    have d0 := hg.di0; have d1 := hg.di1; have c0 := hg.ch0; have c1 := hg.ch1
    omega
theorem choicesZ_length (b : Bat) (l : Int) : (choicesZ b l).length ≤ 81 := by
  rw [choicesZ_span]
  exact Nat.le_trans (List.length_filter_le _ _) (by rw [span_length]; omega)
end Go.Proofs.Ythoknhbjeddcjaa
