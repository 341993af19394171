/-
  Plain facts on the choices and the levels of a battery: choices ascend; one step reaches just the choices; more steps reach more.
-/
import Derived.Test.YthoknhbjeddcjaaB4
namespace Go.Proofs.Ythoknhbjeddcjaa

theorem span_sorted (a : Int) (n : Nat) : (span a n).Pairwise (· < ·) := by
  unfold span
  rw [List.pairwise_map]
  exact List.pairwise_lt_range.imp (fun h => by omega)
theorem choicesZ_sorted (b : Bat) (l : Int) : (choicesZ b l).Pairwise (· < ·) := by
  rw [choicesZ_span]
  exact (span_sorted _ _).filter _
theorem choicesZ_adj {b : Bat} {l : Int} {i : Nat} (h : i + 1 < (choicesZ b l).length) : (choicesZ b l)[i] < (choicesZ b l)[i + 1] :=
  List.pairwise_iff_getElem.1 (choicesZ_sorted b l) i (i + 1) (by omega) h (by omega)
theorem span_map (a d : Int) (n : Nat) : (span a n).map (fun x => d + x) = span (d + a) n := by
  simp [span, List.map_map, Function.comp_def, Int.add_assoc]
theorem listTo_span (R : Int → Bool) (j : Nat) : listTo R j = (span 0 j).filter R := by
  simp [listTo, span]
theorem reachB_one {b : Bat} {l : Int} (h0 : 0 ≤ l) (h1 : l ≤ b.cap) (y : Int) : reachB b l 1 y = canZ b l (y - l) := by
  rw [Bool.eq_iff_iff]
  simp only [reachB, List.any_eq_true, Bool.and_eq_true, decide_eq_true_eq, List.mem_range]
  constructor
  · rintro ⟨x, _, rfl, h⟩; exact h
  · intro h
    exact ⟨l.toNat, by omega, by omega, by rwa [show ((l.toNat : Nat) : Int) = l by omega]⟩
theorem choicesZ_out {b : Bat} {l : Int} (h : ¬ (b.ok = true ∧ 0 ≤ l ∧ l ≤ b.cap)) : choicesZ b l = [] := by
  rw [List.eq_nil_iff_forall_not_mem]
  intro c hc
  rw [mem_choicesZ, canZ_iff] at hc
  exact h ⟨hc.1, hc.2.1, hc.2.2.1⟩
theorem reach_one (b : Bat) (l : Int) : reachZ b l 1 = (choicesZ b l).map (fun c => l + c) := by
  by_cases h : b.ok = true ∧ 0 ≤ l ∧ l ≤ b.cap
  · obtain ⟨h1, h2, h3⟩ := h
    rw [reach_is ⟨h1, h2, h3, by omega, by omega⟩, listTo_span, choicesZ_span]
    have hf : (canZ b l) = (fun y => canZ b l (y - l)) ∘ (fun x => l + x) := by
      funext x
      simp only [Function.comp, show l + x - l = x by omega]
    have hcap := (Bat.good h1).cap0
    have hcap1 := (Bat.good h1).cap1
    rw [hf, ← List.filter_map, span_map]
    rw [show reachB b l (Int.toNat 1) = fun y => canZ b l (y - l) from funext (reachB_one h2 h3)]
    symm
    refine filter_span (by omega) (by omega) ?_ ?_
    · intro x hx
      rw [← Bool.not_eq_true, canZ_iff]
      have := (Bat.good h1).res0
      omega
    · intro x hx
      rw [← Bool.not_eq_true, canZ_iff]
      omega
  · rw [reach_not (fun g => h ⟨g.1, g.2.1, g.2.2.1⟩), choicesZ_out h]; rfl
theorem mem_reachZ {b : Bat} {l n x : Int} : x ∈ reachZ b l n ↔ (b.ok = true ∧ 0 ≤ l ∧ l ≤ b.cap ∧ 0 ≤ n ∧ n ≤ 96) ∧ 0 ≤ x ∧ x ≤ b.cap ∧ reachB b l n.toNat x = true := by
  by_cases h : b.ok = true ∧ 0 ≤ l ∧ l ≤ b.cap ∧ 0 ≤ n ∧ n ≤ 96
  · rw [reach_is h, listTo_span, List.mem_filter, mem_span]
    have hcap := (Bat.good h.1).cap0
    constructor
    · rintro ⟨⟨h1, h2⟩, h3⟩; exact ⟨h, by omega, by omega, h3⟩
    · rintro ⟨_, h1, h2, h3⟩; exact ⟨⟨by omega, by omega⟩, h3⟩
  · rw [reach_not h]
    simp only [List.not_mem_nil, false_iff]
    exact fun g => h g.1
theorem reach_more {b : Bat} {l n x : Int} (h0 : 0 ≤ n) (h1 : n < 96) (h : x ∈ reachZ b l n) : x ∈ reachZ b l (n + 1) := by
  rw [mem_reachZ] at h ⊢
  obtain ⟨⟨h2, h3, h4, _, _⟩, h5, h6, h7⟩ := h
  refine ⟨⟨h2, h3, h4, by omega, by omega⟩, h5, h6, ?_⟩
  rw [show (n + 1).toNat = n.toNat + 1 by omega, reachB]
  simp only [List.any_eq_true, Bool.and_eq_true, List.mem_range]
  have hg := Bat.good h2
  have := hg.di0; have := hg.ch0
  refine ⟨x.toNat, by omega, ?_, ?_⟩
  · rwa [show ((x.toNat : Nat) : Int) = x by omega]
  · rw [canZ_iff]
    exact ⟨h2, by omega, by omega, by omega, by omega, by omega, by omega⟩
theorem canZ_zero (b : Bat) (l c : Int) : decide (c ∈ choicesZ b l) = ((stepZ b l c).2.2 == 0) := by
  rw [Bool.eq_iff_iff]
  simp [mem_choicesZ, canZ]
end Go.Proofs.Ythoknhbjeddcjaa
