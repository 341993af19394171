/-
  A slice of numbers among a law's arguments: the list that it reads as.
-/
import Derived.Test.YthoknhbjeddcjaaBM
import Derived.Test.Ythoknhbjeddcjaa1Words
namespace Go.Proofs.Ythoknhbjeddcjaa
open Go.Joins Go.ChangeShapes Go.WideShapes Go.RowKit Go.Deep

theorem Try.cellsInt : Try.prog.cellsOf 3 = 1 := by kernel_rfl
theorem open_rints1 {H : Type} {enc : TypeId × Value → H} {w : World} {base : Nat} {held : Bool} {n : Nat} {v : Value} {y : DataW H × List MemPlace}
    (h : DataW.trod enc Try.prog w base (fun _ => true) held n 31 [v] = some y) :
    ∃ A c xs, v = .slice A xs.length c ∧ RInts w A xs ∧ xs.length ≤ maxLen ∧ (∀ x ∈ xs, (Lit.int .i64 x).wf = true) := by
  rcases open_ints Try.underlying31 Try.underlying3 Try.cellsInt h with ⟨hcs, _⟩ | ⟨a, len, cap, zs, hcs, _, hl, hm, hz, _, hcell, hwz⟩
  · simp at hcs
    exact ⟨none, 0, [], hcs, RInts.nil, by simp, by simp⟩
  · simp at hcs
    simp only [if_true] at hz
    have hlen : (zs.take len).length = len := by rw [List.length_take]; omega
    refine ⟨some a, cap, zs.take len, by rw [hlen]; exact hcs, ?_, by rw [hlen]; omega, fun x hx => hwz x (List.mem_of_mem_take hx)⟩
    refine ⟨by rw [ints_length, Nat.mul_one], fun hn => ⟨a, rfl, ?_, fun j u hu => ?_⟩⟩
    · have := World.block_lt_of_cell? _ _ (hcell 0 (by omega))
      rwa [block_of_add] at this
    · obtain ⟨x, hx, rfl⟩ := ints_get hu
      rw [List.getElem?_take] at hx
      split at hx
      · rw [hcell j (by obtain ⟨h1, _⟩ := List.getElem?_eq_some_iff.1 hx; exact h1)]
        simp [hx]
      · cases hx
theorem open_rints {H : Type} {enc : TypeId × Value → H} {w : World} {base : Nat} {held : Bool} {r : Reach} {b0 : Nat} {v : Value} {d : DataW H} {p : List MemPlace}
    (hv : Value.okWide Try.prog w r b0 31 v) (h : DataW.Trod enc Try.prog w base (fun _ => true) held 31 v d p) :
    ∃ A c xs, v = .slice A xs.length c ∧ RInts w A xs ∧ xs.length ≤ maxLen ∧ (∀ x ∈ xs, (Lit.int .i64 x).wf = true) := by
  obtain ⟨a, len, cap, rfl⟩ := okWide_slice Try.underlying31 hv
  obtain ⟨n, hf⟩ := h
  exact open_rints1 hf
theorem int_bd {x : Int} (h : (Lit.int .i64 x).wf = true) : -9223372036854775808 ≤ x ∧ x ≤ 9223372036854775807 := by
  simp [Lit.wf, IntKind.min, IntKind.max, IntKind.signed, IntKind.bits] at h
  exact h
end Go.Proofs.Ythoknhbjeddcjaa
