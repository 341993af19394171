/-
  The arguments of the laws of layer 8 (addr) opened: an identifier, a slice of claims.
-/
import Derived.Test.YtgflklgjjpokaaaO1
import Derived.Test.YtgflklgjjpokaaaA6
namespace Go.Proofs.Ytgflklgjjpokaaa
open Go.Joins Go.ChangeShapes Go.WideShapes Go.RowKit Go.Deep

theorem u64_bd {x : Int} (h : (Lit.int .u64 x).wf = true) : 0 ≤ x ∧ x < 18446744073709551616 := by
  simp [Lit.wf, IntKind.min, IntKind.max, IntKind.signed, IntKind.bits] at h
  omega
theorem open_u641 {H : Type} {enc : TypeId × Value → H} {w : World} {base : Nat} {spare : Nat → Bool} {held : Bool} {n : Nat} {v : Value} {y : DataW H × List MemPlace}
    (h : DataW.trod enc Try.prog w base spare held n 22 [v] = some y) : ∃ x : Int, v = .int .u64 x ∧ (Lit.int .u64 x).wf = true := by
  obtain ⟨a, e0, _, wa⟩ := DataW.trod_int Try.underlying22 h
  simp at e0
  exact ⟨a, e0, wa⟩
theorem Try.cellsClaim : Try.prog.cellsOf 40 = 3 := by kernel_rfl
theorem open_cls {H : Type} {enc : TypeId × Value → H} {w : World} {base : Nat} {held : Bool} {r : Reach} {b0 : Nat} {v : Value} {d : DataW H} {p : List MemPlace}
    (hv : Value.okWide Try.prog w r b0 29 v) (h0 : DataW.Trod enc Try.prog w base (fun _ => true) held 29 v d p) :
    ∃ A c l, v = .slice A l.length c ∧ RCls w A l ∧ l.length ≤ c ∧ c ≤ maxLen ∧ ∀ x ∈ l, x.Wf := by
  obtain ⟨a0, len0, cap0, rfl⟩ := okWide_slice Try.underlying29 hv
  obtain ⟨n, h⟩ := h0
  rcases open_slice_fields Try.underlying29 Try.underlying40 (by kernel_rfl) Try.cellsClaim h with ⟨hcs, _⟩ | ⟨a, len, cap, m, D, Pl, hcs, _, hl, hm, hmm, _, hf⟩
  · simp [Value.cells] at hcs
    obtain ⟨h1, h2, h3⟩ := hcs
    subst h1 h2 h3
    exact ⟨none, 0, [], rfl, RCls.nil, by simp, by unfold maxLen; omega, by simp⟩
  · simp [Value.cells] at hcs
    obtain ⟨h1, h2, h3⟩ := hcs
    subst h1 h2 h3
    simp only [if_true] at hmm
    subst hmm
    have hx : ∀ i, i < len0 → ∃ x : Cl, (∀ j, j < 3 → w.cell? (a.add (i * 3 + j)) = x.cells[j]?) ∧ x.Wf := by
      intro i hi
      obtain ⟨ys, n', _, _, _, hj⟩ := hf i (by omega)
      obtain ⟨v0, y0, c0, _, t0⟩ := hj 0 _ rfl
      obtain ⟨v1, y1, c1, _, t1⟩ := hj 1 _ rfl
      obtain ⟨v2, y2, c2, _, t2⟩ := hj 2 _ rfl
      obtain ⟨x0, rfl, w0⟩ := open_u641 t0
      obtain ⟨x1, rfl, w1⟩ := open_int1 t1
      obtain ⟨x2, rfl, w2⟩ := open_int1 t2
      refine ⟨⟨x0, x1, x2⟩, fun j hj3 => ?_, ⟨(u64_bd w0).1, (u64_bd w0).2, (int_bd w1).1, (int_bd w1).2, (int_bd w2).1, (int_bd w2).2⟩⟩
      match j, hj3 with
      | 0, _ => exact c0
      | 1, _ => exact c1
      | 2, _ => exact c2
    obtain ⟨l, hlen, hl2⟩ := list_of hx
    subst hlen
    refine ⟨some a, m, l, rfl, ⟨by rw [clCells_length], fun hn => ⟨a, rfl, ?_, fun j u hu => ?_⟩⟩, hl, hm, fun x hx => ?_⟩
    · have := (hl2 0 hn).1 0 (by omega)
      have h1 := World.block_lt_of_cell? _ _ (this.trans (show _ = some (.int .u64 (l[0]'hn).eui) from rfl))
      rwa [block_of_add] at h1
    · have hjl : j < (clCells l).length := by
        rcases Nat.lt_or_ge j (clCells l).length with h | h
        · exact h
        · rw [List.getElem?_eq_none h] at hu; cases hu
      rw [clCells_length] at hjl
      have e : j = j / 3 * 3 + j % 3 := by omega
      have h1 := (hl2 (j / 3) (by omega)).1 (j % 3) (Nat.mod_lt _ (by omega))
      rw [← clCells_get (by omega) (Nat.mod_lt _ (by omega)), ← e, hu] at h1
      exact h1
    · obtain ⟨i, hi, rfl⟩ := List.mem_iff_getElem.1 hx
      exact (hl2 i hi).2
end Go.Proofs.Ytgflklgjjpokaaa
