/-
  The arguments of the laws of layer 41 (load) opened: a load, a slice of loads.
-/
import Derived.Test.YtnibhdpgjmdkeaaO1
import Derived.Test.YtnibhdpgjmdkeaaL11
namespace Go.Proofs.Ytnibhdpgjmdkeaa
open Go.Joins Go.ChangeShapes Go.WideShapes Go.RowKit Go.Deep

theorem Try.cellsLoad : Try.prog.cellsOf 24 = 4 := by kernel_rfl
theorem open_load {H : Type} {enc : TypeId × Value → H} {w : World} {base : Nat} {held : Bool} {r : Reach} {b0 : Nat} {v : Value} {d : DataW H} {p : List MemPlace}
    (hv : Value.okWide Try.prog w r b0 24 v) (h : DataW.Trod enc Try.prog w base (fun _ => true) held 24 v d p) :
    ∃ (x : Ld) (A : Option Addr) (c : Nat), v = x.v A c ∧ RInts w A x.prof ∧ x.prof.length ≤ maxLen := by
  obtain ⟨v0, v1, v2, v3, y0, y1, y2, y3, n, rfl, _, _, h0, h1, h2, h3⟩ := open_agg4 Try.underlying24 (by kernel_rfl) Try.cellsLoad hv h
  obtain ⟨x0, rfl, _⟩ := open_str1 h0
  obtain ⟨A, c, xs, rfl, hA, hm, _⟩ := open_rints1 h1
  obtain ⟨x2, rfl, _⟩ := open_int1 h2
  obtain ⟨x3, rfl, _⟩ := open_int1 h3
  exact ⟨⟨x0, xs, x2, x3⟩, A, c, rfl, hA, hm⟩

theorem open_loads1 {H : Type} {enc : TypeId × Value → H} {w : World} {base : Nat} {held : Bool} {n : Nat} {v : Value} {y : DataW H × List MemPlace}
    (h : DataW.trod enc Try.prog w base (fun _ => true) held n 26 [v] = some y) :
    ∃ A c l, v = .slice A l.length c ∧ RLoads w A l ∧ l.length ≤ c ∧ (∀ x ∈ l, x.r.prof.length ≤ maxLen ∧ x.r.name.size ≤ maxLen) := by
  rcases open_slice_fields Try.underlying26 Try.underlying24 (by kernel_rfl) Try.cellsLoad h with ⟨hcs, _⟩ | ⟨a, len, cap, m, D, Pl, hcs, _, hl, hm, hmm, _, hf⟩
  · simp at hcs
    exact ⟨none, 0, [], hcs, ⟨⟨by simp [ldCells], fun h => absurd h (by simp)⟩, by simp⟩, by simp, by simp⟩
  · simp at hcs
    simp only [if_true] at hmm
    subst hmm
    have hx : ∀ i, i < len → ∃ x : LdM, (∀ j, j < 4 → w.cell? (a.add (i * 4 + j)) = x.cells[j]?) ∧ RInts w x.A x.r.prof ∧ x.r.prof.length ≤ maxLen ∧ x.r.name.size ≤ maxLen := by
      intro i hi
      obtain ⟨ys, n', _, _, _, hj⟩ := hf i (by omega)
      obtain ⟨v0, y0, c0, _, t0⟩ := hj 0 _ rfl
      obtain ⟨v1, y1, c1, _, t1⟩ := hj 1 _ rfl
      obtain ⟨v2, y2, c2, _, t2⟩ := hj 2 _ rfl
      obtain ⟨v3, y3, c3, _, t3⟩ := hj 3 _ rfl
      obtain ⟨x0, rfl, hs⟩ := open_str1 t0
      obtain ⟨A, c, xs, rfl, hA, hmx, _⟩ := open_rints1 t1
      obtain ⟨x2, rfl, _⟩ := open_int1 t2
      obtain ⟨x3, rfl, _⟩ := open_int1 t3
      refine ⟨⟨⟨x0, xs, x2, x3⟩, A, c⟩, fun j hj4 => ?_, hA, hmx, hs⟩
      match j, hj4 with
      | 0, _ => exact c0
      | 1, _ => exact c1
      | 2, _ => exact c2
      | 3, _ => exact c3
    obtain ⟨l, hlen, hl2⟩ := list_of hx
    subst hlen
    refine ⟨some a, m, l, hcs, ⟨⟨by rw [ldCells_length], fun hn => ⟨a, rfl, ?_, fun j u hu => ?_⟩⟩, fun x hx => ?_⟩, hl, fun x hx => ?_⟩
    · have := (hl2 0 hn).1 0 (by omega)
      have h1 := World.block_lt_of_cell? _ _ (this.trans (show _ = some (.string (l[0]'hn).r.name) from rfl))
      rwa [block_of_add] at h1
    · have hjl : j < (ldCells l).length := by
        rcases Nat.lt_or_ge j (ldCells l).length with h | h
        · exact h
        · rw [List.getElem?_eq_none h] at hu; cases hu
      rw [ldCells_length] at hjl
      have e : j = j / 4 * 4 + j % 4 := by omega
      have h1 := (hl2 (j / 4) (by omega)).1 (j % 4) (Nat.mod_lt _ (by omega))
      rw [← ldCells_get (by omega) (Nat.mod_lt _ (by omega)), ← e, hu] at h1
      exact h1
    · obtain ⟨i, hi, rfl⟩ := List.mem_iff_getElem.1 hx
      exact (hl2 i hi).2.1
    · obtain ⟨i, hi, rfl⟩ := List.mem_iff_getElem.1 hx
      exact (hl2 i hi).2.2
theorem open_loads {H : Type} {enc : TypeId × Value → H} {w : World} {base : Nat} {held : Bool} {r : Reach} {b0 : Nat} {v : Value} {d : DataW H} {p : List MemPlace}
    (hv : Value.okWide Try.prog w r b0 26 v) (h : DataW.Trod enc Try.prog w base (fun _ => true) held 26 v d p) :
    ∃ A c l, v = .slice A l.length c ∧ RLoads w A l ∧ l.length ≤ c ∧ (∀ x ∈ l, x.r.prof.length ≤ maxLen ∧ x.r.name.size ≤ maxLen) := by
  obtain ⟨a, len, cap, rfl⟩ := okWide_slice Try.underlying26 hv
  obtain ⟨n, hf⟩ := h
  exact open_loads1 hf
theorem Try.cells3 : Try.prog.cellsOf 41 = 3 := by kernel_rfl
theorem open_triple {H : Type} {enc : TypeId × Value → H} {w : World} {base : Nat} {spare : Nat → Bool} {held : Bool} {r : Reach} {b0 : Nat} {v : Value} {d : DataW H} {p : List MemPlace}
    (hv : Value.okWide Try.prog w r b0 41 v) (h : DataW.Trod enc Try.prog w base spare held 41 v d p) :
    ∃ x y z : Int, v = .agg #[.int .i64 x, .int .i64 y, .int .i64 z] ∧ (Lit.int .i64 x).wf = true ∧ (Lit.int .i64 y).wf = true ∧ (Lit.int .i64 z).wf = true := by
  obtain ⟨cs, rfl, hsz, _⟩ : ∃ cs, v = .agg cs ∧ cs.size = Try.prog.cellsOf 41 ∧ Row.okWide Try.prog w r b0 41 cs := by
    simpa [Value.okWide, Try.underlying41] using hv
  rw [Try.cells3] at hsz
  obtain ⟨l⟩ := cs
  match l, hsz with
  | [c0, c1, c2], _ =>
    obtain ⟨fuel, hf⟩ := h
    obtain ⟨xs, m, _, _, _, hl, hel⟩ := DataW.trod_array Try.underlying41 hf
    match xs, hl with
    | [y0, y1, y2], _ =>
      obtain ⟨x0, rfl, wf0⟩ := open_int1 (by simpa [Value.cells, Try.cellsInt] using hel 0 (by omega))
      obtain ⟨x1, rfl, wf1⟩ := open_int1 (by simpa [Value.cells, Try.cellsInt] using hel 1 (by omega))
      obtain ⟨x2, rfl, wf2⟩ := open_int1 (by simpa [Value.cells, Try.cellsInt] using hel 2 (by omega))
      exact ⟨x0, x1, x2, rfl, wf0, wf1, wf2⟩
end Go.Proofs.Ytnibhdpgjmdkeaa
