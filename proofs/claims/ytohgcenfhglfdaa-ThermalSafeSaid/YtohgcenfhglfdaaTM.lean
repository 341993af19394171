/-
  The arguments of the laws of layer 40 (thermal) opened: a room (six one-cell fields, two of them lists), an array of two or three numbers. open_agg6 after the kit's page extra-structs.
-/
import Derived.Test.Ytohgcenfhglfdaa2Lift
import Derived.Test.Ytohgcenfhglfdaa1Words
import Derived.Test.YtohgcenfhglfdaaTPlain
import Derived.OpenShut
namespace Go.Proofs.Ytohgcenfhglfdaa
open Go.Joins Go.ChangeShapes Go.WideShapes Go.RowKit Go.Deep

section
variable {H : Type} {enc : TypeId × Value → H} {P : Program} {w : World} {base : Nat} {spare : Nat → Bool} {held : Bool}
theorem open_agg6 {r : Reach} {b0 : Nat} {t : TypeId} {f0 f1 f2 f3 f4 f5 : Field} {v : Value} {d : DataW H} {p : List MemPlace} (hs : P.underlying t = some (.struct #[f0, f1, f2, f3, f4, f5])) (hone : oneCellFields P #[f0, f1, f2, f3, f4, f5] = true) (hC : P.cellsOf t = 6)
    (hv : Value.okWide P w r b0 t v) (h : DataW.Trod enc P w base spare held t v d p) :
    ∃ (v0 v1 v2 v3 v4 v5 : Value) (y0 y1 y2 y3 y4 y5 : DataW H × List MemPlace) (n : Nat), v = .agg #[v0, v1, v2, v3, v4, v5] ∧ d = .agg [y0.1, y1.1, y2.1, y3.1, y4.1, y5.1] ∧ p = y0.2 ++ (y1.2 ++ (y2.2 ++ (y3.2 ++ (y4.2 ++ y5.2)))) ∧
      DataW.trod enc P w base spare held n f0.type [v0] = some y0 ∧ DataW.trod enc P w base spare held n f1.type [v1] = some y1 ∧ DataW.trod enc P w base spare held n f2.type [v2] = some y2 ∧ DataW.trod enc P w base spare held n f3.type [v3] = some y3 ∧ DataW.trod enc P w base spare held n f4.type [v4] = some y4 ∧ DataW.trod enc P w base spare held n f5.type [v5] = some y5 := by
  obtain ⟨cs, rfl, hsz⟩ := okWide_struct hs hv
  obtain ⟨l⟩ := cs
  match l, hsz.trans hC with
  | [c0, c1, c2, c3, c4, c5], _ =>
    obtain ⟨fuel, hf⟩ := h
    obtain ⟨xs, n, _, hx, _, hlen, hg⟩ := DataW.trod_struct hs hf
    obtain ⟨o0, k0⟩ := hone_of hone 0 f0 rfl
    obtain ⟨o1, k1⟩ := hone_of hone 1 f1 rfl
    obtain ⟨o2, k2⟩ := hone_of hone 2 f2 rfl
    obtain ⟨o3, k3⟩ := hone_of hone 3 f3 rfl
    obtain ⟨o4, k4⟩ := hone_of hone 4 f4 rfl
    obtain ⟨o5, k5⟩ := hone_of hone 5 f5 rfl
    match xs, hlen with
    | [y0, y1, y2, y3, y4, y5], _ =>
      simp only [Prod.mk.injEq] at hx
      exact ⟨c0, c1, c2, c3, c4, c5, y0, y1, y2, y3, y4, y5, n, rfl, by simpa using hx.1, by simpa using hx.2, by simpa [Value.cells, o0, k0] using hg 0 f0 rfl, by simpa [Value.cells, o1, k1] using hg 1 f1 rfl, by simpa [Value.cells, o2, k2] using hg 2 f2 rfl, by simpa [Value.cells, o3, k3] using hg 3 f3 rfl, by simpa [Value.cells, o4, k4] using hg 4 f4 rfl, by simpa [Value.cells, o5, k5] using hg 5 f5 rfl⟩
end

theorem open_int1 {H : Type} {enc : TypeId × Value → H} {w : World} {base : Nat} {spare : Nat → Bool} {held : Bool} {n : Nat} {v : Value} {y : DataW H × List MemPlace}
    (h : DataW.trod enc Try.prog w base spare held n 3 [v] = some y) : ∃ x : Int, v = .int .i64 x ∧ (Lit.int .i64 x).wf = true := by
  obtain ⟨a, e0, _, wa⟩ := DataW.trod_int Try.underlying3 h
  simp at e0
  exact ⟨a, e0, wa⟩
theorem Try.cellsInt : Try.prog.cellsOf 3 = 1 := by kernel_rfl
theorem open_rints1 {H : Type} {enc : TypeId × Value → H} {w : World} {base : Nat} {held : Bool} {n : Nat} {v : Value} {y : DataW H × List MemPlace}
    (h : DataW.trod enc Try.prog w base (fun _ => true) held n 22 [v] = some y) :
    ∃ A c xs, v = .slice A xs.length c ∧ RInts w A xs ∧ xs.length ≤ maxLen ∧ (∀ x ∈ xs, (Lit.int .i64 x).wf = true) := by
  rcases open_ints Try.underlying22 Try.underlying3 Try.cellsInt h with ⟨hcs, _⟩ | ⟨a, len, cap, zs, hcs, _, hl, hm, hz, _, hcell, hwz⟩
  · simp at hcs
    exact ⟨none, 0, [], hcs, RInts.nil, by simp, by simp⟩
  · simp at hcs
    simp only [if_true] at hz
    have hlen : (zs.take len).length = len := by rw [List.length_take]; omega
    refine ⟨some a, cap, zs.take len, by rw [hlen]; exact hcs, ?_, by rw [hlen]; omega, fun x hx => hwz x (List.mem_of_mem_take hx)⟩
    refine ⟨by rw [ints_length, Nat.mul_one], fun hn => ⟨a, rfl, ?_, fun j u hu => ?_⟩⟩
    · have := World.block_lt_of_cell? _ _ (hcell 0 (by omega))
      rwa [block_of_add] at this
    · obtain ⟨x, hx, rfl⟩ := ints_get hu
      rw [List.getElem?_take] at hx
      split at hx
      · rw [hcell j (by obtain ⟨h1, _⟩ := List.getElem?_eq_some_iff.1 hx; exact h1)]
        simp [hx]
      · cases hx
theorem open_rints {H : Type} {enc : TypeId × Value → H} {w : World} {base : Nat} {held : Bool} {r : Reach} {b0 : Nat} {v : Value} {d : DataW H} {p : List MemPlace}
    (hv : Value.okWide Try.prog w r b0 22 v) (h : DataW.Trod enc Try.prog w base (fun _ => true) held 22 v d p) :
    ∃ A c xs, v = .slice A xs.length c ∧ RInts w A xs ∧ xs.length ≤ maxLen ∧ (∀ x ∈ xs, (Lit.int .i64 x).wf = true) := by
  obtain ⟨a, len, cap, rfl⟩ := okWide_slice Try.underlying22 hv
  obtain ⟨n, hf⟩ := h
  exact open_rints1 hf
theorem int_bd {x : Int} (h : (Lit.int .i64 x).wf = true) : -9223372036854775808 ≤ x ∧ x ≤ 9223372036854775807 := by
  simp [Lit.wf, IntKind.min, IntKind.max, IntKind.signed, IntKind.bits] at h
  exact h
theorem Try.cellsRoom : Try.prog.cellsOf 24 = 6 := by kernel_rfl
theorem open_room {H : Type} {enc : TypeId × Value → H} {w : World} {base : Nat} {held : Bool} {r : Reach} {b0 : Nat} {v : Value} {d : DataW H} {p : List MemPlace}
    (hv : Value.okWide Try.prog w r b0 24 v) (h : DataW.Trod enc Try.prog w base (fun _ => true) held 24 v d p) :
    ∃ (x : Rm) (A B : Option Addr) (c d : Nat), v = x.v A c B d ∧ RInts w A x.low ∧ RInts w B x.high ∧ x.low.length ≤ maxLen ∧ x.high.length ≤ maxLen := by
  obtain ⟨v0, v1, v2, v3, v4, v5, y0, y1, y2, y3, y4, y5, n, rfl, _, _, h0, h1, h2, h3, h4, h5⟩ := open_agg6 Try.underlying24 (by kernel_rfl) Try.cellsRoom hv h
  obtain ⟨x0, rfl, _⟩ := open_int1 h0
  obtain ⟨x1, rfl, _⟩ := open_int1 h1
  obtain ⟨x2, rfl, _⟩ := open_int1 h2
  obtain ⟨x3, rfl, _⟩ := open_int1 h3
  obtain ⟨A, c, xs, rfl, hA, hm, _⟩ := open_rints1 h4
  obtain ⟨B, d, ys, rfl, hB, hn, _⟩ := open_rints1 h5
  exact ⟨⟨x0, x1, x2, x3, xs, ys⟩, A, B, c, d, rfl, hA, hB, hm, hn⟩
theorem Try.cells2 : Try.prog.cellsOf 30 = 2 := by kernel_rfl
theorem Try.cells3 : Try.prog.cellsOf 38 = 3 := by kernel_rfl
theorem open_pair {H : Type} {enc : TypeId × Value → H} {w : World} {base : Nat} {spare : Nat → Bool} {held : Bool} {r : Reach} {b0 : Nat} {v : Value} {d : DataW H} {p : List MemPlace}
    (hv : Value.okWide Try.prog w r b0 30 v) (h : DataW.Trod enc Try.prog w base spare held 30 v d p) :
    ∃ x y : Int, v = .agg #[.int .i64 x, .int .i64 y] ∧ (Lit.int .i64 x).wf = true ∧ (Lit.int .i64 y).wf = true := by
  obtain ⟨cs, rfl, hsz, _⟩ : ∃ cs, v = .agg cs ∧ cs.size = Try.prog.cellsOf 30 ∧ Row.okWide Try.prog w r b0 30 cs := by
    simpa [Value.okWide, Try.underlying30] using hv
  rw [Try.cells2] at hsz
  obtain ⟨l⟩ := cs
  match l, hsz with
  | [c0, c1], _ =>
    obtain ⟨fuel, hf⟩ := h
    obtain ⟨xs, m, _, _, _, hl, hel⟩ := DataW.trod_array Try.underlying30 hf
    match xs, hl with
    | [y0, y1], _ =>
      obtain ⟨x0, rfl, wf0⟩ := open_int1 (by simpa [Value.cells, Try.cellsInt] using hel 0 (by omega))
      obtain ⟨x1, rfl, wf1⟩ := open_int1 (by simpa [Value.cells, Try.cellsInt] using hel 1 (by omega))
      exact ⟨x0, x1, rfl, wf0, wf1⟩
theorem open_triple {H : Type} {enc : TypeId × Value → H} {w : World} {base : Nat} {spare : Nat → Bool} {held : Bool} {r : Reach} {b0 : Nat} {v : Value} {d : DataW H} {p : List MemPlace}
    (hv : Value.okWide Try.prog w r b0 38 v) (h : DataW.Trod enc Try.prog w base spare held 38 v d p) :
    ∃ x y z : Int, v = .agg #[.int .i64 x, .int .i64 y, .int .i64 z] ∧ (Lit.int .i64 x).wf = true ∧ (Lit.int .i64 y).wf = true ∧ (Lit.int .i64 z).wf = true := by
  obtain ⟨cs, rfl, hsz, _⟩ : ∃ cs, v = .agg cs ∧ cs.size = Try.prog.cellsOf 38 ∧ Row.okWide Try.prog w r b0 38 cs := by
    simpa [Value.okWide, Try.underlying38] using hv
  rw [Try.cells3] at hsz
  obtain ⟨l⟩ := cs
  match l, hsz with
  | [c0, c1, c2], _ =>
    obtain ⟨fuel, hf⟩ := h
    obtain ⟨xs, m, _, _, _, hl, hel⟩ := DataW.trod_array Try.underlying38 hf
    match xs, hl with
    | [y0, y1, y2], _ =>
      obtain ⟨x0, rfl, wf0⟩ := open_int1 (by simpa [Value.cells, Try.cellsInt] using hel 0 (by omega))
      obtain ⟨x1, rfl, wf1⟩ := open_int1 (by simpa [Value.cells, Try.cellsInt] using hel 1 (by omega))
      obtain ⟨x2, rfl, wf2⟩ := open_int1 (by simpa [Value.cells, Try.cellsInt] using hel 2 (by omega))
      exact ⟨x0, x1, x2, rfl, wf0, wf1, wf2⟩
end Go.Proofs.Ytohgcenfhglfdaa
