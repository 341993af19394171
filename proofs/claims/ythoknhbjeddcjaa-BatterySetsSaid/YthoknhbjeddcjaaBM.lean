/-
  A battery among a law's arguments: its five numbers.
-/
import Derived.Test.Ythoknhbjeddcjaa3Open
import Derived.Test.YthoknhbjeddcjaaBPlain
namespace Go.Proofs.Ythoknhbjeddcjaa
open Go.Joins Go.ChangeShapes Go.WideShapes Go.RowKit Go.Deep

theorem Try.cellsBat : Try.prog.cellsOf 23 = 5 := by kernel_rfl
theorem open_int1 {H : Type} {enc : TypeId × Value → H} {w : World} {base : Nat} {spare : Nat → Bool} {held : Bool} {n : Nat} {v : Value} {y : DataW H × List MemPlace}
    (h : DataW.trod enc Try.prog w base spare held n 3 [v] = some y) : ∃ x : Int, v = .int .i64 x ∧ (Lit.int .i64 x).wf = true := by
  obtain ⟨a, e0, _, wa⟩ := DataW.trod_int Try.underlying3 h
  simp at e0
  exact ⟨a, e0, wa⟩
theorem open_bat {H : Type} {enc : TypeId × Value → H} {w : World} {base : Nat} {spare : Nat → Bool} {held : Bool} {r : Reach} {b0 : Nat} {v : Value} {d : DataW H} {p : List MemPlace}
    (hv : Value.okWide Try.prog w r b0 23 v) (h : DataW.Trod enc Try.prog w base spare held 23 v d p) : ∃ b : Bat, v = b.v := by
  obtain ⟨v0, v1, v2, v3, v4, y0, y1, y2, y3, y4, n, rfl, _, _, h0, h1, h2, h3, h4⟩ := open_agg5 Try.underlying23 (by kernel_rfl) Try.cellsBat hv h
  obtain ⟨x0, rfl, _⟩ := open_int1 h0
  obtain ⟨x1, rfl, _⟩ := open_int1 h1
  obtain ⟨x2, rfl, _⟩ := open_int1 h2
  obtain ⟨x3, rfl, _⟩ := open_int1 h3
  obtain ⟨x4, rfl, _⟩ := open_int1 h4
  exact ⟨⟨x0, x1, x2, x3, x4⟩, rfl⟩
end Go.Proofs.Ythoknhbjeddcjaa
