/-
  The walks of layer 42 (plan), part 8: Run of the reference.
-/
import Derived.Test.YtnppngaabfhkpaaJP11
namespace Go.Proofs.Ytnppngaabfhkpaa
open Go.RowKit
attribute [local go_sem ↓] Go.wp_at_zero Go.wp_at_succ
structure RY (x : PbM) (y : PnM) (w wr : World) (cs : Array Value) : Prop where
  px : PX x y w wr
  t : Blk wr (w.heap.size + 2) 47 cs
section
variable {x : PbM} {y : PnM} {w wr w1 : World} {cs : Array Value}
theorem RY.lt (h : RY x y w wr cs) : w.heap.size + 3 ≤ wr.heap.size := h.t.lt
theorem RY.above {B : Nat} (h : RY x y w wr cs) (hb : Below B wr w1) (hB : w.heap.size + 3 ≤ B) : RY x y w w1 cs :=
  ⟨h.px.above hb (by omega), h.t.below hb (by omega)⟩
theorem RY.below (h : RY x y w wr cs) (hb : Below wr.heap.size wr w1) : RY x y w w1 cs := h.above hb h.lt
theorem RY.drewN (h : RY x y w wr cs) (n : Nat) : RY x y w (wr.drewN n) cs := h.below (below_drewN (Below.refl _ _) n)
theorem RY.alloc (h : RY x y w wr cs) (o : Obj) : RY x y w (wr.alloc o) cs := h.below ((Below.refl _ _).alloc (Nat.le_refl _) _)
theorem RY.setFar (h : RY x y w wr cs) {p : Addr} (hp : w.heap.size + 3 ≤ p.block) (v : Value) : RY x y w (wr.setCell p v) cs :=
  ⟨h.px.above ((Below.refl (w.heap.size + 2) wr).setCell (by omega) _) (Nat.le_refl _), h.t.far (by omega) _⟩
theorem RY.frozen (h : RY x y w wr cs) : wr.frozen? ⟨w.heap.size + 2, 0, none⟩ = false ∧ wr.frozen? ⟨w.heap.size + 2, 1, none⟩ = false ∧ wr.frozen? ⟨w.heap.size + 2, 2, none⟩ = false ∧ wr.frozen? ⟨w.heap.size + 2, 3, none⟩ = false :=
  ⟨h.t.frozen 0, h.t.frozen 1, h.t.frozen 2, h.t.frozen 3⟩
theorem RY.cells {a b c d : Value} (h : RY x y w wr #[a, b, c, d]) : wr.cell? ⟨w.heap.size + 2, 0, none⟩ = some a ∧ wr.cell? ⟨w.heap.size + 2, 1, none⟩ = some b ∧ wr.cell? ⟨w.heap.size + 2, 2, none⟩ = some c ∧ wr.cell? ⟨w.heap.size + 2, 3, none⟩ = some d :=
  ⟨h.t.cell 0, h.t.cell 1, h.t.cell 2, h.t.cell 3⟩
end
theorem RY.start (x : PbM) (y : PnM) (w : World) (cs : Array Value) : RY x y w (((w.alloc (.cells x.cs 31)).alloc (.cells y.cs 33)).alloc (.cells cs 47)) cs := by
  have hp := PX.start x y w
  generalize hW : (w.alloc (.cells x.cs 31)).alloc (.cells y.cs 33) = W at *
  have hs : W.heap.size = w.heap.size + 2 := by rw [← hW]; simp
  have h1 := Blk.new W 47 cs
  rw [hs] at h1
  exact ⟨hp.alloc _, h1⟩
end Go.Proofs.Ytnppngaabfhkpaa
