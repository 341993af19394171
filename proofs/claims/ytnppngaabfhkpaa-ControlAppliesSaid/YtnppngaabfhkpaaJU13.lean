/-
  The walks of layer 43 (optimum), part 13: the list of a plan, the order of lists.
-/
import Derived.Test.YtnppngaabfhkpaaJU11
namespace Go.Proofs.Ytnppngaabfhkpaa
open Go.RowKit
attribute [local go_sem ↓] Go.wp_at_zero Go.wp_at_succ
structure QB (y : PnM) (w wr : World) : Prop where
  q : Blk wr w.heap.size 33 y.cs
  bel : Below w.heap.size w wr
theorem QB.start (y : PnM) (w : World) : QB y w (w.alloc (.cells y.cs 33)) := ⟨Blk.new _ _ _, below_al (Below.refl _ _)⟩
theorem QB.below {y : PnM} {w wr w1 : World} (h : QB y w wr) (hb : Below wr.heap.size wr w1) : QB y w w1 := ⟨h.q.below hb h.q.lt, h.bel.trans (hb.mono h.bel.size)⟩
end Go.Proofs.Ytnppngaabfhkpaa
namespace Go.Proofs.Ytnppngaabfhkpaa
open Go.RowKit
attribute [local go_sem ↓] Go.wp_at_zero Go.wp_at_succ
structure B3 (x : PbM) (a b : PnM) (w wr : World) : Prop where
  p : Blk wr w.heap.size 31 x.cs
  a : Blk wr (w.heap.size + 1) 33 a.cs
  b : Blk wr (w.heap.size + 2) 33 b.cs
  bel : Below w.heap.size w wr
theorem B3.start (x : PbM) (a b : PnM) (w : World) : B3 x a b w (((w.alloc (.cells x.cs 31)).alloc (.cells a.cs 33)).alloc (.cells b.cs 33)) := by
  obtain ⟨h1, h2, h3, h4⟩ := two_boxes (w := w) (cs := x.cs) (t := 31) (cs2 := a.cs) (t2 := 33) (Below.refl _ _)
  have h5 : Below w.heap.size w ((w.alloc (.cells x.cs 31)).alloc (.cells a.cs 33)) := h4
  generalize hW : (w.alloc (.cells x.cs 31)).alloc (.cells a.cs 33) = W at *
  have hs : W.heap.size = w.heap.size + 2 := by rw [← hW]; simp
  have h6 := Blk.new W 33 b.cs
  rw [hs] at h6
  have hb : Below W.heap.size W (W.alloc (.cells b.cs 33)) := below_al (Below.refl _ _)
  exact ⟨h1.below hb h1.lt, h2.below hb h2.lt, h6, h5.trans (hb.mono h5.size)⟩
theorem B3.below {x : PbM} {a b : PnM} {w wr w1 : World} (h : B3 x a b w wr) (hb : Below wr.heap.size wr w1) : B3 x a b w w1 := ⟨h.p.below hb h.p.lt, h.a.below hb h.a.lt, h.b.below hb h.b.lt, h.bel.trans (hb.mono h.bel.size)⟩
theorem B3.pr {x : PbM} {a b : PnM} {w wr : World} (h : B3 x a b w wr) (hP : RPb w x) : RPb wr x := hP.below h.bel
end Go.Proofs.Ytnppngaabfhkpaa
