/-
  The walks of layer 43 (optimum), part 13: the list of a plan, the order of lists.
-/
import Derived.Test.YtnppngaabfhkpaaRU11
namespace Go.Proofs.Ytnppngaabfhkpaa
open Go.RowKit
attribute [local go_sem ↓] Go.wp_at_zero Go.wp_at_succ

/-- The box of a function of one plan. -/
structure QB (y : PnM) (w wr : World) : Prop where
  q : Blk wr w.heap.size 33 y.cs
  bel : Below w.heap.size w wr
theorem QB.start (y : PnM) (w : World) : QB y w (w.alloc (.cells y.cs 33)) := ⟨Blk.new _ _ _, below_al (Below.refl _ _)⟩
theorem QB.below {y : PnM} {w wr w1 : World} (h : QB y w wr) (hb : Below wr.heap.size wr w1) : QB y w w1 := ⟨h.q.below hb h.q.lt, h.bel.trans (hb.mono h.bel.size)⟩
theorem QB.up {y : PnM} {w wr w1 : World} (h : QB y w wr) (hb : Below (w.heap.size + 1) wr w1) : QB y w w1 := ⟨h.q.below hb (by omega), h.bel.trans (hb.mono (by omega))⟩
theorem Pn.zip_take {x : Pn} {k : Nat} (h : x.charge.length = x.heat.length) (hk : k < x.charge.length) : flatM (x.ways.take (k + 1)) = flatM (x.ways.take k) ++ [x.charge.getD k 0, x.heat.getD k 0] := by
  have hl : k < x.ways.length := by unfold Pn.ways; rw [List.length_zip]; omega
  rw [List.take_succ_eq_append_getElem hl]
  unfold flatM
  rw [List.flatMap_append]
  congr 1
  have hk2 : k < x.heat.length := by omega
  simp [Pn.ways, List.getD, hk, hk2]

theorem ltL_drop {a b : List Int} {i : Nat} (h1 : i < a.length) (h2 : i < b.length) : ltL (a.drop i) (b.drop i) = if a.getD i 0 < b.getD i 0 then true else if b.getD i 0 < a.getD i 0 then false else ltL (a.drop (i + 1)) (b.drop (i + 1)) := by
  rw [List.drop_eq_getElem_cons h1, List.drop_eq_getElem_cons h2, getD_eq h1, getD_eq h2]
  rfl
end Go.Proofs.Ytnppngaabfhkpaa

/-
  The walks of layer 43 (optimum), part 14: Better of the program.
-/
namespace Go.Proofs.Ytnppngaabfhkpaa
open Go.RowKit
attribute [local go_sem ↓] Go.wp_at_zero Go.wp_at_succ

/-- The boxes of a function of a problem and two plans. -/
structure B3 (x : PbM) (a b : PnM) (w wr : World) : Prop where
  p : Blk wr w.heap.size 31 x.cs
  a : Blk wr (w.heap.size + 1) 33 a.cs
  b : Blk wr (w.heap.size + 2) 33 b.cs
  bel : Below w.heap.size w wr
theorem B3.start (x : PbM) (a b : PnM) (w : World) : B3 x a b w (((w.alloc (.cells x.cs 31)).alloc (.cells a.cs 33)).alloc (.cells b.cs 33)) := by
  obtain ⟨h1, h2, h3, h4⟩ := two_boxes (w := w) (cs := x.cs) (t := 31) (cs2 := a.cs) (t2 := 33) (Below.refl _ _)
  have h5 : Below w.heap.size w ((w.alloc (.cells x.cs 31)).alloc (.cells a.cs 33)) := h4
  generalize hW : (w.alloc (.cells x.cs 31)).alloc (.cells a.cs 33) = W at *
  have hs : W.heap.size = w.heap.size + 2 := by rw [← hW]; simp
  have h6 := Blk.new W 33 b.cs
  rw [hs] at h6
  have hb : Below W.heap.size W (W.alloc (.cells b.cs 33)) := below_al (Below.refl _ _)
  exact ⟨h1.below hb h1.lt, h2.below hb h2.lt, h6, h5.trans (hb.mono h5.size)⟩
theorem B3.below {x : PbM} {a b : PnM} {w wr w1 : World} (h : B3 x a b w wr) (hb : Below wr.heap.size wr w1) : B3 x a b w w1 := ⟨h.p.below hb h.p.lt, h.a.below hb h.a.lt, h.b.below hb h.b.lt, h.bel.trans (hb.mono h.bel.size)⟩
theorem B3.pr {x : PbM} {a b : PnM} {w wr : World} (h : B3 x a b w wr) (hP : RPb w x) : RPb wr x := hP.below h.bel
theorem Pb.err_sized {p : Pb} {x : Pn} (h : p.err x = 0) : p.chk = 0 ∧ x.charge.length = p.n ∧ x.heat.length = p.n ∧ x.start.length = p.loads.length := by
  have hc : p.chk = 0 := Classical.byContradiction fun q => by rw [(Pb.err_chk (x := x) q).1] at h; exact q h
  have hf : p.form x = 0 := Classical.byContradiction fun q => by rw [(Pb.err_form hc q).1] at h; exact q h
  have h3 := (Pb.form_good hf).1
  simp only [Pb.sized, decide_eq_true_eq] at h3
  exact ⟨hc, h3⟩

end Go.Proofs.Ytnppngaabfhkpaa
