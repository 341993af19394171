/-
  More words on memory: boxes of parameters and results behind a call.
-/
import Derived.Test.Ytgflklgjjpokaaa1Words
namespace Go.Proofs.Ytgflklgjjpokaaa
open Go.RowKit

/-- A new block, known whole, behind a call. -/
theorem one_box {w w1 : World} {cs : Array Value} {t : TypeId} (hb : Below (w.alloc (.cells cs t)).heap.size (w.alloc (.cells cs t)) w1) :
    Blk w1 w.heap.size t cs ∧ w.heap.size < w1.heap.size ∧ Below w.heap.size w w1 := by
  have h := (Blk.new w t cs).below hb (by simp)
  exact ⟨h, h.lt, ((Below.refl _ _).alloc (Nat.le_refl _) _).trans (hb.mono (by simp))⟩
/-- Two new blocks, known whole, behind a call. -/
theorem two_boxes {w w1 : World} {cs cs2 : Array Value} {t t2 : TypeId} (hb : Below ((w.alloc (.cells cs t)).alloc (.cells cs2 t2)).heap.size ((w.alloc (.cells cs t)).alloc (.cells cs2 t2)) w1) :
    Blk w1 w.heap.size t cs ∧ Blk w1 (w.heap.size + 1) t2 cs2 ∧ w.heap.size + 1 < w1.heap.size ∧ Below w.heap.size w w1 := by
  have h1 := ((Blk.new w t cs).alloc (.cells cs2 t2)).below hb (by simp; omega)
  have h2 := (Blk.new (w.alloc (.cells cs t)) t2 cs2).below hb (by simp)
  simp only [World.size_alloc] at h2
  exact ⟨h1, h2, h2.lt, (((Below.refl _ _).alloc (Nat.le_refl _) _).alloc (by simp) _).trans (hb.mono (by simp; omega))⟩
/-- Three new blocks, known whole, behind a call. -/
theorem three_boxes {w w1 : World} {cs cs2 cs3 : Array Value} {t t2 t3 : TypeId} (hb : Below (((w.alloc (.cells cs t)).alloc (.cells cs2 t2)).alloc (.cells cs3 t3)).heap.size (((w.alloc (.cells cs t)).alloc (.cells cs2 t2)).alloc (.cells cs3 t3)) w1) :
    Blk w1 w.heap.size t cs ∧ Blk w1 (w.heap.size + 1) t2 cs2 ∧ Blk w1 (w.heap.size + 2) t3 cs3 ∧ w.heap.size + 2 < w1.heap.size ∧ Below w.heap.size w w1 := by
  have h1 := (((Blk.new w t cs).alloc (.cells cs2 t2)).alloc (.cells cs3 t3)).below hb (by simp; omega)
  have h2 := ((Blk.new (w.alloc (.cells cs t)) t2 cs2).alloc (.cells cs3 t3)).below hb (by simp)
  have h3 := (Blk.new ((w.alloc (.cells cs t)).alloc (.cells cs2 t2)) t3 cs3).below hb (by simp)
  simp only [World.size_alloc] at h2 h3
  exact ⟨h1, h2, h3, h3.lt, ((((Below.refl _ _).alloc (Nat.le_refl _) _).alloc (by simp) _).alloc (by simp; omega) _).trans (hb.mono (by simp; omega))⟩
theorem RInts.setFar {w : World} {A : Option Addr} {l : List Int} {p : Addr} (h : RInts w A l) (hne : ∀ ad, A = some ad → ad.block ≠ p.block) (u : Value) : RInts (w.setCell p u) A l := by
  refine ⟨h.1, fun hn => ?_⟩
  obtain ⟨ad, e, hb, hc⟩ := h.2 hn
  refine ⟨ad, e, by simpa [World.setCell] using hb, fun j v hv => ?_⟩
  rw [World.cell?_setCell_other w p (ad.add j) u (fun e' => hne ad e (by rw [← block_of_add ad j, e']))]
  exact hc j v hv
end Go.Proofs.Ytgflklgjjpokaaa
