/-
  The walks of layer 43 (optimum), part 11: Best whole, Cost.
-/
import Derived.Test.YtnppngaabfhkpaaJU10
namespace Go.Proofs.Ytnppngaabfhkpaa
open Go.RowKit
attribute [local go_sem ↓] Go.wp_at_zero Go.wp_at_succ
theorem best_any (x : PbM) (w : World) (hP : RPb w x) (hF : x.Fit) : Calls Try.prog 19 #[x.v] w (BestOut x.p.best x.p.bestE w) := by
  by_cases hc : x.p.chk = 0
  · cases hl : x.p.lim with
    | true => exact best_run x w hP hF hc hl
    | false => exact best_bad x w hP hF (.inr hl)
  · exact best_bad x w hP hF (.inl hc)
def Pb.oc (p : Pb) : Int := if p.bestE = 0 then (p.trace p.best).cost else 0
structure PB (x : PbM) (w wr : World) : Prop where
  p : Blk wr w.heap.size 31 x.cs
  bel : Below w.heap.size w wr
theorem PB.start (x : PbM) (w : World) : PB x w (w.alloc (.cells x.cs 31)) := ⟨Blk.new _ _ _, below_al (Below.refl _ _)⟩
theorem PB.below {x : PbM} {w wr w1 : World} (h : PB x w wr) (hb : Below wr.heap.size wr w1) : PB x w w1 := ⟨h.p.below hb h.p.lt, h.bel.trans (hb.mono h.bel.size)⟩
theorem PB.pr {x : PbM} {w wr : World} (h : PB x w wr) (hP : RPb w x) : RPb wr x := hP.below h.bel
theorem PB.lt {x : PbM} {w wr : World} (h : PB x w wr) : w.heap.size < wr.heap.size := h.p.lt
end Go.Proofs.Ytnppngaabfhkpaa
namespace Go.Proofs.Ytnppngaabfhkpaa
open Go.RowKit
attribute [local go_sem ↓] Go.wp_at_zero Go.wp_at_succ
def Pb.low (p : Pb) (i : Nat) : Int := if p.demand.getD i 0 - p.solar.getD i 0 - p.bat.discharge < -p.t.fuse then -p.t.fuse else p.demand.getD i 0 - p.solar.getD i 0 - p.bat.discharge
end Go.Proofs.Ytnppngaabfhkpaa
