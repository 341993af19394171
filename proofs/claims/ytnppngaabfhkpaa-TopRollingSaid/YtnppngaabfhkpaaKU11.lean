/-
  The walks of layer 43 (optimum), part 11: Best whole, Cost.
-/
import Derived.Test.YtnppngaabfhkpaaKU10
namespace Go.Proofs.Ytnppngaabfhkpaa
open Go.RowKit
attribute [local go_sem ↓] Go.wp_at_zero Go.wp_at_succ

theorem best_any (x : PbM) (w : World) (hP : RPb w x) (hF : x.Fit) : Calls Try.prog 19 #[x.v] w (BestOut x.p.best x.p.bestE w) := by
  by_cases hc : x.p.chk = 0
  · cases hl : x.p.lim with
    | true => exact best_run x w hP hF hc hl
    | false => exact best_bad x w hP hF (.inr hl)
  · exact best_bad x w hP hF (.inl hc)
/-- What Cost hands back. -/
def Pb.oc (p : Pb) : Int := if p.bestE = 0 then (p.trace p.best).cost else 0
/-- The box of a function of one problem. -/
structure PB (x : PbM) (w wr : World) : Prop where
  p : Blk wr w.heap.size 31 x.cs
  bel : Below w.heap.size w wr
theorem PB.start (x : PbM) (w : World) : PB x w (w.alloc (.cells x.cs 31)) := ⟨Blk.new _ _ _, below_al (Below.refl _ _)⟩
theorem PB.below {x : PbM} {w wr w1 : World} (h : PB x w wr) (hb : Below wr.heap.size wr w1) : PB x w w1 := ⟨h.p.below hb h.p.lt, h.bel.trans (hb.mono h.bel.size)⟩
theorem PB.pr {x : PbM} {w wr : World} (h : PB x w wr) (hP : RPb w x) : RPb wr x := hP.below h.bel
theorem PB.lt {x : PbM} {w wr : World} (h : PB x w wr) : w.heap.size < wr.heap.size := h.p.lt

set_option maxRecDepth 100000 in
set_option maxHeartbeats 16000000 in
theorem ocost_any (x : PbM) (w : World) (hP0 : RPb w x) (hF : x.Fit) :
    Calls Try.prog 22 #[x.v] w fun e w' => e = .returned (.tuple #[.int .i64 x.p.oc, .bool (x.p.bestE == 0)]) ∧ Below w.heap.size w w' := by
  have hP := Lib.hid hP0
  have hb := Lib.hid (fun W (h : RPb W x) => best_any x W h hF)
  have hv := Lib.hid (fun W (y : PnM) (h : RPb W x) (h2 : RPn W y) (h3 : y.Fit) => pvalue_any x y W h h2 hF h3)
  have hoc : Hid (x.p.oc = if x.p.bestE = 0 then (x.p.trace x.p.best).cost else 0) := (rfl : _ = _)
  have hbt := fun h => (Pb.best_top (p := x.p) h).2.2.1
  have HBT := Lib.hid hbt
  clear hbt
  have hst0 := PB.start x w
  simp only [PbM.v]
  obtain ⟨W, hW⟩ : ∃ W, W = w.alloc (.cells #[.slice x.buy.A x.buy.l.length x.buy.c, .slice x.sell.A x.sell.l.length x.sell.c, .int .i64 x.fuse, .slice x.solar.A x.solar.l.length x.solar.c, .slice x.demand.A x.demand.l.length x.demand.c, .slice x.outside.A x.outside.l.length x.outside.c, .int .i64 x.bat.cap, .int .i64 x.bat.reserve, .int .i64 x.bat.charge, .int .i64 x.bat.discharge, .int .i64 x.bat.eff, .int .i64 x.gain, .int .i64 x.loss, .int .i64 x.steps, .int .i64 x.power, .slice x.low.A x.low.l.length x.low.c, .slice x.high.A x.high.l.length x.high.c, .slice x.LA x.loads.length x.lc, .int .i64 x.level, .int .i64 x.temp] 31) := ⟨_, rfl⟩
  rw [show w.alloc (.cells x.cs 31) = W from hW.symm] at hst0
  have hst := Lib.hid hst0
  have hWH := Lib.hid hW
  clear hst0 hW hP0
  generalize x.p.oc = oc at *
  generalize x.p.bestE = er at *
  generalize x.p.best = bp at *
  go_enter Try.func22, Try.ntmps22
  go_upto_region 1 with fail
  rw [← hWH.out]
  clear hWH
  go_wp2_with (refine wpList_load_problem rfl _ rfl w.heap.size rfl x hst.out.p ?_)
  refine (hb.out _ (hst.out.pr hP.out)).mono ?_
  rintro e w1 ⟨m, hmx, rfl, hrm, hmf, _, hb1⟩
  have HX1 := Lib.hid (hst.out.below hb1)
  go_wp2_with (refine wpList_store_blk rfl 33 _ _ rfl w1.heap.size rfl m.cs rfl (by kernel_rfl) (PnM.cs_one _) (Blk.new w1 _ _) rfl ?_)
  intro w2 hB2 hg2
  have hs2 : Below w1.heap.size w1 w2 := ((Below.refl w1.heap.size w1).alloc (Nat.le_refl _) (.cells PnM.zero.cs 33)).grown hg2 (by simp) (fun k e => by injection e with e; omega)
  obtain ⟨t, ht⟩ : ∃ t, t = w1.heap.size := ⟨_, rfl⟩
  have HX2 := Lib.hid (HX1.out.below hs2)
  have HM2 := Lib.hid (hrm.below hs2)
  have HMF := Lib.hid hmf
  have HMX := Lib.hid hmx
  rw [← ht] at hB2
  have HB2 := Lib.hid hB2
  have HT := Lib.hid ht
  clear hst hb1 HX1 hs2 hB2 hrm hmf hmx hg2 ht
  by_cases he : er = 0
  · have e1 : (er != 0) = false := by simp [he]
    have e2 := hoc.out
    rw [if_pos he] at e2
    have HE2 := Lib.hid e2
    have HHE := Lib.hid he
    clear e2 he hoc
    go_upto_region 4 with fail
    rw [← HT.out]
    go_wp2_with (first | refine wpList_load_problem rfl _ rfl w.heap.size rfl x HX2.out.p ?_ | refine wpList_load_plan rfl _ rfl t rfl m HB2.out ?_)
    refine (hv.out _ m (HX2.out.pr hP.out) HM2.out HMF.out).mono ?_
    rintro e w3 ⟨rfl, hb3⟩
    have HX3 := Lib.hid (HX2.out.below hb3)
    clear hb3
    go_wp2_with fail
    go_ret2
    have h1 := HBT.out HHE.out
    refine ⟨?_, HX3.out.bel⟩
    rw [HE2.out, HMX.out, h1, HHE.out]
    rfl
  · have e1 : (er != 0) = true := by simp [he]
    have e3 : (er == 0) = false := by simp [he]
    have e2 := hoc.out
    rw [if_neg he] at e2
    have HE2 := Lib.hid e2
    have HE3 := Lib.hid e3
    clear e2 e3 he hoc
    go_wp2_with fail
    go_ret2
    exact ⟨by rw [HE2.out, HE3.out]; rfl, HX2.out.bel⟩
end Go.Proofs.Ytnppngaabfhkpaa

/-
  The walks of layer 43 (optimum), part 12: Bound of the program and of the reference.
-/
namespace Go.Proofs.Ytnppngaabfhkpaa
open Go.RowKit
attribute [local go_sem ↓] Go.wp_at_zero Go.wp_at_succ

/-- The least power that a slot may have. -/
def Pb.low (p : Pb) (i : Nat) : Int := if p.demand.getD i 0 - p.solar.getD i 0 - p.bat.discharge < -p.t.fuse then -p.t.fuse else p.demand.getD i 0 - p.solar.getD i 0 - p.bat.discharge
end Go.Proofs.Ytnppngaabfhkpaa
