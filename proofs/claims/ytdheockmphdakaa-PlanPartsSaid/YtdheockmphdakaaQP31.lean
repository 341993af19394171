/-
  The walks of layer 42 (plan), part 21: plan.Rest, where there is no rest.
-/
import Derived.Test.YtdheockmphdakaaQP28
namespace Go.Proofs.Ytdheockmphdakaa
open Go.RowKit
attribute [local go_sem ↓] Go.wp_at_zero Go.wp_at_succ

/-- The boxes of plan.Rest. -/
structure RK (x : PbM) (y : PnM) (w : World) (k : Int) (wr : World) (cs : Array Value) : Prop where
  px : PX x y w wr
  k : Blk wr (w.heap.size + 2) 3 #[.int .i64 k]
  t : Blk wr (w.heap.size + 3) 31 cs
theorem RK.lt {x : PbM} {y : PnM} {k : Int} {w wr : World} {cs : Array Value} (h : RK x y w k wr cs) : w.heap.size + 4 ≤ wr.heap.size := h.t.lt
theorem RK.above {x : PbM} {y : PnM} {k : Int} {w wr w1 : World} {cs : Array Value} {B : Nat} (h : RK x y w k wr cs) (hb : Below B wr w1) (hB : w.heap.size + 4 ≤ B) : RK x y w k w1 cs :=
  ⟨h.px.above hb (by omega), h.k.below hb (by omega), h.t.below hb (by omega)⟩
theorem RK.below {x : PbM} {y : PnM} {k : Int} {w wr w1 : World} {cs : Array Value} (h : RK x y w k wr cs) (hb : Below wr.heap.size wr w1) : RK x y w k w1 cs := h.above hb h.lt
theorem RK.start (x : PbM) (y : PnM) (w : World) (k : Int) (cs : Array Value) : RK x y w k ((((w.alloc (.cells x.cs 31)).alloc (.cells y.cs 37)).alloc (.cells #[.int .i64 k] 3)).alloc (.cells cs 31)) cs := by
  have hp := PX.start x y w
  generalize hW : (w.alloc (.cells x.cs 31)).alloc (.cells y.cs 37) = W at *
  have hs : W.heap.size = w.heap.size + 2 := by rw [← hW]; simp
  obtain ⟨h1, h2, _, _⟩ := two_boxes (w := W) (cs := #[.int .i64 k]) (t := 3) (cs2 := cs) (t2 := 31) (Below.refl _ _)
  rw [hs] at h1 h2
  exact ⟨(hp.alloc _).alloc _, h1, h2⟩
theorem RK.ck {x : PbM} {y : PnM} {k : Int} {w wr : World} {cs : Array Value} (h : RK x y w k wr cs) : wr.cell? ⟨w.heap.size + 2, 0, none⟩ = some (.int .i64 k) := by
  have := h.k.cell 0
  simpa using this
theorem prest_ret {tmps : Array Value} {w W : World} {m : PbM} {er : Int} (h : Blk W (w.heap.size + 3) 31 m.cs) (hm : RPb W m) (hc : m.loads.length ≤ m.lc) (hb : Below w.heap.size w W)
    (h6 : tmps.getD 6 undef = .pointer (some ⟨w.heap.size + 3, 0, none⟩)) (h7 : tmps.getD 7 undef = .int .i64 er) :
    bodyPost Try.prog Try.f27 (RestOut m.p er w) .ret { tmps := tmps, defers := [] } W := by
  have hr := results_cell_tmp (P := Try.prog) (fn := Try.f27) (i := 6) (j := 7) (ty := 31) rfl h6 (run_load_blk (by kernel_rfl) (by kernel_rfl) h)
  refine bodyPost_ret hr rfl ?_
  exact ⟨m, rfl, by rw [h7]; rfl, hm, hc, hb⟩

set_option maxRecDepth 100000 in
set_option maxHeartbeats 32000000 in
theorem prest_err (x : PbM) (y : PnM) (k : Int) (w : World) (hP0 : RPb w x) (hQ0 : RPn w y) (hF : x.Fit) (hG : y.Fit) (he : x.p.err y.x ≠ 0) :
    Calls Try.prog 27 #[x.v, y.v, .int .i64 k] w (RestOut Pb.zero (x.p.err y.x) w) := by
  have hP := Lib.hid hP0
  have hQ := Lib.hid hQ0
  have hr := Lib.hid (fun W (h : RPb W x) (h2 : RPn W y) => prun_any x y W h h2 hF hG)
  have hst0 := RK.start x y w k #[.slice none 0 0, .slice none 0 0, .int .i64 0, .slice none 0 0, .slice none 0 0, .slice none 0 0, .int .i64 0, .int .i64 0, .int .i64 0, .int .i64 0, .int .i64 0, .int .i64 0, .int .i64 0, .int .i64 0, .int .i64 0, .slice none 0 0, .slice none 0 0, .slice none 0 0, .int .i64 0, .int .i64 0]
  simp only [PbM.v, PnM.v]
  clear hP0 hQ0 hF hG
  obtain ⟨W, hW⟩ : ∃ W, W = (((w.alloc (.cells #[.slice x.buy.A x.buy.l.length x.buy.c, .slice x.sell.A x.sell.l.length x.sell.c, .int .i64 x.fuse, .slice x.solar.A x.solar.l.length x.solar.c, .slice x.demand.A x.demand.l.length x.demand.c, .slice x.outside.A x.outside.l.length x.outside.c, .int .i64 x.bat.cap, .int .i64 x.bat.reserve, .int .i64 x.bat.charge, .int .i64 x.bat.discharge, .int .i64 x.bat.eff, .int .i64 x.gain, .int .i64 x.loss, .int .i64 x.steps, .int .i64 x.power, .slice x.low.A x.low.l.length x.low.c, .slice x.high.A x.high.l.length x.high.c, .slice x.LA x.loads.length x.lc, .int .i64 x.level, .int .i64 x.temp] 31)).alloc (.cells #[.slice y.charge.A y.charge.l.length y.charge.c, .slice y.heat.A y.heat.l.length y.heat.c, .slice y.start.A y.start.l.length y.start.c] 37)).alloc (.cells #[.int .i64 k] 3)).alloc (.cells #[.slice none 0 0, .slice none 0 0, .int .i64 0, .slice none 0 0, .slice none 0 0, .slice none 0 0, .int .i64 0, .int .i64 0, .int .i64 0, .int .i64 0, .int .i64 0, .int .i64 0, .int .i64 0, .int .i64 0, .int .i64 0, .slice none 0 0, .slice none 0 0, .slice none 0 0, .int .i64 0, .int .i64 0] 31) := ⟨_, rfl⟩
  rw [show (((w.alloc (.cells x.cs 31)).alloc (.cells y.cs 37)).alloc (.cells #[.int .i64 k] 3)).alloc (.cells #[.slice none 0 0, .slice none 0 0, .int .i64 0, .slice none 0 0, .slice none 0 0, .slice none 0 0, .int .i64 0, .int .i64 0, .int .i64 0, .int .i64 0, .int .i64 0, .int .i64 0, .int .i64 0, .int .i64 0, .int .i64 0, .slice none 0 0, .slice none 0 0, .slice none 0 0, .int .i64 0, .int .i64 0] 31) = W from hW.symm] at hst0
  have hst := Lib.hid hst0
  have hWH := Lib.hid hW
  clear hst0 hW
  have hen : (x.p.err y.x != 0) = true := by simpa using he
  generalize x.p.err y.x = er at *
  go_enter Try.func27, Try.ntmps27
  go_upto_region 1 with fail
  rw [← hWH.out]
  clear hWH
  go_wp2_with (first | refine wpList_load_problem rfl _ rfl w.heap.size rfl x (hst.out).px.p ?_ | refine wpList_load_plan rfl _ rfl (w.heap.size + 1) rfl y (hst.out).px.q ?_)
  refine (hr.out _ (hst.out.px.pr hP.out) (hst.out.px.qr hQ.out)).mono ?_
  rintro e w1 ⟨tm, htx, rfl, hrt, hb1⟩
  simp only [TrM.v]
  have HX1 := Lib.hid (hst.out.below hb1)
  clear hb1 hrt htx hst
  go_upto_region 3 with fail
  obtain ⟨v1, hv1⟩ : ∃ v1, v1 = w1.alloc (.cells #[.slice tm.net.A tm.net.l.length tm.net.c, .slice tm.level.A tm.level.l.length tm.level.c, .slice tm.temp.A tm.temp.l.length tm.temp.c, .int .i64 tm.cost] 40) := ⟨_, rfl⟩
  have HX2 : Hid (RK x y w k v1 #[.slice none 0 0, .slice none 0 0, .int .i64 0, .slice none 0 0, .slice none 0 0, .slice none 0 0, .int .i64 0, .int .i64 0, .int .i64 0, .int .i64 0, .int .i64 0, .int .i64 0, .int .i64 0, .int .i64 0, .int .i64 0, .slice none 0 0, .slice none 0 0, .slice none 0 0, .int .i64 0, .int .i64 0]) := by show RK _ _ _ _ _ _; rw [hv1]; exact HX1.out.below (below_al (Below.refl _ _))
  rw [← hv1]
  clear hv1 HX1
  go_wp2_with (refine wpList_store_blk rfl 31 _ _ rfl (w.heap.size + 3) rfl PbM.zero.cs rfl (by kernel_rfl) (PbM.cs_one _) HX2.out.t rfl ?_)
  intro w3 hB3 hg3
  have hb3 : Below w.heap.size w w3 := HX2.out.px.bel.grown hg3 HX2.out.px.bel.size (fun k e => by injection e with e; omega)
  go_wp2_with fail
  exact prest_ret (m := PbM.zero) hB3 (RPb.zero _) (Nat.le_refl _) hb3 rfl rfl

set_option maxRecDepth 100000 in
set_option maxHeartbeats 32000000 in
theorem prest_range (x : PbM) (y : PnM) (k : Int) (w : World) (hP0 : RPb w x) (hQ0 : RPn w y) (hF : x.Fit) (hG : y.Fit) (he : x.p.err y.x = 0) (hk : k < 0 ∨ (x.buy.l.length : Int) ≤ k) :
    Calls Try.prog 27 #[x.v, y.v, .int .i64 k] w (RestOut Pb.zero 2 w) := by
  have hP := Lib.hid hP0
  have hQ := Lib.hid hQ0
  have hr := Lib.hid (fun W (h : RPb W x) (h2 : RPn W y) => prun_any x y W h h2 hF hG)
  have hst0 := RK.start x y w k #[.slice none 0 0, .slice none 0 0, .int .i64 0, .slice none 0 0, .slice none 0 0, .slice none 0 0, .int .i64 0, .int .i64 0, .int .i64 0, .int .i64 0, .int .i64 0, .int .i64 0, .int .i64 0, .int .i64 0, .int .i64 0, .slice none 0 0, .slice none 0 0, .slice none 0 0, .int .i64 0, .int .i64 0]
  simp only [PbM.v, PnM.v]
  clear hP0 hQ0 hF hG
  obtain ⟨W, hW⟩ : ∃ W, W = (((w.alloc (.cells #[.slice x.buy.A x.buy.l.length x.buy.c, .slice x.sell.A x.sell.l.length x.sell.c, .int .i64 x.fuse, .slice x.solar.A x.solar.l.length x.solar.c, .slice x.demand.A x.demand.l.length x.demand.c, .slice x.outside.A x.outside.l.length x.outside.c, .int .i64 x.bat.cap, .int .i64 x.bat.reserve, .int .i64 x.bat.charge, .int .i64 x.bat.discharge, .int .i64 x.bat.eff, .int .i64 x.gain, .int .i64 x.loss, .int .i64 x.steps, .int .i64 x.power, .slice x.low.A x.low.l.length x.low.c, .slice x.high.A x.high.l.length x.high.c, .slice x.LA x.loads.length x.lc, .int .i64 x.level, .int .i64 x.temp] 31)).alloc (.cells #[.slice y.charge.A y.charge.l.length y.charge.c, .slice y.heat.A y.heat.l.length y.heat.c, .slice y.start.A y.start.l.length y.start.c] 37)).alloc (.cells #[.int .i64 k] 3)).alloc (.cells #[.slice none 0 0, .slice none 0 0, .int .i64 0, .slice none 0 0, .slice none 0 0, .slice none 0 0, .int .i64 0, .int .i64 0, .int .i64 0, .int .i64 0, .int .i64 0, .int .i64 0, .int .i64 0, .int .i64 0, .int .i64 0, .slice none 0 0, .slice none 0 0, .slice none 0 0, .int .i64 0, .int .i64 0] 31) := ⟨_, rfl⟩
  rw [show (((w.alloc (.cells x.cs 31)).alloc (.cells y.cs 37)).alloc (.cells #[.int .i64 k] 3)).alloc (.cells #[.slice none 0 0, .slice none 0 0, .int .i64 0, .slice none 0 0, .slice none 0 0, .slice none 0 0, .int .i64 0, .int .i64 0, .int .i64 0, .int .i64 0, .int .i64 0, .int .i64 0, .int .i64 0, .int .i64 0, .int .i64 0, .slice none 0 0, .slice none 0 0, .slice none 0 0, .int .i64 0, .int .i64 0] 31) = W from hW.symm] at hst0
  have hst := Lib.hid hst0
  have hWH := Lib.hid hW
  clear hst0 hW
  rw [he] at hr
  have hcs : (k < 0) ∨ (¬ k < 0 ∧ (x.buy.l.length : Int) ≤ k) := by omega
  clear he hk
  rcases hcs with g | ⟨g, g2⟩
  all_goals
    go_enter Try.func27, Try.ntmps27
    go_upto_region 1 with fail
    rw [← hWH.out]
    clear hWH
    go_wp2_with (first | refine wpList_load_problem rfl _ rfl w.heap.size rfl x (hst.out).px.p ?_ | refine wpList_load_plan rfl _ rfl (w.heap.size + 1) rfl y (hst.out).px.q ?_)
    refine (hr.out _ (hst.out.px.pr hP.out) (hst.out.px.qr hQ.out)).mono ?_
    rintro e w1 ⟨tm, htx, rfl, hrt, hb1⟩
    simp only [TrM.v]
    have HX1 := Lib.hid (hst.out.below hb1)
    clear hb1 hrt htx
    go_upto_region 4 with fail
    obtain ⟨v1, hv1⟩ : ∃ v1, v1 = w1.alloc (.cells #[.slice tm.net.A tm.net.l.length tm.net.c, .slice tm.level.A tm.level.l.length tm.level.c, .slice tm.temp.A tm.temp.l.length tm.temp.c, .int .i64 tm.cost] 40) := ⟨_, rfl⟩
    have HX2 : Hid (RK x y w k v1 #[.slice none 0 0, .slice none 0 0, .int .i64 0, .slice none 0 0, .slice none 0 0, .slice none 0 0, .int .i64 0, .int .i64 0, .int .i64 0, .int .i64 0, .int .i64 0, .int .i64 0, .int .i64 0, .int .i64 0, .int .i64 0, .slice none 0 0, .slice none 0 0, .slice none 0 0, .int .i64 0, .int .i64 0]) := by show RK _ _ _ _ _ _; rw [hv1]; exact HX1.out.below (below_al (Below.refl _ _))
    rw [← hv1]
    have c0 := HX2.out.px.pc.1
    have ck := HX2.out.k.cell 0
    simp at ck
    clear hv1 HX1
    go_wp2_with (refine wpList_store_blk rfl 31 _ _ rfl (w.heap.size + 3) rfl PbM.zero.cs rfl (by kernel_rfl) (PbM.cs_one _) HX2.out.t rfl ?_)
    intro w3 hB3 hg3
    have hb3 : Below w.heap.size w w3 := HX2.out.px.bel.grown hg3 HX2.out.px.bel.size (fun k e => by injection e with e; omega)
    clear c0 ck
    go_wp2_with fail
    exact prest_ret (m := PbM.zero) hB3 (RPb.zero _) (Nat.le_refl _) hb3 rfl rfl
end Go.Proofs.Ytdheockmphdakaa
