/-
  The walks of layer 42 (plan), part 19: Rest of the reference, where there is no rest.
-/
import Derived.Test.YtdheockmphdakaaQP23
import Derived.Test.YtdheockmphdakaaQP27
namespace Go.Proofs.Ytdheockmphdakaa
open Go.RowKit
attribute [local go_sem ↓] Go.wp_at_zero Go.wp_at_succ

def PbM.zero : PbM := ⟨⟨none, 0, []⟩, ⟨none, 0, []⟩, 0, ⟨none, 0, []⟩, ⟨none, 0, []⟩, ⟨none, 0, []⟩, ⟨0, 0, 0, 0, 0⟩, 0, 0, 0, 0, ⟨none, 0, []⟩, ⟨none, 0, []⟩, none, 0, [], 0, 0⟩
theorem RPb.zero (W : World) : RPb W PbM.zero := ⟨RInts.nil, RInts.nil, RInts.nil, RInts.nil, RInts.nil, RInts.nil, RInts.nil, RLoads.nil W⟩
/-- The lengths of a problem in memory are within its capacities. -/
structure PbM.Cap (x : PbM) : Prop where
  buy : x.buy.l.length ≤ x.buy.c
  sell : x.sell.l.length ≤ x.sell.c
  solar : x.solar.l.length ≤ x.solar.c
  demand : x.demand.l.length ≤ x.demand.c
  outside : x.outside.l.length ≤ x.outside.c
  low : x.low.l.length ≤ x.low.c
  high : x.high.l.length ≤ x.high.c
  loads : x.loads.length ≤ x.lc
  profs : ∀ y ∈ x.loads, y.r.prof.length ≤ y.c
theorem PbM.Cap.zero : PbM.zero.Cap := ⟨Nat.le_refl _, Nat.le_refl _, Nat.le_refl _, Nat.le_refl _, Nat.le_refl _, Nat.le_refl _, Nat.le_refl _, Nat.le_refl _, by simp [PbM.zero]⟩
/-- What Rest hands back. -/
def RestOut (q : Pb) (er : Int) (w : World) (e : Ending) (w' : World) : Prop :=
  ∃ m : PbM, m.p = q ∧ e = .returned (.tuple #[m.v, .int .i64 er]) ∧ RPb w' m ∧ m.loads.length ≤ m.lc ∧ Below w.heap.size w w'
def Pb.zero : Pb := ⟨⟨[], [], 0⟩, [], [], [], ⟨0, 0, 0, 0, 0⟩, ⟨0, 0, 0, 0, [], []⟩, [], 0, 0⟩
theorem PbM.zero_p : PbM.zero.p = Pb.zero := rfl
/-- The boxes of Rest of the reference. -/
structure RQ (x : PbM) (y : PnM) (w wr : World) (cs : Array Value) : Prop where
  px : PX x y w wr
  t : Blk wr (w.heap.size + 2) 31 cs
theorem RQ.lt {x : PbM} {y : PnM} {w wr : World} {cs : Array Value} (h : RQ x y w wr cs) : w.heap.size + 3 ≤ wr.heap.size := h.t.lt
theorem RQ.above {x : PbM} {y : PnM} {w wr w1 : World} {cs : Array Value} {B : Nat} (h : RQ x y w wr cs) (hb : Below B wr w1) (hB : w.heap.size + 3 ≤ B) : RQ x y w w1 cs :=
  ⟨h.px.above hb (by omega), h.t.below hb (by omega)⟩
theorem RQ.below {x : PbM} {y : PnM} {w wr w1 : World} {cs : Array Value} (h : RQ x y w wr cs) (hb : Below wr.heap.size wr w1) : RQ x y w w1 cs := h.above hb h.lt
theorem RQ.start (x : PbM) (y : PnM) (w : World) (cs : Array Value) : RQ x y w (((w.alloc (.cells x.cs 31)).alloc (.cells y.cs 37)).alloc (.cells cs 31)) cs := by
  have hp := PX.start x y w
  generalize hW : (w.alloc (.cells x.cs 31)).alloc (.cells y.cs 37) = W at *
  have hs : W.heap.size = w.heap.size + 2 := by rw [← hW]; simp
  have h1 := Blk.new W 31 cs
  rw [hs] at h1
  exact ⟨hp.alloc _, h1⟩
theorem rrest_ret {tmps : Array Value} {w W : World} {m : PbM} {er : Int} (h : Blk W (w.heap.size + 2) 31 m.cs) (hm : RPb W m) (hc : m.loads.length ≤ m.lc) (hb : Below w.heap.size w W)
    (h6 : tmps.getD 6 undef = .pointer (some ⟨w.heap.size + 2, 0, none⟩)) (h7 : tmps.getD 7 undef = .int .i64 er) :
    bodyPost Try.prog Try.f28 (RestOut m.p er w) .ret { tmps := tmps, defers := [] } W := by
  have hr := results_cell_tmp (P := Try.prog) (fn := Try.f28) (i := 6) (j := 7) (ty := 31) rfl h6 (run_load_blk (by kernel_rfl) (by kernel_rfl) h)
  refine bodyPost_ret hr rfl ?_
  exact ⟨m, rfl, by rw [h7]; rfl, hm, hc, hb⟩

set_option maxRecDepth 100000 in
set_option maxHeartbeats 32000000 in
theorem rrest_err (x : PbM) (y : PnM) (k : Int) (w : World) (hP0 : RPb w x) (hQ0 : RPn w y) (hF : x.Fit) (hG : y.Fit) (he : x.p.err y.x ≠ 0) :
    Calls Try.prog 28 #[x.v, y.v, .int .i64 k] w (RestOut Pb.zero (x.p.err y.x) w) := by
  have hP := Lib.hid hP0
  have hQ := Lib.hid hQ0
  have hr := Lib.hid (fun W (h : RPb W x) (h2 : RPn W y) => rrun_any x y W h h2 hF hG)
  have hst0 := RQ.start x y w #[.slice none 0 0, .slice none 0 0, .int .i64 0, .slice none 0 0, .slice none 0 0, .slice none 0 0, .int .i64 0, .int .i64 0, .int .i64 0, .int .i64 0, .int .i64 0, .int .i64 0, .int .i64 0, .int .i64 0, .int .i64 0, .slice none 0 0, .slice none 0 0, .slice none 0 0, .int .i64 0, .int .i64 0]
  simp only [PbM.v, PnM.v]
  clear hP0 hQ0 hF hG
  obtain ⟨W, hW⟩ : ∃ W, W = ((w.alloc (.cells #[.slice x.buy.A x.buy.l.length x.buy.c, .slice x.sell.A x.sell.l.length x.sell.c, .int .i64 x.fuse, .slice x.solar.A x.solar.l.length x.solar.c, .slice x.demand.A x.demand.l.length x.demand.c, .slice x.outside.A x.outside.l.length x.outside.c, .int .i64 x.bat.cap, .int .i64 x.bat.reserve, .int .i64 x.bat.charge, .int .i64 x.bat.discharge, .int .i64 x.bat.eff, .int .i64 x.gain, .int .i64 x.loss, .int .i64 x.steps, .int .i64 x.power, .slice x.low.A x.low.l.length x.low.c, .slice x.high.A x.high.l.length x.high.c, .slice x.LA x.loads.length x.lc, .int .i64 x.level, .int .i64 x.temp] 31)).alloc (.cells #[.slice y.charge.A y.charge.l.length y.charge.c, .slice y.heat.A y.heat.l.length y.heat.c, .slice y.start.A y.start.l.length y.start.c] 37)).alloc (.cells #[.slice none 0 0, .slice none 0 0, .int .i64 0, .slice none 0 0, .slice none 0 0, .slice none 0 0, .int .i64 0, .int .i64 0, .int .i64 0, .int .i64 0, .int .i64 0, .int .i64 0, .int .i64 0, .int .i64 0, .int .i64 0, .slice none 0 0, .slice none 0 0, .slice none 0 0, .int .i64 0, .int .i64 0] 31) := ⟨_, rfl⟩
  rw [show ((w.alloc (.cells x.cs 31)).alloc (.cells y.cs 37)).alloc (.cells #[.slice none 0 0, .slice none 0 0, .int .i64 0, .slice none 0 0, .slice none 0 0, .slice none 0 0, .int .i64 0, .int .i64 0, .int .i64 0, .int .i64 0, .int .i64 0, .int .i64 0, .int .i64 0, .int .i64 0, .int .i64 0, .slice none 0 0, .slice none 0 0, .slice none 0 0, .int .i64 0, .int .i64 0] 31) = W from hW.symm] at hst0
  have hst := Lib.hid hst0
  have hWH := Lib.hid hW
  clear hst0 hW
  have hen : (x.p.err y.x != 0) = true := by simpa using he
  generalize x.p.err y.x = er at *
  go_enter Try.func28, Try.ntmps28
  go_upto_region 1 with fail
  rw [← hWH.out]
  clear hWH
  go_wp2_with (first | refine wpList_load_problem rfl _ rfl w.heap.size rfl x (hst.out).px.p ?_ | refine wpList_load_plan rfl _ rfl (w.heap.size + 1) rfl y (hst.out).px.q ?_)
  refine (hr.out _ (hst.out.px.pr hP.out) (hst.out.px.qr hQ.out)).mono ?_
  rintro e w1 ⟨tm, htx, rfl, hrt, hb1⟩
  simp only [TrM.v]
  have HX1 := Lib.hid (hst.out.below hb1)
  clear hb1 hrt htx hst
  go_upto_region 3 with fail
  obtain ⟨v1, hv1⟩ : ∃ v1, v1 = w1.alloc (.cells #[.slice tm.net.A tm.net.l.length tm.net.c, .slice tm.level.A tm.level.l.length tm.level.c, .slice tm.temp.A tm.temp.l.length tm.temp.c, .int .i64 tm.cost] 40) := ⟨_, rfl⟩
  have HX2 : Hid (RQ x y w v1 #[.slice none 0 0, .slice none 0 0, .int .i64 0, .slice none 0 0, .slice none 0 0, .slice none 0 0, .int .i64 0, .int .i64 0, .int .i64 0, .int .i64 0, .int .i64 0, .int .i64 0, .int .i64 0, .int .i64 0, .int .i64 0, .slice none 0 0, .slice none 0 0, .slice none 0 0, .int .i64 0, .int .i64 0]) := by show RQ _ _ _ _ _; rw [hv1]; exact HX1.out.below (below_al (Below.refl _ _))
  rw [← hv1]
  clear hv1 HX1
  go_wp2_with (refine wpList_store_blk rfl 31 _ _ rfl (w.heap.size + 2) rfl PbM.zero.cs rfl (by kernel_rfl) (PbM.cs_one _) HX2.out.t rfl ?_)
  intro w3 hB3 hg3
  have hb3 : Below w.heap.size w w3 := HX2.out.px.bel.grown hg3 HX2.out.px.bel.size (fun k e => by injection e with e; omega)
  go_wp2_with fail
  exact rrest_ret (m := PbM.zero) hB3 (RPb.zero _) (Nat.le_refl _) hb3 rfl rfl

set_option maxRecDepth 100000 in
set_option maxHeartbeats 32000000 in
theorem rrest_range (x : PbM) (y : PnM) (k : Int) (w : World) (hP0 : RPb w x) (hQ0 : RPn w y) (hF : x.Fit) (hG : y.Fit) (he : x.p.err y.x = 0) (hk : k < 0 ∨ (x.buy.l.length : Int) ≤ k) :
    Calls Try.prog 28 #[x.v, y.v, .int .i64 k] w (RestOut Pb.zero 2 w) := by
  have hP := Lib.hid hP0
  have hQ := Lib.hid hQ0
  have hr := Lib.hid (fun W (h : RPb W x) (h2 : RPn W y) => rrun_any x y W h h2 hF hG)
  have hst0 := RQ.start x y w #[.slice none 0 0, .slice none 0 0, .int .i64 0, .slice none 0 0, .slice none 0 0, .slice none 0 0, .int .i64 0, .int .i64 0, .int .i64 0, .int .i64 0, .int .i64 0, .int .i64 0, .int .i64 0, .int .i64 0, .int .i64 0, .slice none 0 0, .slice none 0 0, .slice none 0 0, .int .i64 0, .int .i64 0]
  simp only [PbM.v, PnM.v]
  clear hP0 hQ0 hF hG
  obtain ⟨W, hW⟩ : ∃ W, W = ((w.alloc (.cells #[.slice x.buy.A x.buy.l.length x.buy.c, .slice x.sell.A x.sell.l.length x.sell.c, .int .i64 x.fuse, .slice x.solar.A x.solar.l.length x.solar.c, .slice x.demand.A x.demand.l.length x.demand.c, .slice x.outside.A x.outside.l.length x.outside.c, .int .i64 x.bat.cap, .int .i64 x.bat.reserve, .int .i64 x.bat.charge, .int .i64 x.bat.discharge, .int .i64 x.bat.eff, .int .i64 x.gain, .int .i64 x.loss, .int .i64 x.steps, .int .i64 x.power, .slice x.low.A x.low.l.length x.low.c, .slice x.high.A x.high.l.length x.high.c, .slice x.LA x.loads.length x.lc, .int .i64 x.level, .int .i64 x.temp] 31)).alloc (.cells #[.slice y.charge.A y.charge.l.length y.charge.c, .slice y.heat.A y.heat.l.length y.heat.c, .slice y.start.A y.start.l.length y.start.c] 37)).alloc (.cells #[.slice none 0 0, .slice none 0 0, .int .i64 0, .slice none 0 0, .slice none 0 0, .slice none 0 0, .int .i64 0, .int .i64 0, .int .i64 0, .int .i64 0, .int .i64 0, .int .i64 0, .int .i64 0, .int .i64 0, .int .i64 0, .slice none 0 0, .slice none 0 0, .slice none 0 0, .int .i64 0, .int .i64 0] 31) := ⟨_, rfl⟩
  rw [show ((w.alloc (.cells x.cs 31)).alloc (.cells y.cs 37)).alloc (.cells #[.slice none 0 0, .slice none 0 0, .int .i64 0, .slice none 0 0, .slice none 0 0, .slice none 0 0, .int .i64 0, .int .i64 0, .int .i64 0, .int .i64 0, .int .i64 0, .int .i64 0, .int .i64 0, .int .i64 0, .int .i64 0, .slice none 0 0, .slice none 0 0, .slice none 0 0, .int .i64 0, .int .i64 0] 31) = W from hW.symm] at hst0
  have hst := Lib.hid hst0
  have hWH := Lib.hid hW
  clear hst0 hW
  rw [he] at hr
  have hcs : (k < 0) ∨ (¬ k < 0 ∧ (x.buy.l.length : Int) ≤ k) := by omega
  clear he hk
  rcases hcs with g | ⟨g, g2⟩
  all_goals
    go_enter Try.func28, Try.ntmps28
    go_upto_region 1 with fail
    rw [← hWH.out]
    clear hWH
    go_wp2_with (first | refine wpList_load_problem rfl _ rfl w.heap.size rfl x (hst.out).px.p ?_ | refine wpList_load_plan rfl _ rfl (w.heap.size + 1) rfl y (hst.out).px.q ?_)
    refine (hr.out _ (hst.out.px.pr hP.out) (hst.out.px.qr hQ.out)).mono ?_
    rintro e w1 ⟨tm, htx, rfl, hrt, hb1⟩
    simp only [TrM.v]
    have HX1 := Lib.hid (hst.out.below hb1)
    clear hb1 hrt htx
    go_upto_region 4 with fail
    obtain ⟨v1, hv1⟩ : ∃ v1, v1 = w1.alloc (.cells #[.slice tm.net.A tm.net.l.length tm.net.c, .slice tm.level.A tm.level.l.length tm.level.c, .slice tm.temp.A tm.temp.l.length tm.temp.c, .int .i64 tm.cost] 40) := ⟨_, rfl⟩
    have HX2 : Hid (RQ x y w v1 #[.slice none 0 0, .slice none 0 0, .int .i64 0, .slice none 0 0, .slice none 0 0, .slice none 0 0, .int .i64 0, .int .i64 0, .int .i64 0, .int .i64 0, .int .i64 0, .int .i64 0, .int .i64 0, .int .i64 0, .int .i64 0, .slice none 0 0, .slice none 0 0, .slice none 0 0, .int .i64 0, .int .i64 0]) := by show RQ _ _ _ _ _; rw [hv1]; exact HX1.out.below (below_al (Below.refl _ _))
    rw [← hv1]
    have c0 := HX2.out.px.pc.1
    clear hv1 HX1
    go_wp2_with (refine wpList_store_blk rfl 31 _ _ rfl (w.heap.size + 2) rfl PbM.zero.cs rfl (by kernel_rfl) (PbM.cs_one _) HX2.out.t rfl ?_)
    intro w3 hB3 hg3
    have hb3 : Below w.heap.size w w3 := HX2.out.px.bel.grown hg3 HX2.out.px.bel.size (fun k e => by injection e with e; omega)
    clear c0
    go_wp2_with fail
    exact rrest_ret (m := PbM.zero) hB3 (RPb.zero _) (Nat.le_refl _) hb3 rfl rfl
end Go.Proofs.Ytdheockmphdakaa

/-
  Words on a row of loads in the making (layer 42).
-/
namespace Go.Proofs.Ytdheockmphdakaa
open Go.RowKit

theorem Try.infoLoadR : (Try.prog.info? 52).map (fun i => (i.zero, i.size, i.bytes)) = some (some (.agg #[.string ⟨#[]⟩, .slice none 0 0, .int .i64 0, .int .i64 0]), 4, 56) := by kernel_rfl
/-- The loads made so far: fresh, apart from the row itself, each profile reading as its list. -/
structure MadeL (w : World) (base : Nat) (v : Value) (rows : List LdM) : Prop where
  own : w.ownsRow base 52 4 v rows.length (ldCells rows)
  rows : ∀ x ∈ rows, RInts w x.A x.r.prof ∧ ∀ ad, x.A = some ad → base ≤ ad.block ∧ some ad.block ≠ v.ownBlock ∧ ad.block < w.heap.size
theorem MadeL.nil (w : World) (base : Nat) : MadeL w base (.slice none 0 0) [] := ⟨World.ownsRow_nil _ _ _ _, by simp⟩
theorem MadeL.below {w w' : World} {base : Nat} {v : Value} {rows : List LdM} (h : MadeL w base v rows) (hb : Below w.heap.size w w') : MadeL w' base v rows :=
  ⟨own_below h.own hb, fun x hx => ⟨(h.rows x hx).1.below hb, fun ad e => ⟨((h.rows x hx).2 ad e).1, ((h.rows x hx).2 ad e).2.1, Nat.lt_of_lt_of_le ((h.rows x hx).2 ad e).2.2 hb.size⟩⟩⟩
theorem MadeL.set {w : World} {base : Nat} {v : Value} {rows : List LdM} (h : MadeL w base v rows) {p : Addr} (hp : p.block < base) (u : Value) : MadeL (w.setCell p u) base v rows :=
  ⟨own_setCell h.own hp u, fun x hx => ⟨(h.rows x hx).1.setFar (fun ad e => by have := ((h.rows x hx).2 ad e).1; omega) u, fun ad e => ⟨((h.rows x hx).2 ad e).1, ((h.rows x hx).2 ad e).2.1, by have := ((h.rows x hx).2 ad e).2.2; simpa [World.setCell] using this⟩⟩⟩
theorem MadeL.push {w w' : World} {base : Nat} {v v' : Value} {rows : List LdM} {x : LdM} (h : MadeL w base v rows) (hx : RInts w x.A x.r.prof) (hf : ∀ ad, x.A = some ad → base ≤ ad.block ∧ some ad.block ≠ v.ownBlock ∧ ad.block < w.heap.size)
    (hown : w'.ownsRow base 52 4 v' (rows.length + 1) (ldCells rows ++ x.cells)) (hg : w.grownBy w' v.ownBlock) (hv : v'.ownBlock = v.ownBlock ∨ v'.ownBlock = some (w.heap.size + 1)) : MadeL w' base v' (rows ++ [x]) := by
  refine ⟨by rw [ldCells_append]; simpa [ldCells] using hown, ?_⟩
  intro y hy
  rw [List.mem_append, List.mem_singleton] at hy
  rcases hy with hy | rfl
  · obtain ⟨h1, h2⟩ := h.rows y hy
    refine ⟨h1.other hg fun ad e => (h2 ad e).2.1, fun ad e => ⟨(h2 ad e).1, ?_, Nat.lt_of_lt_of_le (h2 ad e).2.2 hg.size⟩⟩
    rcases hv with hv | hv
    · rw [hv]; exact (h2 ad e).2.1
    · rw [hv]; intro hh; injection hh with hh; have := (h2 ad e).2.2; omega
  · refine ⟨hx.other hg fun ad e => (hf ad e).2.1, fun ad e => ⟨(hf ad e).1, ?_, Nat.lt_of_lt_of_le (hf ad e).2.2 hg.size⟩⟩
    rcases hv with hv | hv
    · rw [hv]; exact (hf ad e).2.1
    · rw [hv]; intro hh; injection hh with hh; have := (hf ad e).2.2; omega
theorem MadeL.rloads {w : World} {base : Nat} {v : Value} {rows : List LdM} (h : MadeL w base v rows) : ∃ A c, v = .slice A rows.length c ∧ RLoads w A rows ∧ rows.length ≤ c := by
  obtain ⟨A, c, rfl⟩ := own_form h.own
  refine ⟨A, c, rfl, ⟨?_, fun x hx => (h.rows x hx).1⟩, own_cap h.own⟩
  exact Reads.of_own h.own
end Go.Proofs.Ytdheockmphdakaa
