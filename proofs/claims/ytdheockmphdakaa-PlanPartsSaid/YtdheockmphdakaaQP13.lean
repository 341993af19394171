/-
  The walks of layer 42 (plan), part 9: Run whole, Value of both, SameTrace, SamePlan.
-/
import Derived.Test.YtdheockmphdakaaQP12
import Derived.Test.YtdheockmphdakaaQL16
import Derived.Test.YtdheockmphdakaaQBS
namespace Go.Proofs.Ytdheockmphdakaa
open Go.RowKit
attribute [local go_sem ↓] Go.wp_at_zero Go.wp_at_succ

theorem prun_any (x : PbM) (y : PnM) (w : World) (hP : RPb w x) (hQ : RPn w y) (hF : x.Fit) (hG : y.Fit) : Calls Try.prog 15 #[x.v, y.v] w (RunOut (x.p.trace y.x) (x.p.err y.x) w) := by
  by_cases h : x.p.chk = 0
  · by_cases h2 : x.p.form y.x = 0
    · exact prun_loop x y w hP hQ hF hG h h2
    · rw [(Pb.err_form h h2).1, (Pb.err_form h h2).2]; exact prun_form x y w hP hQ hF hG h h2
  · rw [(Pb.err_chk (x := y.x) h).1, (Pb.err_chk (x := y.x) h).2]; exact prun_chk x y w hP hF h
theorem rrun_any (x : PbM) (y : PnM) (w : World) (hP : RPb w x) (hQ : RPn w y) (hF : x.Fit) (hG : y.Fit) : Calls Try.prog 16 #[x.v, y.v] w (RunOut (x.p.trace y.x) (x.p.err y.x) w) := by
  by_cases h : x.p.chk = 0
  · by_cases h2 : x.p.form y.x = 0
    · exact rrun_loop x y w hP hQ hF hG h h2
    · rw [(Pb.err_form h h2).1, (Pb.err_form h h2).2]; exact rrun_form x y w hP hQ hF hG h h2
  · rw [(Pb.err_chk (x := y.x) h).1, (Pb.err_chk (x := y.x) h).2]; exact rrun_chk x y w hP hQ hF hG h

set_option maxRecDepth 100000 in
set_option maxHeartbeats 16000000 in
theorem pvalue_any (x : PbM) (y : PnM) (w : World) (hP0 : RPb w x) (hQ0 : RPn w y) (hF : x.Fit) (hG : y.Fit) :
    Calls Try.prog 17 #[x.v, y.v] w fun e w' => e = .returned (.tuple #[.int .i64 (x.p.trace y.x).cost, .bool (x.p.err y.x == 0)]) ∧ Below w.heap.size w w' := by
  have hP := Lib.hid hP0
  have hQ := Lib.hid hQ0
  have hr := Lib.hid (fun W (h : RPb W x) (h2 : RPn W y) => prun_any x y W h h2 hF hG)
  have hst0 := PX.start x y w
  generalize x.p.trace y.x = tr at *
  generalize x.p.err y.x = er at *
  simp only [PbM.v, PnM.v]
  clear hP0 hQ0 hF hG
  obtain ⟨W, hW⟩ : ∃ W, W = (w.alloc (.cells #[.slice x.buy.A x.buy.l.length x.buy.c, .slice x.sell.A x.sell.l.length x.sell.c, .int .i64 x.fuse, .slice x.solar.A x.solar.l.length x.solar.c, .slice x.demand.A x.demand.l.length x.demand.c, .slice x.outside.A x.outside.l.length x.outside.c, .int .i64 x.bat.cap, .int .i64 x.bat.reserve, .int .i64 x.bat.charge, .int .i64 x.bat.discharge, .int .i64 x.bat.eff, .int .i64 x.gain, .int .i64 x.loss, .int .i64 x.steps, .int .i64 x.power, .slice x.low.A x.low.l.length x.low.c, .slice x.high.A x.high.l.length x.high.c, .slice x.LA x.loads.length x.lc, .int .i64 x.level, .int .i64 x.temp] 31)).alloc (.cells #[.slice y.charge.A y.charge.l.length y.charge.c, .slice y.heat.A y.heat.l.length y.heat.c, .slice y.start.A y.start.l.length y.start.c] 37) := ⟨_, rfl⟩
  rw [show (w.alloc (.cells x.cs 31)).alloc (.cells y.cs 37) = W from hW.symm] at hst0
  have hst := Lib.hid hst0
  have hWH := Lib.hid hW
  clear hst0 hW
  go_enter Try.func17, Try.ntmps17
  go_upto_region 1 with fail
  rw [← hWH.out]
  clear hWH
  go_wp2_with (first | refine wpList_load_problem rfl _ rfl w.heap.size rfl x hst.out.p ?_ | refine wpList_load_plan rfl _ rfl (w.heap.size + 1) rfl y hst.out.q ?_)
  refine (hr.out _ (hst.out.pr hP.out) (hst.out.qr hQ.out)).mono ?_
  rintro e w1 ⟨m, hm, rfl, hrt, hb1⟩
  have HX := Lib.hid (hst.out.below hb1)
  have hc : Hid (m.cost = tr.cost) := by show _ = _; rw [← hm]; rfl
  simp only [TrM.v]
  clear hb1 hrt hm
  go_wp2_with fail
  go_ret2
  exact ⟨by rw [← hc.out]; rfl, (HX.out.alloc _).bel⟩

set_option maxRecDepth 100000 in
set_option maxHeartbeats 16000000 in
theorem rvalue_any (x : PbM) (y : PnM) (w : World) (hP0 : RPb w x) (hQ0 : RPn w y) (hF : x.Fit) (hG : y.Fit) :
    Calls Try.prog 18 #[x.v, y.v] w fun e w' => e = .returned (.tuple #[.int .i64 (x.p.trace y.x).cost, .bool (x.p.err y.x == 0)]) ∧ Below w.heap.size w w' := by
  have hP := Lib.hid hP0
  have hQ := Lib.hid hQ0
  have hr := Lib.hid (fun W (h : RPb W x) (h2 : RPn W y) => rrun_any x y W h h2 hF hG)
  have hst0 := PX.start x y w
  generalize x.p.trace y.x = tr at *
  generalize x.p.err y.x = er at *
  simp only [PbM.v, PnM.v]
  clear hP0 hQ0 hF hG
  obtain ⟨W, hW⟩ : ∃ W, W = (w.alloc (.cells #[.slice x.buy.A x.buy.l.length x.buy.c, .slice x.sell.A x.sell.l.length x.sell.c, .int .i64 x.fuse, .slice x.solar.A x.solar.l.length x.solar.c, .slice x.demand.A x.demand.l.length x.demand.c, .slice x.outside.A x.outside.l.length x.outside.c, .int .i64 x.bat.cap, .int .i64 x.bat.reserve, .int .i64 x.bat.charge, .int .i64 x.bat.discharge, .int .i64 x.bat.eff, .int .i64 x.gain, .int .i64 x.loss, .int .i64 x.steps, .int .i64 x.power, .slice x.low.A x.low.l.length x.low.c, .slice x.high.A x.high.l.length x.high.c, .slice x.LA x.loads.length x.lc, .int .i64 x.level, .int .i64 x.temp] 31)).alloc (.cells #[.slice y.charge.A y.charge.l.length y.charge.c, .slice y.heat.A y.heat.l.length y.heat.c, .slice y.start.A y.start.l.length y.start.c] 37) := ⟨_, rfl⟩
  rw [show (w.alloc (.cells x.cs 31)).alloc (.cells y.cs 37) = W from hW.symm] at hst0
  have hst := Lib.hid hst0
  have hWH := Lib.hid hW
  clear hst0 hW
  go_enter Try.func18, Try.ntmps18
  go_upto_region 1 with fail
  rw [← hWH.out]
  clear hWH
  go_wp2_with (first | refine wpList_load_problem rfl _ rfl w.heap.size rfl x hst.out.p ?_ | refine wpList_load_plan rfl _ rfl (w.heap.size + 1) rfl y hst.out.q ?_)
  refine (hr.out _ (hst.out.pr hP.out) (hst.out.qr hQ.out)).mono ?_
  rintro e w1 ⟨m, hm, rfl, hrt, hb1⟩
  have HX := Lib.hid (hst.out.below hb1)
  have hc : Hid (m.cost = tr.cost) := by show _ = _; rw [← hm]; rfl
  simp only [TrM.v]
  clear hb1 hrt hm
  go_wp2_with fail
  go_ret2
  exact ⟨by rw [← hc.out]; rfl, (HX.out.alloc _).bel⟩

set_option maxRecDepth 100000 in
set_option maxHeartbeats 16000000 in
theorem sametrace_true (m m2 : TrM) (w : World) (hA0 : RTr w m) (hB0 : RTr w m2) (hx : m.x = m2.x) (h1 : m.net.l.length < 1000000000) (h2 : m.level.l.length < 1000000000) (h3 : m.temp.l.length < 1000000000) :
    Calls Try.prog 19 #[m.v, m2.v] w fun e w' => e = .returned (.bool true) ∧ Below w.heap.size w w' := by
  have hA := Lib.hid hA0
  have hB := Lib.hid hB0
  have e1 : m.net.l = m2.net.l := congrArg Tr.net hx
  have e2 : m.level.l = m2.level.l := congrArg Tr.level hx
  have e3 : m.temp.l = m2.temp.l := congrArg Tr.temp hx
  have e4 : m.cost = m2.cost := congrArg Tr.cost hx
  have k1 := fun W h h' => same_any m.net.A m2.net.A m.net.c m2.net.c m.net.l m2.net.l W h h' h1
  have k2 := fun W h h' => same_any m.level.A m2.level.A m.level.c m2.level.c m.level.l m2.level.l W h h' h2
  have k3 := fun W h h' => same_any m.temp.A m2.temp.A m.temp.c m2.temp.c m.temp.l m2.temp.l W h h' h3
  rw [decide_eq_true e1] at k1
  rw [decide_eq_true e2] at k2
  rw [decide_eq_true e3] at k3
  have K1 := Lib.hid k1
  have K2 := Lib.hid k2
  have K3 := Lib.hid k3
  simp only [TrM.v]
  rw [e4]
  clear hA0 hB0 hx e1 e2 e3 e4 k1 k2 k3 h1 h2 h3
  go_enter Try.func19, Try.ntmps19
  go_wp2_with fail
  have hO : Below w.heap.size w _ := ((Below.refl _ _).alloc (Nat.le_refl _) (.cells #[.slice m.net.A m.net.l.length m.net.c, .slice m.level.A m.level.l.length m.level.c, .slice m.temp.A m.temp.l.length m.temp.c, .int .i64 m2.cost] 40)).alloc (by simp) (.cells #[.slice m2.net.A m2.net.l.length m2.net.c, .slice m2.level.A m2.level.l.length m2.level.c, .slice m2.temp.A m2.temp.l.length m2.temp.c, .int .i64 m2.cost] 40)
  refine (K1.out _ (hA.out.net.below hO) (hB.out.net.below hO)).mono ?_
  rintro e w1 ⟨rfl, hb1⟩
  obtain ⟨q1, q2, q3, q4⟩ := two_boxes hb1
  have z1 := q1.cell 1
  have z2 := q1.cell 2
  have z3 := q1.cell 3
  have y1 := q2.cell 1
  have y2 := q2.cell 2
  have y3 := q2.cell 3
  simp at z1 z2 z3 y1 y2 y3
  have HO1 := Lib.hid q4
  clear hO hb1 q1 q2 q3 q4
  go_wp2_with fail
  refine (K2.out _ (hA.out.level.below HO1.out) (hB.out.level.below HO1.out)).mono ?_
  rintro e w2 ⟨rfl, hb2⟩
  have HO2 := Lib.hid (HO1.out.trans (hb2.mono HO1.out.size))
  replace z2 := cell_below z2 hb2
  replace z3 := cell_below z3 hb2
  replace y2 := cell_below y2 hb2
  replace y3 := cell_below y3 hb2
  clear hb2 z1 y1
  go_wp2_with fail
  refine (K3.out _ (hA.out.temp.below HO2.out) (hB.out.temp.below HO2.out)).mono ?_
  rintro e w3 ⟨rfl, hb3⟩
  have HO3 := Lib.hid (HO2.out.trans (hb3.mono HO2.out.size))
  replace z3 := cell_below z3 hb3
  replace y3 := cell_below y3 hb3
  clear hb3 z2 y2
  go_wp2_with fail
  go_ret
  exact ⟨by simp, HO3.out⟩

set_option maxRecDepth 100000 in
set_option maxHeartbeats 16000000 in
theorem sameplan_true (m m2 : PnM) (w : World) (hA0 : RPn w m) (hB0 : RPn w m2) (hx : m.x = m2.x) (h1 : m.charge.l.length < 1000000000) (h2 : m.heat.l.length < 1000000000) (h3 : m.start.l.length < 1000000000) :
    Calls Try.prog 21 #[m.v, m2.v] w fun e w' => e = .returned (.bool true) ∧ Below w.heap.size w w' := by
  have hA := Lib.hid hA0
  have hB := Lib.hid hB0
  have e1 : m.charge.l = m2.charge.l := congrArg Pn.charge hx
  have e2 : m.heat.l = m2.heat.l := congrArg Pn.heat hx
  have e3 : m.start.l = m2.start.l := congrArg Pn.start hx
  have k1 := fun W h h' => same_any m.charge.A m2.charge.A m.charge.c m2.charge.c m.charge.l m2.charge.l W h h' h1
  have k2 := fun W h h' => same_any m.heat.A m2.heat.A m.heat.c m2.heat.c m.heat.l m2.heat.l W h h' h2
  have k3 := fun W h h' => same_any m.start.A m2.start.A m.start.c m2.start.c m.start.l m2.start.l W h h' h3
  rw [decide_eq_true e1] at k1
  rw [decide_eq_true e2] at k2
  rw [decide_eq_true e3] at k3
  have K1 := Lib.hid k1
  have K2 := Lib.hid k2
  have K3 := Lib.hid k3
  simp only [PnM.v]
  clear hA0 hB0 hx e1 e2 e3 k1 k2 k3 h1 h2 h3
  go_enter Try.func21, Try.ntmps21
  go_wp2_with fail
  have hO : Below w.heap.size w _ := ((Below.refl _ _).alloc (Nat.le_refl _) (.cells m.cs 37)).alloc (by simp) (.cells m2.cs 37)
  refine (K1.out _ (hA.out.charge.below hO) (hB.out.charge.below hO)).mono ?_
  rintro e w1 ⟨rfl, hb1⟩
  obtain ⟨q1, q2, q3, q4⟩ := two_boxes hb1
  obtain ⟨-, z1, z2⟩ := PnC.of_blk q1
  obtain ⟨-, y1, y2⟩ := PnC.of_blk q2
  have HO1 := Lib.hid q4
  clear hO hb1 q1 q2 q3 q4
  go_wp2_with fail
  refine (K2.out _ (hA.out.heat.below HO1.out) (hB.out.heat.below HO1.out)).mono ?_
  rintro e w2 ⟨rfl, hb2⟩
  have HO2 := Lib.hid (HO1.out.trans (hb2.mono HO1.out.size))
  replace z2 := cell_below z2 hb2
  replace y2 := cell_below y2 hb2
  clear hb2 z1 y1
  go_wp2_with fail
  refine (K3.out _ (hA.out.start.below HO2.out) (hB.out.start.below HO2.out)).mono ?_
  rintro e w3 ⟨rfl, hb3⟩
  have HO3 := Lib.hid (HO2.out.trans (hb3.mono HO2.out.size))
  clear hb3 z2 y2
  go_wp2_with fail
  go_ret
  exact ⟨rfl, HO3.out⟩
end Go.Proofs.Ytdheockmphdakaa

/-
  The walks of layer 42 (plan), part 10: Idle of the program.
-/
namespace Go.Proofs.Ytdheockmphdakaa
open Go.RowKit
attribute [local go_sem ↓] Go.wp_at_zero Go.wp_at_succ

def Pn.zero : Pn := ⟨[], [], []⟩
def PnM.zero : PnM := ⟨⟨none, 0, []⟩, ⟨none, 0, []⟩, ⟨none, 0, []⟩⟩
theorem RPn.zero (W : World) : RPn W PnM.zero := ⟨RInts.nil, RInts.nil, RInts.nil⟩
def Pb.earlies (p : Pb) (k : Nat) : List Int := (p.loads.take k).map Ld.early
def Pb.idle (p : Pb) : Pn := if p.chk ≠ 0 then Pn.zero else ⟨List.replicate p.n 0, List.replicate p.n 0, p.loads.map Ld.early⟩
theorem Pb.earlies_succ {p : Pb} {k : Nat} (h : k < p.loads.length) : p.earlies (k + 1) = p.earlies k ++ [p.loads[k].early] := by
  unfold Pb.earlies
  rw [List.take_succ_eq_append_getElem h, List.map_append]; rfl
theorem Pb.earlies_len {p : Pb} {k : Nat} (h : k ≤ p.loads.length) : (p.earlies k).length = k := by
  unfold Pb.earlies
  rw [List.length_map, List.length_take]; omega
/-- What Idle hands back. -/
def IdleOut (pl : Pn) (w : World) (e : Ending) (w' : World) : Prop :=
  ∃ m : PnM, m.x = pl ∧ e = .returned m.v ∧ RPn w' m ∧ (m.charge.l.length ≤ m.charge.c ∧ m.heat.l.length ≤ m.heat.c ∧ m.start.l.length ≤ m.start.c) ∧ Below w.heap.size w w'
theorem rints_made (w : World) (n : Nat) (t : TypeId) : RInts (w.alloc (.cells (madeCells #[.int .i64 0] n) t)) (some ⟨w.heap.size, 0, none⟩) (List.replicate n 0) := by
  refine rints_lit w _ t ?_
  rw [toList_madeCells_one]
  simp [ints]
theorem rints_made' {w : World} {m : Nat} (h : w.heap.size = m) (n : Nat) (t : TypeId) : RInts (w.alloc (.cells (madeCells #[.int .i64 0] n) t)) (some ⟨m, 0, none⟩) (List.replicate n 0) := h ▸ rints_made w n t
theorem blk_new' {w : World} {m : Nat} (h : w.heap.size = m) (t : TypeId) (cs : Array Value) : Blk (w.alloc (.cells cs t)) m t cs := h ▸ Blk.new w t cs
theorem blk3_0 (w : World) (t : TypeId) (cs : Array Value) (o2 o3 : Obj) : Blk (((w.alloc (.cells cs t)).alloc o2).alloc o3).drew w.heap.size t cs := (((Blk.new w t cs).alloc o2).alloc o3).drew
theorem blk3_1 (w : World) (t : TypeId) (cs : Array Value) (o1 o3 : Obj) : Blk (((w.alloc o1).alloc (.cells cs t)).alloc o3).drew (w.heap.size + 1) t cs := ((blk_new' (by simp) t cs).alloc o3).drew
theorem blk3_2 (w : World) (t : TypeId) (cs : Array Value) (o1 o2 : Obj) : Blk (((w.alloc o1).alloc o2).alloc (.cells cs t)).drew (w.heap.size + 1 + 1) t cs := (blk_new' (by simp) t cs).drew
theorem rints3_0 (w : World) (n : Nat) (t : TypeId) (o2 o3 : Obj) : RInts (((w.alloc (.cells (madeCells #[.int .i64 0] n) t)).alloc o2).alloc o3).drew (some ⟨w.heap.size, 0, none⟩) (List.replicate n 0) := ((rints_made w n t).alloc o2).alloc o3
theorem rints3_1 (w : World) (n : Nat) (t : TypeId) (o1 o3 : Obj) : RInts (((w.alloc o1).alloc (.cells (madeCells #[.int .i64 0] n) t)).alloc o3).drew (some ⟨w.heap.size + 1, 0, none⟩) (List.replicate n 0) := (rints_made' (w := w.alloc o1) (by simp) n t).alloc o3
theorem rints3_2 (w : World) (n : Nat) (t : TypeId) (o1 o2 : Obj) : RInts (((w.alloc o1).alloc o2).alloc (.cells (madeCells #[.int .i64 0] n) t)).drew (some ⟨w.heap.size + 1 + 1, 0, none⟩) (List.replicate n 0) := rints_made' (w := (w.alloc o1).alloc o2) (by simp) n t
theorem RInts.drew {w : World} {A : Option Addr} {l : List Int} (h : RInts w A l) : RInts w.drew A l := h

set_option maxRecDepth 100000 in
set_option maxHeartbeats 16000000 in
theorem pidle_any (x : PbM) (w : World) (hP0 : RPb w x) (hF0 : x.Fit) :
    Calls Try.prog 20 #[x.v] w (IdleOut x.p.idle w) := by
  have hP := Lib.hid hP0
  have hc0 := fun W (h : RPb W x) => pcheck_any x W h hF0
  have hst0 := PX.start x PnM.zero w
  simp only [PbM.v]
  obtain ⟨W, hW⟩ : ∃ W, W = (w.alloc (.cells #[.slice x.buy.A x.buy.l.length x.buy.c, .slice x.sell.A x.sell.l.length x.sell.c, .int .i64 x.fuse, .slice x.solar.A x.solar.l.length x.solar.c, .slice x.demand.A x.demand.l.length x.demand.c, .slice x.outside.A x.outside.l.length x.outside.c, .int .i64 x.bat.cap, .int .i64 x.bat.reserve, .int .i64 x.bat.charge, .int .i64 x.bat.discharge, .int .i64 x.bat.eff, .int .i64 x.gain, .int .i64 x.loss, .int .i64 x.steps, .int .i64 x.power, .slice x.low.A x.low.l.length x.low.c, .slice x.high.A x.high.l.length x.high.c, .slice x.LA x.loads.length x.lc, .int .i64 x.level, .int .i64 x.temp] 31)).alloc (.cells #[.slice none 0 0, .slice none 0 0, .slice none 0 0] 37) := ⟨_, rfl⟩
  rw [show (w.alloc (.cells x.cs 31)).alloc (.cells PnM.zero.cs 37) = W from hW.symm] at hst0
  have hst := Lib.hid hst0
  have hWH := Lib.hid hW
  clear hst0 hW hP0
  by_cases hck : x.p.chk = 0
  · have hgood := Pb.good hck
    have hnbd := Pb.nbd hgood
    have hld4 := Pb.loads4 hgood
    have hel : x.p.loads.length = x.loads.length := by simp [PbM.p]
    rw [hel] at hld4
    have hid : x.p.idle = ⟨List.replicate x.buy.l.length 0, List.replicate x.buy.l.length 0, x.p.earlies x.loads.length⟩ := by
      unfold Pb.idle; rw [if_neg (by simp [hck])]
      unfold Pb.earlies; rw [← hel, List.take_length]; rfl
    have hn0 : 1 ≤ x.buy.l.length ∧ x.buy.l.length ≤ 96 := hnbd
    have hsu0 : ∀ k (h : k < x.loads.length), x.p.earlies (k + 1) = x.p.earlies k ++ [x.loads[k].r.early] := fun k h => by
      rw [Pb.earlies_succ (by rw [hel]; exact h)]; simp [PbM.p]
    have hsu := Lib.hid hsu0
    have hln := Lib.hid (fun k (h : k ≤ x.loads.length) => Pb.earlies_len (p := x.p) (k := k) (by rw [hel]; exact h))
    have hid2 := Lib.hid hid
    rw [hck] at hc0
    have hc := Lib.hid hc0
    clear hid hel hgood hnbd hc0 hck hsu0
    have hmk := Lib.hid (run_make_row' (P := Try.prog) 22 3 (.int .i64 0) 8 Try.underlying22 Try.infoInt rfl .i64 .i64 x.buy.l.length (by omega) (by omega))
    obtain ⟨i0, hi, hz0, hz1, hz2⟩ := info_parts Try.infoInt
    go_enter Try.func20, Try.ntmps20
    go_upto_region 1 with fail
    rw [← hWH.out]
    clear hWH
    go_wp2_with (refine wpList_load_problem rfl _ rfl w.heap.size rfl x hst.out.p ?_)
    refine (hc.out _ (hst.out.pr hP.out)).mono ?_
    rintro e w1 ⟨rfl, hb1⟩
    have HX1 := Lib.hid (hst.out.below hb1)
    clear hb1 hst
    have c0 := HX1.out.pc.1
    go_upto_region 4 with fail
    clear c0
    have hmk1 := hmk.out
    have hlt1 := HX1.out.lt
    go_cut [4] (fun s4 wx => ∃ (g : Nat) (A1 A2 : Option Addr), s4 = .pointer (some ⟨g, 0, none⟩) ∧ Hid (PX x PnM.zero w wx) ∧ Hid (w.heap.size + 2 ≤ g) ∧ Hid (Blk wx g 37 #[.slice A1 x.buy.l.length x.buy.l.length, .slice A2 x.buy.l.length x.buy.l.length, .slice none 0 0]) ∧
      Hid (RInts wx A1 (List.replicate x.buy.l.length 0)) ∧ Hid (RInts wx A2 (List.replicate x.buy.l.length 0)) ∧ Hid (∀ ad, A1 = some ad → ad.block ≠ g ∧ ad.block < wx.heap.size ∧ w.heap.size + 2 ≤ ad.block) ∧ Hid (∀ ad, A2 = some ad → ad.block ≠ g ∧ ad.block < wx.heap.size ∧ w.heap.size + 2 ≤ ad.block))
    case first =>
      go_region
      all_goals
        go_wp2_with fail
        go_meet
        first
          | (refine ⟨_, some ⟨w1.heap.size, 0, none⟩, some ⟨w1.heap.size + 1, 0, none⟩, rfl, (((HX1.out.alloc _).alloc _).alloc _).below (Below.drew (Below.refl _ _)), ?_, ?_, ?_, ?_, ?_, ?_⟩; rotate_left; (first | exact blk3_0 _ _ _ _ _ | exact blk3_1 _ _ _ _ _ | exact blk3_2 _ _ _ _ _); (first | exact rints3_0 _ _ _ _ _ | exact rints3_1 _ _ _ _ _ | exact rints3_2 _ _ _ _ _); (first | exact rints3_0 _ _ _ _ _ | exact rints3_1 _ _ _ _ _ | exact rints3_2 _ _ _ _ _); (intro ad e; injection e with e; subst e; refine ⟨?_, ?_, ?_⟩ <;> simp [World.drew] <;> omega); (intro ad e; injection e with e; subst e; refine ⟨?_, ?_, ?_⟩ <;> simp [World.drew] <;> omega); (show _ ≤ _; omega))
          | (refine ⟨_, some ⟨w1.heap.size, 0, none⟩, some ⟨w1.heap.size + 1 + 1, 0, none⟩, rfl, (((HX1.out.alloc _).alloc _).alloc _).below (Below.drew (Below.refl _ _)), ?_, ?_, ?_, ?_, ?_, ?_⟩; rotate_left; (first | exact blk3_0 _ _ _ _ _ | exact blk3_1 _ _ _ _ _ | exact blk3_2 _ _ _ _ _); (first | exact rints3_0 _ _ _ _ _ | exact rints3_1 _ _ _ _ _ | exact rints3_2 _ _ _ _ _); (first | exact rints3_0 _ _ _ _ _ | exact rints3_1 _ _ _ _ _ | exact rints3_2 _ _ _ _ _); (intro ad e; injection e with e; subst e; refine ⟨?_, ?_, ?_⟩ <;> simp [World.drew] <;> omega); (intro ad e; injection e with e; subst e; refine ⟨?_, ?_, ?_⟩ <;> simp [World.drew] <;> omega); (show _ ≤ _; omega))
          | (refine ⟨_, some ⟨w1.heap.size + 1, 0, none⟩, some ⟨w1.heap.size, 0, none⟩, rfl, (((HX1.out.alloc _).alloc _).alloc _).below (Below.drew (Below.refl _ _)), ?_, ?_, ?_, ?_, ?_, ?_⟩; rotate_left; (first | exact blk3_0 _ _ _ _ _ | exact blk3_1 _ _ _ _ _ | exact blk3_2 _ _ _ _ _); (first | exact rints3_0 _ _ _ _ _ | exact rints3_1 _ _ _ _ _ | exact rints3_2 _ _ _ _ _); (first | exact rints3_0 _ _ _ _ _ | exact rints3_1 _ _ _ _ _ | exact rints3_2 _ _ _ _ _); (intro ad e; injection e with e; subst e; refine ⟨?_, ?_, ?_⟩ <;> simp [World.drew] <;> omega); (intro ad e; injection e with e; subst e; refine ⟨?_, ?_, ?_⟩ <;> simp [World.drew] <;> omega); (show _ ≤ _; omega))
          | (refine ⟨_, some ⟨w1.heap.size + 1, 0, none⟩, some ⟨w1.heap.size + 1 + 1, 0, none⟩, rfl, (((HX1.out.alloc _).alloc _).alloc _).below (Below.drew (Below.refl _ _)), ?_, ?_, ?_, ?_, ?_, ?_⟩; rotate_left; (first | exact blk3_0 _ _ _ _ _ | exact blk3_1 _ _ _ _ _ | exact blk3_2 _ _ _ _ _); (first | exact rints3_0 _ _ _ _ _ | exact rints3_1 _ _ _ _ _ | exact rints3_2 _ _ _ _ _); (first | exact rints3_0 _ _ _ _ _ | exact rints3_1 _ _ _ _ _ | exact rints3_2 _ _ _ _ _); (intro ad e; injection e with e; subst e; refine ⟨?_, ?_, ?_⟩ <;> simp [World.drew] <;> omega); (intro ad e; injection e with e; subst e; refine ⟨?_, ?_, ?_⟩ <;> simp [World.drew] <;> omega); (show _ ≤ _; omega))
          | (refine ⟨_, some ⟨w1.heap.size + 1 + 1, 0, none⟩, some ⟨w1.heap.size, 0, none⟩, rfl, (((HX1.out.alloc _).alloc _).alloc _).below (Below.drew (Below.refl _ _)), ?_, ?_, ?_, ?_, ?_, ?_⟩; rotate_left; (first | exact blk3_0 _ _ _ _ _ | exact blk3_1 _ _ _ _ _ | exact blk3_2 _ _ _ _ _); (first | exact rints3_0 _ _ _ _ _ | exact rints3_1 _ _ _ _ _ | exact rints3_2 _ _ _ _ _); (first | exact rints3_0 _ _ _ _ _ | exact rints3_1 _ _ _ _ _ | exact rints3_2 _ _ _ _ _); (intro ad e; injection e with e; subst e; refine ⟨?_, ?_, ?_⟩ <;> simp [World.drew] <;> omega); (intro ad e; injection e with e; subst e; refine ⟨?_, ?_, ?_⟩ <;> simp [World.drew] <;> omega); (show _ ≤ _; omega))
          | (refine ⟨_, some ⟨w1.heap.size + 1 + 1, 0, none⟩, some ⟨w1.heap.size + 1, 0, none⟩, rfl, (((HX1.out.alloc _).alloc _).alloc _).below (Below.drew (Below.refl _ _)), ?_, ?_, ?_, ?_, ?_, ?_⟩; rotate_left; (first | exact blk3_0 _ _ _ _ _ | exact blk3_1 _ _ _ _ _ | exact blk3_2 _ _ _ _ _); (first | exact rints3_0 _ _ _ _ _ | exact rints3_1 _ _ _ _ _ | exact rints3_2 _ _ _ _ _); (first | exact rints3_0 _ _ _ _ _ | exact rints3_1 _ _ _ _ _ | exact rints3_2 _ _ _ _ _); (intro ad e; injection e with e; subst e; refine ⟨?_, ?_, ?_⟩ <;> simp [World.drew] <;> omega); (intro ad e; injection e with e; subst e; refine ⟨?_, ?_, ?_⟩ <;> simp [World.drew] <;> omega); (show _ ≤ _; omega))
    case rest =>
      obtain ⟨g, A1, A2, rfl, hPX, hg, hO, hA1, hA2, hd1, hd2⟩ := hcut
      have c17 := hPX.out.pc.2.2.2.2.2.2.2.2.2.2.2.2.2.2.2.2.2.1
      have HGl : Hid (g < wc.heap.size) := hO.out.lt
      go_wp2_with fail
      clear c17
      obtain ⟨B, hB⟩ : ∃ B, B = wc.heap.size := ⟨_, rfl⟩
      rw [← hB] at hd1 hd2 HGl
      have HF1 : Hid (∀ ad, A1 = some ad → ad.block ≠ w.heap.size + 1) := fun ad e => by have := (hd1.out ad e).2.2; omega
      have HF2 : Hid (∀ ad, A2 = some ad → ad.block ≠ w.heap.size + 1) := fun ad e => by have := (hd2.out ad e).2.2; omega
      have HB : Hid (B ≤ wc.heap.size) := Nat.le_of_eq hB
      have HB2 : Hid (w.heap.size + 2 ≤ B) := Nat.le_trans hg.out (Nat.le_of_lt HGl.out)
      clear hB
      go_loopw [23] (fun s23 wr => ∃ (k : Nat) (v : Value), k ≤ x.loads.length ∧ s23 = .int .i64 k ∧ Hid (PX x PnM.zero w wr) ∧ Hid (Blk wr g 37 #[.slice A1 x.buy.l.length x.buy.l.length, .slice A2 x.buy.l.length x.buy.l.length, v]) ∧
          Hid (RInts wr A1 (List.replicate x.buy.l.length 0)) ∧ Hid (RInts wr A2 (List.replicate x.buy.l.length 0)) ∧ Hid (wr.ownsRow B 3 1 v k (ints (x.p.earlies k))) ∧ Hid (B ≤ wr.heap.size))
        (fun s23 _ => x.loads.length - (intOf s23).toNat)
      case atStart => exact ⟨0, _, by omega, rfl, hPX.out, hO.out, hA1.out, hA2.out, World.ownsRow_nil _ _ _ _, HB.out⟩
      case round =>
        obtain ⟨k, v, hk, rfl, hX, hW, hI1, hI2, hown, hBw⟩ := hrel
        obtain ⟨wo, hwo⟩ : ∃ wo : World, wo = wr := ⟨_, rfl⟩
        subst hwo
        obtain ⟨A3, c3, rfl⟩ := own_form hown.out
        have hWl : Hid (g < wo.heap.size) := hW.out.lt
        by_cases hlt : k < x.loads.length
        · obtain ⟨b, of, hAe, hb, y0, y1, y2, y3⟩ := (hX.out.pr hP.out).loads.at' hlt
          have HSU := Lib.hid (hsu.out k hlt)
          generalize x.loads[k] = X at *
          rw [hAe]
          have z0 := hW.out.cell 0
          have z1 := hW.out.cell 1
          have z2 := hW.out.cell 2
          have f2 := hW.out.frozen 2
          simp at z0 z1 z2
          have i1 : (0 : Int) ≤ (k : Int) := by omega
          have i2 : (k : Int) < (x.loads.length : Int) := by omega
          have hgl := hWl.out
          clear hAe
          go_wp2_with (at_builtin; refine wpList_append_newGH _ (wo.alloc (.cells #[.string X.r.name, .slice X.A X.r.prof.length X.c, .int .i64 X.r.early, .int .i64 X.r.late] 52)) (wo.heap.size + 1) (by simp) rfl _ _ 22 rfl B 3 i0 (.int .i64 0) 1 8 Try.underlying22 hi hz0 hz1 hz2 rfl (by decide) (by decide) _ k (ints (x.p.earlies k)) rfl (hown.out.alloc _) #[.int .i64 X.r.early] rfl (one_int _ _) rfl rfl (by omega) (by have := hBw.out; simp; omega) ?_)
          intro v' wb hob hgb hvb
          have hbO := (((Below.refl B wo).alloc hBw.out (.cells #[.string X.r.name, .slice X.A X.r.prof.length X.c, .int .i64 X.r.early, .int .i64 X.r.late] 52)).grown hgb (by have := hBw.out; simp; omega) (fun m hm => (hown.out.lt m hm).1))
          have hXb := Lib.hid (hX.out.above hbO HB2.out)
          have hWb := Lib.hid (hW.out.below hbO HGl.out)
          have hI1b := Lib.hid (hI1.out.under hbO (fun ad e => (hd1.out ad e).2.1))
          have hI2b := Lib.hid (hI2.out.under hbO (fun ad e => (hd2.out ad e).2.1))
          have hBwb := Lib.hid (Nat.le_trans hBw.out hbO.size)
          obtain ⟨A4, c4, rfl⟩ := own_form hob
          have hownb : Hid ((wb.setCell ⟨g, 2, none⟩ (.slice A4 (k + 1) c4)).ownsRow B 3 1 (.slice A4 (k + 1) c4) (k + 1) (ints (x.p.earlies (k + 1)))) := by
            show World.ownsRow _ _ _ _ _ _ _
            rw [HSU.out, ints_append]
            exact own_setCell hob (p := ⟨g, 2, none⟩) HGl.out _
          clear hbO hob hgb hvb z0 z1 z2 f2 y0 y1 y2 y3
          have z0 := hWb.out.cell 0
          have z1 := hWb.out.cell 1
          have z2 := hWb.out.cell 2
          have f2 := hWb.out.frozen 2
          simp at z0 z1 z2
          go_wp2_with fail
          go_roundw
          case rel =>
            refine ⟨k + 1, _, by omega, by go_num, ?_, ?_, hI1b.out.setFar (p := ⟨g, 2, none⟩) (fun ad e => (hd1.out ad e).1) _, hI2b.out.setFar (p := ⟨g, 2, none⟩) (fun ad e => (hd2.out ad e).1) _, hownb.out, ?_⟩
            · exact hXb.out.above ((Below.refl (w.heap.size + 2) wb).setCell hg.out _) (Nat.le_refl _)
            · show Blk _ _ _ _
              have := hWb.out.set_ 2 (.slice A4 (k + 1) c4)
              simpa using this
            · show _ ≤ _
              simpa [World.setCell] using hBwb.out
          case measure => simp [intOf]; omega
        · have hkn : k = x.loads.length := by omega
          have z0 := hW.out.cell 0
          have z1 := hW.out.cell 1
          have z2 := hW.out.cell 2
          simp at z0 z1 z2
          have b0 := hX.out.q.cell 0
          have b1 := hX.out.q.cell 1
          have b2 := hX.out.q.cell 2
          have e0 := hX.out.q.frozen 0
          have e1 := hX.out.q.frozen 1
          have e2 := hX.out.q.frozen 2
          simp [PnM.zero, PnM.cs] at b0 b1 b2
          have q1 : ¬ (w.heap.size + 1 = g) := by have := hg.out; omega
          have q2 : ¬ (g = w.heap.size + 1) := by have := hg.out; omega
          have hnlt : ¬ (k : Int) < (x.loads.length : Int) := by omega
          have HKN := Lib.hid hkn
          clear hkn hlt
          go_wp2_with fail
          refine bodyPost_ret (v := .agg #[.slice A1 x.buy.l.length x.buy.l.length, .slice A2 x.buy.l.length x.buy.l.length, .slice A3 k c3]) (by simp [results, Try.results20, go_sem, b0, b1, b2]) rfl ?_
          have hcap := own_cap hown.out
          have hel : (x.p.earlies k).length = k := hln.out k hk
          refine ⟨⟨⟨A1, x.buy.l.length, List.replicate x.buy.l.length 0⟩, ⟨A2, x.buy.l.length, List.replicate x.buy.l.length 0⟩, ⟨A3, c3, x.p.earlies k⟩⟩, by rw [hid2.out, ← HKN.out]; rfl, ?_, ?_, ?_, ?_⟩
          · simp only [PnM.v, List.length_replicate, hel]
          · have hI3 : RInts wo A3 (x.p.earlies k) := by
              have := Reads.of_own hown.out
              unfold RInts
              rw [hel]; exact this
            have hf : ∀ ad, A3 = some ad → ad.block ≠ w.heap.size + 1 := fun ad e => by
              have h1 := own_fresh hown.out ad e
              have h2 := HB2.out
              omega
            have hf1 : ∀ ad, A1 = some ad → ad.block ≠ w.heap.size + 1 := HF1.out
            have hf2 : ∀ ad, A2 = some ad → ad.block ≠ w.heap.size + 1 := HF2.out
            refine ⟨?_, ?_, ?_⟩
            · exact ((hI1.out.setFar (p := ⟨w.heap.size + 1, 0, none⟩) hf1 _).setFar (p := ⟨w.heap.size + 1, 1, none⟩) hf1 _).setFar (p := ⟨w.heap.size + 1, 2, none⟩) hf1 _
            · exact ((hI2.out.setFar (p := ⟨w.heap.size + 1, 0, none⟩) hf2 _).setFar (p := ⟨w.heap.size + 1, 1, none⟩) hf2 _).setFar (p := ⟨w.heap.size + 1, 2, none⟩) hf2 _
            · exact ((hI3.setFar (p := ⟨w.heap.size + 1, 0, none⟩) hf _).setFar (p := ⟨w.heap.size + 1, 1, none⟩) hf _).setFar (p := ⟨w.heap.size + 1, 2, none⟩) hf _
          · simp only [List.length_replicate, hel]
            exact ⟨Nat.le_refl _, Nat.le_refl _, hcap⟩
          · exact ((hX.out.bel.setCell (by simp) _).setCell (by simp) _).setCell (by simp) _
  · have hid : x.p.idle = Pn.zero := by unfold Pb.idle; rw [if_pos hck]
    rw [hid]
    have hn : (x.p.chk != 0) = true := by simpa using hck
    generalize x.p.chk = ck at *
    have hc := Lib.hid hc0
    clear hc0 hck hid
    go_enter Try.func20, Try.ntmps20
    go_upto_region 1 with fail
    rw [← hWH.out]
    clear hWH
    go_wp2_with (refine wpList_load_problem rfl _ rfl w.heap.size rfl x hst.out.p ?_)
    refine (hc.out _ (hst.out.pr hP.out)).mono ?_
    rintro e w1 ⟨rfl, hb1⟩
    have HX1 := Lib.hid (hst.out.below hb1)
    clear hb1 hst
    have b0 := HX1.out.q.cell 0
    have b1 := HX1.out.q.cell 1
    have b2 := HX1.out.q.cell 2
    have e0 := HX1.out.q.frozen 0
    have e1 := HX1.out.q.frozen 1
    have e2 := HX1.out.q.frozen 2
    simp [PnM.zero, PnM.cs] at b0 b1 b2
    go_wp2_with fail
    refine bodyPost_ret (v := .agg #[.slice none 0 0, .slice none 0 0, .slice none 0 0]) (by simp [results, Try.results20, go_sem, b0, b1, b2]) rfl ?_
    exact ⟨PnM.zero, rfl, rfl, RPn.zero _, ⟨Nat.le_refl _, Nat.le_refl _, Nat.le_refl _⟩, ((HX1.out.bel.setCell (by simp) _).setCell (by simp) _).setCell (by simp) _⟩
end Go.Proofs.Ytdheockmphdakaa

/-
  The walks of layer 42 (plan), part 11: short, small, brief of the laws.
-/
namespace Go.Proofs.Ytdheockmphdakaa
open Go.RowKit
attribute [local go_sem ↓] Go.wp_at_zero Go.wp_at_succ

def shortM (l : List IntsM) : Bool := l.all fun x => decide (x.l.length ≤ 100)
theorem shortM_bad {l : List IntsM} {k : Nat} (hk : k < l.length) (h : 100 < l[k].l.length) : shortM l = false := by
  rw [← Bool.not_eq_true]
  unfold shortM
  rw [List.all_eq_true]
  intro hh
  have := hh _ (List.getElem_mem hk)
  simp at this; omega
theorem shortM_take {l : List IntsM} {k : Nat} (hk : k < l.length) (h : shortM (l.take k) = true) (h1 : l[k].l.length ≤ 100) : shortM (l.take (k + 1)) = true := by
  unfold shortM at *
  rw [List.take_succ_eq_append_getElem hk, List.all_append, h]
  simp [h1]
theorem rrows_lit (w : World) (l : List IntsM) (t : TypeId) (h : ∀ x ∈ l, RInts w x.A x.l) : RRows (w.alloc (.cells (rowCells l).toArray t)) (some ⟨w.heap.size, 0, none⟩) l := by
  refine ⟨⟨by rw [rowCells_length, Nat.mul_one], fun _ => ⟨_, rfl, by simp, fun j u hu => ?_⟩⟩, fun x hx => (h x hx).alloc _⟩
  have hadd : (⟨w.heap.size, 0, none⟩ : Addr).add j = ⟨w.heap.size, j, none⟩ := by unfold Addr.add; split <;> simp_all
  rw [hadd, (Blk.new w t _).cell j, ← hu]
  simp

set_option maxHeartbeats 4000000 in
theorem short_any (A : Option Addr) (c : Nat) (l : List IntsM) (w : World) (hA0 : RRows w A l) (hl : l.length ≤ 1000000) :
    Calls Try.prog 31 #[.slice A l.length c] w fun e w' => e = .returned (.bool (shortM l)) ∧ w = w' := by
  have hA := Lib.hid hA0
  clear hA0
  obtain ⟨n, hn⟩ : ∃ n, n = l.length := ⟨_, rfl⟩
  have HN := Lib.hid hn
  rw [← hn] at hl ⊢
  clear hn
  go_enter Try.func31, Try.ntmps31
  go_wp2_with fail
  go_loopw [7] (fun i' wr => ∃ k : Nat, k ≤ n ∧ i' = .int .i64 k ∧ Hid (shortM (l.take k) = true) ∧ w = wr)
    (fun i' _ => n - (intOf i').toNat)
  case atStart => exact ⟨0, by omega, rfl, by show shortM (l.take 0) = true; simp [shortM], rfl⟩
  case round =>
    obtain ⟨k, hkm, rfl, hto, rfl⟩ := hrel
    by_cases hlt : k < n
    · have hkl : k < l.length := by rw [← HN.out]; exact hlt
      obtain ⟨b, of, hAe, hb, z0⟩ := hA.out.at' hkl
      subst hAe
      have hbad := Lib.hid (shortM_bad hkl)
      have hgo := Lib.hid (shortM_take hkl hto.out)
      generalize l[k] = X at *
      by_cases h1 : (100 : Int) < (X.l.length : Int)
      · have hz : Hid (shortM l = false) := hbad.out (by omega)
        go_wp2_with fail
        go_ret
        exact ⟨ret_bool hz.out.symm, rfl⟩
      · have hz : Hid (shortM (l.take (k + 1)) = true) := hgo.out (by omega)
        go_wp2_with fail
        go_roundw
        case rel => exact ⟨k + 1, by omega, by go_num, hz, trivial⟩
        case measure => simp [intOf]; omega
    · have hz : Hid (shortM l = true) := by
        show _ = _
        have h := hto.out
        rwa [List.take_of_length_le (by rw [← HN.out]; omega)] at h
      go_wp2_with fail
      go_ret
      exact ⟨ret_bool hz.out.symm, rfl⟩

def briefM (y : PnM) : Bool := shortM [y.charge, y.heat, y.start]
set_option maxHeartbeats 4000000 in
theorem brief_any (y : PnM) (w : World) (hQ : RPn w y) :
    Calls Try.prog 14 #[y.v] w fun e w' => e = .returned (.bool (briefM y)) ∧ Below w.heap.size w w' := by
  have hr := rrows_lit (w.alloc (.cells y.cs 37)) [y.charge, y.heat, y.start] 22 (by
    intro z hz
    simp only [List.mem_cons, List.not_mem_nil, or_false] at hz
    rcases hz with rfl | rfl | rfl
    · exact hQ.charge.alloc _
    · exact hQ.heat.alloc _
    · exact hQ.start.alloc _)
  rw [World.size_alloc] at hr
  have hs := Lib.hid (short_any _ 3 _ _ hr (by simp))
  have hO : Hid (Below w.heap.size w ((w.alloc (.cells y.cs 37)).alloc (.cells (rowCells [y.charge, y.heat, y.start]).toArray 22))) := ((Below.refl _ _).alloc (Nat.le_refl _) _).alloc (by simp) _
  simp only [PnM.v]
  clear hr hQ
  go_enter Try.func14, Try.ntmps14
  go_wp2_with fail
  refine (hs.out).mono ?_
  rintro e w1 ⟨rfl, rfl⟩
  go_wp2_with fail
  go_ret
  exact ⟨rfl, hO.out⟩

def loadsM (l : List LdM) : Bool := l.all fun y => decide (y.r.prof.length ≤ 100) && decide (y.r.name.size ≤ 100)
def PbM.lists (x : PbM) : List IntsM := [x.buy, x.sell, x.solar, x.demand, x.outside, x.low, x.high]
def smallM (x : PbM) : Bool := decide (x.loads.length ≤ 6) && (loadsM x.loads && shortM x.lists)
theorem loadsM_bad {l : List LdM} {k : Nat} (hk : k < l.length) (h : 100 < l[k].r.prof.length ∨ 100 < l[k].r.name.size) : loadsM l = false := by
  rw [← Bool.not_eq_true]
  unfold loadsM
  rw [List.all_eq_true]
  intro hh
  have := hh _ (List.getElem_mem hk)
  simp at this; omega
theorem loadsM_take {l : List LdM} {k : Nat} (hk : k < l.length) (h : loadsM (l.take k) = true) (h1 : l[k].r.prof.length ≤ 100) (h2 : l[k].r.name.size ≤ 100) : loadsM (l.take (k + 1)) = true := by
  unfold loadsM at *
  rw [List.take_succ_eq_append_getElem hk, List.all_append, h]
  simp [h1, h2]
theorem smallM_true {x : PbM} (h : smallM x = true) : x.loads.length ≤ 6 ∧ (∀ y ∈ x.loads, y.r.prof.length ≤ 100 ∧ y.r.name.size ≤ 100) ∧ x.buy.l.length ≤ 100 ∧ x.sell.l.length ≤ 100 ∧ x.solar.l.length ≤ 100 ∧ x.demand.l.length ≤ 100 ∧ x.outside.l.length ≤ 100 ∧ x.low.l.length ≤ 100 ∧ x.high.l.length ≤ 100 := by
  simp only [smallM, Bool.and_eq_true, decide_eq_true_eq, loadsM, shortM, List.all_eq_true, PbM.lists] at h
  refine ⟨h.1, h.2.1, ?_⟩
  have h2 := h.2.2
  simpa using h2

set_option maxRecDepth 100000 in
set_option maxHeartbeats 8000000 in
theorem small_any (x : PbM) (w : World) (hP0 : RPb w x) :
    Calls Try.prog 10 #[x.v] w fun e w' => e = .returned (.bool (smallM x)) ∧ Below w.heap.size w w' := by
  have hP := Lib.hid hP0
  have hst : Hid (Blk (w.alloc (.cells x.cs 31)) w.heap.size 31 x.cs) := Blk.new _ _ _
  have hO : Hid (Below w.heap.size w (w.alloc (.cells x.cs 31))) := (Below.refl _ _).alloc (Nat.le_refl _) _
  simp only [PbM.v]
  clear hP0
  by_cases h6 : (6 : Int) < (x.loads.length : Int)
  · have hz : Hid (smallM x = false) := by show _ = _; unfold smallM; rw [decide_eq_false (by omega)]; rfl
    go_enter Try.func10, Try.ntmps10
    go_wp2_with fail
    go_ret
    exact ⟨ret_bool hz.out.symm, hO.out⟩
  · go_enter Try.func10, Try.ntmps10
    go_wp2_with fail
    go_loopw [12] (fun i' wr => ∃ k : Nat, k ≤ x.loads.length ∧ i' = .int .i64 k ∧ Hid (loadsM (x.loads.take k) = true) ∧ Hid (Blk wr w.heap.size 31 x.cs) ∧ Hid (Below w.heap.size w wr))
      (fun i' _ => x.loads.length - (intOf i').toNat)
    case atStart => exact ⟨0, by omega, rfl, by show loadsM (x.loads.take 0) = true; simp [loadsM], hst.out, hO.out⟩
    case round =>
      obtain ⟨k, hkm, rfl, hto, hX, hB⟩ := hrel
      obtain ⟨wo, hwo⟩ : ∃ wo : World, wo = wr := ⟨_, rfl⟩
      subst hwo
      have hlw : w.heap.size < wo.heap.size := hX.out.lt
      by_cases hlt : k < x.loads.length
      · obtain ⟨b, of, hAe, hb, z0, z1, z2, z3⟩ := (hP.out.below hB.out).loads.at' hlt
        have hpr := (hP.out.below hB.out).loads.prof hlt
        rw [hAe]
        have hbad := Lib.hid (loadsM_bad hlt)
        have hgo := Lib.hid (loadsM_take hlt hto.out)
        generalize x.loads[k] = X at *
        have hr := rrows_lit (wo.alloc (.cells #[.string X.r.name, .slice X.A X.r.prof.length X.c, .int .i64 X.r.early, .int .i64 X.r.late] 52)) [⟨X.A, X.c, X.r.prof⟩] 22 (by
          intro z hz
          rw [List.mem_singleton] at hz
          subst hz
          exact hpr.alloc _)
        rw [World.size_alloc] at hr
        have hs0 := short_any _ 1 _ _ hr (by simp)
        have hxb : Hid (Blk ((wo.alloc (.cells #[.string X.r.name, .slice X.A X.r.prof.length X.c, .int .i64 X.r.early, .int .i64 X.r.late] 52)).alloc (.cells (rowCells [⟨X.A, X.c, X.r.prof⟩]).toArray 22)) w.heap.size 31 x.cs) := (hX.out.alloc _).alloc _
        have hob : Hid (Below w.heap.size w ((wo.alloc (.cells #[.string X.r.name, .slice X.A X.r.prof.length X.c, .int .i64 X.r.early, .int .i64 X.r.late] 52)).alloc (.cells (rowCells [⟨X.A, X.c, X.r.prof⟩]).toArray 22))) := (hB.out.alloc hB.out.size _).alloc (by simp; omega) _
        have hsv : shortM [⟨X.A, X.c, X.r.prof⟩] = decide (X.r.prof.length ≤ 100) := by simp [shortM]
        rw [hsv] at hs0
        clear hr hpr hAe hsv
        by_cases h1 : X.r.prof.length ≤ 100
        · rw [decide_eq_true h1] at hs0
          have hs := Lib.hid hs0
          clear hs0
          by_cases h2 : (100 : Int) < (X.r.name.size : Int)
          · have hz : Hid (smallM x = false) := by show _ = _; unfold smallM; rw [hbad.out (.inr (by omega))]; simp
            go_wp2_with fail
            refine hs.out.mono ?_
            rintro e w1 ⟨rfl, rfl⟩
            go_wp2_with fail
            go_ret
            exact ⟨ret_bool hz.out.symm, hob.out⟩
          · have hz := Lib.hid (hgo.out h1 (by omega))
            go_wp2_with fail
            refine hs.out.mono ?_
            rintro e w1 ⟨rfl, rfl⟩
            go_wp2_with fail
            go_roundw
            case rel => exact ⟨k + 1, by omega, by go_num, hz.out, hxb.out, hob.out⟩
            case measure => simp [intOf]; omega
        · have hz : Hid (smallM x = false) := by show _ = _; unfold smallM; rw [hbad.out (.inl (by omega))]; simp
          rw [decide_eq_false h1] at hs0
          have hs := Lib.hid hs0
          clear hs0
          go_wp2_with fail
          refine hs.out.mono ?_
          rintro e w1 ⟨rfl, rfl⟩
          go_wp2_with fail
          go_ret
          exact ⟨ret_bool hz.out.symm, hob.out⟩
      · have hla : loadsM x.loads = true := by
          have h := hto.out
          rwa [List.take_of_length_le (by omega)] at h
        have hR := hP.out.below hB.out
        have hr := rrows_lit wo x.lists 22 (by
          intro z hz
          simp only [PbM.lists, List.mem_cons, List.not_mem_nil, or_false] at hz
          rcases hz with rfl | rfl | rfl | rfl | rfl | rfl | rfl
          · exact hR.buy
          · exact hR.sell
          · exact hR.solar
          · exact hR.demand
          · exact hR.outside
          · exact hR.low
          · exact hR.high)
        have hs := Lib.hid (short_any _ 7 _ _ hr (by simp [PbM.lists]))
        have hz : Hid (smallM x = shortM x.lists) := by show _ = _; unfold smallM; rw [hla, decide_eq_true (by omega)]; simp
        have hob : Hid (Below w.heap.size w (wo.alloc (.cells (rowCells x.lists).toArray 22))) := hB.out.alloc hB.out.size _
        obtain ⟨c0, c1, -, c3, c4, c5, -, -, -, -, -, -, -, -, -, c15, c16, -, -, -⟩ := PbC.of_blk hX.out
        clear hr hR hla
        go_wp2_with fail
        refine hs.out.mono ?_
        rintro e w1 ⟨rfl, rfl⟩
        go_wp2_with fail
        go_ret
        exact ⟨ret_bool hz.out.symm, hob.out⟩
end Go.Proofs.Ytdheockmphdakaa
