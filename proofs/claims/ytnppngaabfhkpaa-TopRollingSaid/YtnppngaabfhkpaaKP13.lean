/-
  The walks of layer 42 (plan), part 9: Run whole, Value of both, SameTrace, SamePlan.
-/
import Derived.Test.YtnppngaabfhkpaaKP12
import Derived.Test.YtnppngaabfhkpaaKL16
import Derived.Test.YtnppngaabfhkpaaKBR1
namespace Go.Proofs.Ytnppngaabfhkpaa
open Go.RowKit
attribute [local go_sem ↓] Go.wp_at_zero Go.wp_at_succ

theorem prun_any (x : PbM) (y : PnM) (w : World) (hP : RPb w x) (hQ : RPn w y) (hF : x.Fit) (hG : y.Fit) : Calls Try.prog 93 #[x.v, y.v] w (RunOut (x.p.trace y.x) (x.p.err y.x) w) := by
  by_cases h : x.p.chk = 0
  · by_cases h2 : x.p.form y.x = 0
    · exact prun_loop x y w hP hQ hF hG h h2
    · rw [(Pb.err_form h h2).1, (Pb.err_form h h2).2]; exact prun_form x y w hP hQ hF hG h h2
  · rw [(Pb.err_chk (x := y.x) h).1, (Pb.err_chk (x := y.x) h).2]; exact prun_chk x y w hP hF h
set_option maxRecDepth 100000 in
set_option maxHeartbeats 16000000 in
theorem pvalue_any (x : PbM) (y : PnM) (w : World) (hP0 : RPb w x) (hQ0 : RPn w y) (hF : x.Fit) (hG : y.Fit) :
    Calls Try.prog 47 #[x.v, y.v] w fun e w' => e = .returned (.tuple #[.int .i64 (x.p.trace y.x).cost, .bool (x.p.err y.x == 0)]) ∧ Below w.heap.size w w' := by
  have hP := Lib.hid hP0
  have hQ := Lib.hid hQ0
  have hr := Lib.hid (fun W (h : RPb W x) (h2 : RPn W y) => prun_any x y W h h2 hF hG)
  have hst0 := PX.start x y w
  generalize x.p.trace y.x = tr at *
  generalize x.p.err y.x = er at *
  simp only [PbM.v, PnM.v]
  clear hP0 hQ0 hF hG
  obtain ⟨W, hW⟩ : ∃ W, W = (w.alloc (.cells #[.slice x.buy.A x.buy.l.length x.buy.c, .slice x.sell.A x.sell.l.length x.sell.c, .int .i64 x.fuse, .slice x.solar.A x.solar.l.length x.solar.c, .slice x.demand.A x.demand.l.length x.demand.c, .slice x.outside.A x.outside.l.length x.outside.c, .int .i64 x.bat.cap, .int .i64 x.bat.reserve, .int .i64 x.bat.charge, .int .i64 x.bat.discharge, .int .i64 x.bat.eff, .int .i64 x.gain, .int .i64 x.loss, .int .i64 x.steps, .int .i64 x.power, .slice x.low.A x.low.l.length x.low.c, .slice x.high.A x.high.l.length x.high.c, .slice x.LA x.loads.length x.lc, .int .i64 x.level, .int .i64 x.temp] 31)).alloc (.cells #[.slice y.charge.A y.charge.l.length y.charge.c, .slice y.heat.A y.heat.l.length y.heat.c, .slice y.start.A y.start.l.length y.start.c] 33) := ⟨_, rfl⟩
  rw [show (w.alloc (.cells x.cs 31)).alloc (.cells y.cs 33) = W from hW.symm] at hst0
  have hst := Lib.hid hst0
  have hWH := Lib.hid hW
  clear hst0 hW
  go_enter Try.func47, Try.ntmps47
  go_upto_region 1 with fail
  rw [← hWH.out]
  clear hWH
  go_wp2_with (first | refine wpList_load_problem rfl _ rfl w.heap.size rfl x hst.out.p ?_ | refine wpList_load_plan rfl _ rfl (w.heap.size + 1) rfl y hst.out.q ?_)
  refine (hr.out _ (hst.out.pr hP.out) (hst.out.qr hQ.out)).mono ?_
  rintro e w1 ⟨m, hm, rfl, hrt, hb1⟩
  have HX := Lib.hid (hst.out.below hb1)
  have hc : Hid (m.cost = tr.cost) := by show _ = _; rw [← hm]; rfl
  simp only [TrM.v]
  clear hb1 hrt hm
  go_wp2_with fail
  go_ret2
  exact ⟨by rw [← hc.out]; rfl, (HX.out.alloc _).bel⟩

set_option maxRecDepth 100000 in
set_option maxHeartbeats 16000000 in
theorem sameplan_true (m m2 : PnM) (w : World) (hA0 : RPn w m) (hB0 : RPn w m2) (hx : m.x = m2.x) (h1 : m.charge.l.length < 1000000000) (h2 : m.heat.l.length < 1000000000) (h3 : m.start.l.length < 1000000000) :
    Calls Try.prog 48 #[m.v, m2.v] w fun e w' => e = .returned (.bool true) ∧ Below w.heap.size w w' := by
  have hA := Lib.hid hA0
  have hB := Lib.hid hB0
  have e1 : m.charge.l = m2.charge.l := congrArg Pn.charge hx
  have e2 : m.heat.l = m2.heat.l := congrArg Pn.heat hx
  have e3 : m.start.l = m2.start.l := congrArg Pn.start hx
  have k1 := fun W h h' => same_any m.charge.A m2.charge.A m.charge.c m2.charge.c m.charge.l m2.charge.l W h h' h1
  have k2 := fun W h h' => same_any m.heat.A m2.heat.A m.heat.c m2.heat.c m.heat.l m2.heat.l W h h' h2
  have k3 := fun W h h' => same_any m.start.A m2.start.A m.start.c m2.start.c m.start.l m2.start.l W h h' h3
  rw [decide_eq_true e1] at k1
  rw [decide_eq_true e2] at k2
  rw [decide_eq_true e3] at k3
  have K1 := Lib.hid k1
  have K2 := Lib.hid k2
  have K3 := Lib.hid k3
  simp only [PnM.v]
  clear hA0 hB0 hx e1 e2 e3 k1 k2 k3 h1 h2 h3
  go_enter Try.func48, Try.ntmps48
  go_wp2_with fail
  have hO : Below w.heap.size w _ := ((Below.refl _ _).alloc (Nat.le_refl _) (.cells m.cs 33)).alloc (by simp) (.cells m2.cs 33)
  refine (K1.out _ (hA.out.charge.below hO) (hB.out.charge.below hO)).mono ?_
  rintro e w1 ⟨rfl, hb1⟩
  obtain ⟨q1, q2, q3, q4⟩ := two_boxes hb1
  obtain ⟨-, z1, z2⟩ := PnC.of_blk q1
  obtain ⟨-, y1, y2⟩ := PnC.of_blk q2
  have HO1 := Lib.hid q4
  clear hO hb1 q1 q2 q3 q4
  go_wp2_with fail
  refine (K2.out _ (hA.out.heat.below HO1.out) (hB.out.heat.below HO1.out)).mono ?_
  rintro e w2 ⟨rfl, hb2⟩
  have HO2 := Lib.hid (HO1.out.trans (hb2.mono HO1.out.size))
  replace z2 := cell_below z2 hb2
  replace y2 := cell_below y2 hb2
  clear hb2 z1 y1
  go_wp2_with fail
  refine (K3.out _ (hA.out.start.below HO2.out) (hB.out.start.below HO2.out)).mono ?_
  rintro e w3 ⟨rfl, hb3⟩
  have HO3 := Lib.hid (HO2.out.trans (hb3.mono HO2.out.size))
  clear hb3 z2 y2
  go_wp2_with fail
  go_ret
  exact ⟨rfl, HO3.out⟩
end Go.Proofs.Ytnppngaabfhkpaa

/-
  The walks of layer 42 (plan), part 10: Idle of the program.
-/
namespace Go.Proofs.Ytnppngaabfhkpaa
open Go.RowKit
attribute [local go_sem ↓] Go.wp_at_zero Go.wp_at_succ

def Pn.zero : Pn := ⟨[], [], []⟩
def PnM.zero : PnM := ⟨⟨none, 0, []⟩, ⟨none, 0, []⟩, ⟨none, 0, []⟩⟩
theorem RPn.zero (W : World) : RPn W PnM.zero := ⟨RInts.nil, RInts.nil, RInts.nil⟩
theorem RInts.drew {w : World} {A : Option Addr} {l : List Int} (h : RInts w A l) : RInts w.drew A l := h

end Go.Proofs.Ytnppngaabfhkpaa

/-
  The walks of layer 42 (plan), part 11: short, small, brief of the laws.
-/
namespace Go.Proofs.Ytnppngaabfhkpaa
open Go.RowKit
attribute [local go_sem ↓] Go.wp_at_zero Go.wp_at_succ

theorem rrows_lit (w : World) (l : List IntsM) (t : TypeId) (h : ∀ x ∈ l, RInts w x.A x.l) : RRows (w.alloc (.cells (rowCells l).toArray t)) (some ⟨w.heap.size, 0, none⟩) l := by
  refine ⟨⟨by rw [rowCells_length, Nat.mul_one], fun _ => ⟨_, rfl, by simp, fun j u hu => ?_⟩⟩, fun x hx => (h x hx).alloc _⟩
  have hadd : (⟨w.heap.size, 0, none⟩ : Addr).add j = ⟨w.heap.size, j, none⟩ := by unfold Addr.add; split <;> simp_all
  rw [hadd, (Blk.new w t _).cell j, ← hu]
  simp

end Go.Proofs.Ytnppngaabfhkpaa
