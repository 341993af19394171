/-
  The walks of layer 42 (plan), part 16: SameRoom and Same of the reference, of equal problems.
-/
import Derived.Test.YtnppngaabfhkpaaJP17
import Derived.Laws.StructEq
namespace Go.Proofs.Ytnppngaabfhkpaa
open Go.RowKit
attribute [local go_sem ↓] Go.wp_at_zero Go.wp_at_succ
set_option maxRecDepth 100000 in
set_option maxHeartbeats 16000000 in
theorem sameroom_true (x z : PbM) (w : World) (hA0 : RPb w x) (hB0 : RPb w z) (h : x.room = z.room) (hl1 : x.low.l.length < 1000000000) (hl2 : x.high.l.length < 1000000000) :
    Calls Try.prog 86 #[.agg #[.int .i64 x.gain, .int .i64 x.loss, .int .i64 x.steps, .int .i64 x.power, .slice x.low.A x.low.l.length x.low.c, .slice x.high.A x.high.l.length x.high.c], .agg #[.int .i64 z.gain, .int .i64 z.loss, .int .i64 z.steps, .int .i64 z.power, .slice z.low.A z.low.l.length z.low.c, .slice z.high.A z.high.l.length z.high.c]] w fun e w' => e = .returned (.bool true) ∧ Below w.heap.size w w' := by
  have hA := Lib.hid hA0
  have hB := Lib.hid hB0
  have e0 : x.gain = z.gain := congrArg Rm.gain h
  have e1 : x.loss = z.loss := congrArg Rm.loss h
  have e2 : x.steps = z.steps := congrArg Rm.steps h
  have e3 : x.power = z.power := congrArg Rm.power h
  have e4 : x.low.l = z.low.l := congrArg Rm.low h
  have e5 : x.high.l = z.high.l := congrArg Rm.high h
  have k1 := fun W h h' => same_any x.low.A z.low.A x.low.c z.low.c x.low.l z.low.l W h h' hl1
  have k2 := fun W h h' => same_any x.high.A z.high.A x.high.c z.high.c x.high.l z.high.l W h h' hl2
  rw [decide_eq_true e4] at k1
  rw [decide_eq_true e5] at k2
  have K1 := Lib.hid k1
  have K2 := Lib.hid k2
  rw [e0, e1, e2, e3]
  have hO : Hid (Below w.heap.size w ((w.alloc (.cells #[.int .i64 z.gain, .int .i64 z.loss, .int .i64 z.steps, .int .i64 z.power, .slice x.low.A x.low.l.length x.low.c, .slice x.high.A x.high.l.length x.high.c] 28)).alloc (.cells #[.int .i64 z.gain, .int .i64 z.loss, .int .i64 z.steps, .int .i64 z.power, .slice z.low.A z.low.l.length z.low.c, .slice z.high.A z.high.l.length z.high.c] 28))) := ((Below.refl _ _).alloc (Nat.le_refl _) _).alloc (by simp) _
  clear hA0 hB0 h e0 e1 e2 e3 e4 e5 k1 k2 hl1 hl2
  go_enter Try.func86, Try.ntmps86
  have b0 : (z.gain == z.gain) = true := by simp
  have b1 : (z.loss == z.loss) = true := by simp
  have b2 : (z.steps == z.steps) = true := by simp
  have b3 : (z.power == z.power) = true := by simp
  go_wp2_with fail
  refine (K1.out _ (hA.out.low.below hO.out) (hB.out.low.below hO.out)).mono ?_
  rintro e w1 ⟨rfl, hb1⟩
  obtain ⟨q1, q2, q3, q4⟩ := two_boxes hb1
  have z5 := q1.cell 5
  have y5 := q2.cell 5
  simp at z5 y5
  have HO1 := Lib.hid q4
  clear hO hb1 q1 q2 q3 q4
  go_wp2_with fail
  refine (K2.out _ (hA.out.high.below HO1.out) (hB.out.high.below HO1.out)).mono ?_
  rintro e w2 ⟨rfl, hb2⟩
  have HO2 := Lib.hid (HO1.out.trans (hb2.mono HO1.out.size))
  clear hb2
  go_wp2_with fail
  go_ret
  exact ⟨rfl, HO2.out⟩
end Go.Proofs.Ytnppngaabfhkpaa
namespace Go.Proofs.Ytnppngaabfhkpaa
open Go.RowKit
attribute [local go_sem ↓] Go.wp_at_zero Go.wp_at_succ
structure SX42 (cs1 cs2 : Array Value) (w wr : World) : Prop where
  p : Blk wr w.heap.size 31 cs1
  q : Blk wr (w.heap.size + 1) 31 cs2
  bel : Below w.heap.size w wr
theorem SX42.below {cs1 cs2 : Array Value} {w wr w1 : World} (h : SX42 cs1 cs2 w wr) (hb : Below wr.heap.size wr w1) : SX42 cs1 cs2 w w1 :=
  ⟨h.p.below hb h.p.lt, h.q.below hb h.q.lt, h.bel.trans (hb.mono h.bel.size)⟩
theorem SX42.start (cs1 cs2 : Array Value) (w : World) : SX42 cs1 cs2 w ((w.alloc (.cells cs1 31)).alloc (.cells cs2 31)) := by
  obtain ⟨h1, h2, _, h3⟩ := two_boxes (w := w) (cs := cs1) (t := 31) (cs2 := cs2) (t2 := 31) (Below.refl _ _)
  exact ⟨h1, h2, h3⟩
theorem PbM.v_as {x z : PbM} (h : x.p = z.p) : x.v = .agg #[.slice x.buy.A x.buy.l.length x.buy.c, .slice x.sell.A x.sell.l.length x.sell.c, .int .i64 z.fuse, .slice x.solar.A x.solar.l.length x.solar.c, .slice x.demand.A x.demand.l.length x.demand.c, .slice x.outside.A x.outside.l.length x.outside.c, .int .i64 z.bat.cap, .int .i64 z.bat.reserve, .int .i64 z.bat.charge, .int .i64 z.bat.discharge, .int .i64 z.bat.eff, .int .i64 z.gain, .int .i64 z.loss, .int .i64 z.steps, .int .i64 z.power, .slice x.low.A x.low.l.length x.low.c, .slice x.high.A x.high.l.length x.high.c, .slice x.LA z.loads.length x.lc, .int .i64 z.level, .int .i64 z.temp] := by
  have e2 : x.fuse = z.fuse := congrArg (fun p => p.t.fuse) h
  have eb : x.bat = z.bat := congrArg Pb.bat h
  have er : x.room = z.room := congrArg Pb.room h
  have g0 : x.gain = z.gain := congrArg Rm.gain er
  have g1 : x.loss = z.loss := congrArg Rm.loss er
  have g2 : x.steps = z.steps := congrArg Rm.steps er
  have g3 : x.power = z.power := congrArg Rm.power er
  have e18 : x.level = z.level := congrArg Pb.level h
  have e19 : x.temp = z.temp := congrArg Pb.temp h
  have el : x.loads.length = z.loads.length := by
    have := congrArg (fun p => p.loads.length) h
    simpa [PbM.p] using this
  simp only [PbM.v, e2, eb, g0, g1, g2, g3, e18, e19, el]
set_option maxRecDepth 100000 in
set_option maxHeartbeats 32000000 in
theorem probsame_true (x z : PbM) (w : World) (hA0 : RPb w x) (hB0 : RPb w z) (h : x.p = z.p) (hsm : ∀ l ∈ [x.buy, x.sell, x.solar, x.demand, x.outside, x.low, x.high], l.l.length < 1000000000) (hll : x.loads.length ≤ 1000) (hpl : ∀ y ∈ x.loads, y.r.prof.length < 1000000000) :
    Calls Try.prog 41 #[x.v, z.v] w fun e w' => e = .returned (.bool true) ∧ Below w.heap.size w w' := by
  have hA := Lib.hid hA0
  have hB := Lib.hid hB0
  have k_buy := fun W h h' => same_any x.buy.A z.buy.A x.buy.c z.buy.c x.buy.l z.buy.l W h h' (hsm _ (by simp))
  rw [decide_eq_true (show x.buy.l = z.buy.l from congrArg (fun p => p.t.buy) h)] at k_buy
  have K_buy := Lib.hid k_buy
  clear k_buy
  have k_sell := fun W h h' => same_any x.sell.A z.sell.A x.sell.c z.sell.c x.sell.l z.sell.l W h h' (hsm _ (by simp))
  rw [decide_eq_true (show x.sell.l = z.sell.l from congrArg (fun p => p.t.sell) h)] at k_sell
  have K_sell := Lib.hid k_sell
  clear k_sell
  have k_solar := fun W h h' => same_any x.solar.A z.solar.A x.solar.c z.solar.c x.solar.l z.solar.l W h h' (hsm _ (by simp))
  rw [decide_eq_true (show x.solar.l = z.solar.l from congrArg Pb.solar h)] at k_solar
  have K_solar := Lib.hid k_solar
  clear k_solar
  have k_demand := fun W h h' => same_any x.demand.A z.demand.A x.demand.c z.demand.c x.demand.l z.demand.l W h h' (hsm _ (by simp))
  rw [decide_eq_true (show x.demand.l = z.demand.l from congrArg Pb.demand h)] at k_demand
  have K_demand := Lib.hid k_demand
  clear k_demand
  have k_outside := fun W h h' => same_any x.outside.A z.outside.A x.outside.c z.outside.c x.outside.l z.outside.l W h h' (hsm _ (by simp))
  rw [decide_eq_true (show x.outside.l = z.outside.l from congrArg Pb.outside h)] at k_outside
  have K_outside := Lib.hid k_outside
  clear k_outside
  have er : x.room = z.room := congrArg Pb.room h
  have kr : ∀ W, RPb W x → RPb W z → Calls Try.prog 86 #[.agg #[.int .i64 z.gain, .int .i64 z.loss, .int .i64 z.steps, .int .i64 z.power, .slice x.low.A x.low.l.length x.low.c, .slice x.high.A x.high.l.length x.high.c], .agg #[.int .i64 z.gain, .int .i64 z.loss, .int .i64 z.steps, .int .i64 z.power, .slice z.low.A z.low.l.length z.low.c, .slice z.high.A z.high.l.length z.high.c]] W (fun e w' => e = .returned (.bool true) ∧ Below W.heap.size W w') := fun W h1 h2 => by
    have h3 := sameroom_true x z W h1 h2 er (hsm _ (by simp)) (hsm _ (by simp))
    rw [show x.gain = z.gain from congrArg Rm.gain er, show x.loss = z.loss from congrArg Rm.loss er, show x.steps = z.steps from congrArg Rm.steps er, show x.power = z.power from congrArg Rm.power er] at h3
    exact h3
  have KR := Lib.hid kr
  have hrs : ∀ k (h1 : k < x.loads.length) (h2 : k < z.loads.length), x.loads[k].r = z.loads[k].r := fun k h1 h2 => by
    have h3 : x.p.loads[k]'(by simpa [PbM.p] using h1) = z.p.loads[k]'(by simpa [PbM.p] using h2) := by simp only [h]
    simpa [PbM.p] using h3
  have hel : x.loads.length = z.loads.length := by
    have := congrArg (fun p => p.loads.length) h
    simpa [PbM.p] using this
  have HRS := Lib.hid hrs
  have HEL := Lib.hid hel
  have HPL := Lib.hid hpl
  rw [PbM.v_as h, show z.v = .agg #[.slice z.buy.A z.buy.l.length z.buy.c, .slice z.sell.A z.sell.l.length z.sell.c, .int .i64 z.fuse, .slice z.solar.A z.solar.l.length z.solar.c, .slice z.demand.A z.demand.l.length z.demand.c, .slice z.outside.A z.outside.l.length z.outside.c, .int .i64 z.bat.cap, .int .i64 z.bat.reserve, .int .i64 z.bat.charge, .int .i64 z.bat.discharge, .int .i64 z.bat.eff, .int .i64 z.gain, .int .i64 z.loss, .int .i64 z.steps, .int .i64 z.power, .slice z.low.A z.low.l.length z.low.c, .slice z.high.A z.high.l.length z.high.c, .slice z.LA z.loads.length z.lc, .int .i64 z.level, .int .i64 z.temp] from rfl]
  have hst0 := SX42.start #[.slice x.buy.A x.buy.l.length x.buy.c, .slice x.sell.A x.sell.l.length x.sell.c, .int .i64 z.fuse, .slice x.solar.A x.solar.l.length x.solar.c, .slice x.demand.A x.demand.l.length x.demand.c, .slice x.outside.A x.outside.l.length x.outside.c, .int .i64 z.bat.cap, .int .i64 z.bat.reserve, .int .i64 z.bat.charge, .int .i64 z.bat.discharge, .int .i64 z.bat.eff, .int .i64 z.gain, .int .i64 z.loss, .int .i64 z.steps, .int .i64 z.power, .slice x.low.A x.low.l.length x.low.c, .slice x.high.A x.high.l.length x.high.c, .slice x.LA z.loads.length x.lc, .int .i64 z.level, .int .i64 z.temp] #[.slice z.buy.A z.buy.l.length z.buy.c, .slice z.sell.A z.sell.l.length z.sell.c, .int .i64 z.fuse, .slice z.solar.A z.solar.l.length z.solar.c, .slice z.demand.A z.demand.l.length z.demand.c, .slice z.outside.A z.outside.l.length z.outside.c, .int .i64 z.bat.cap, .int .i64 z.bat.reserve, .int .i64 z.bat.charge, .int .i64 z.bat.discharge, .int .i64 z.bat.eff, .int .i64 z.gain, .int .i64 z.loss, .int .i64 z.steps, .int .i64 z.power, .slice z.low.A z.low.l.length z.low.c, .slice z.high.A z.high.l.length z.high.c, .slice z.LA z.loads.length z.lc, .int .i64 z.level, .int .i64 z.temp] w
  rw [hel] at hll
  have hg : Try.prog.eqGuardType Try.prog.depth 26 = false := by kernel_rfl
  clear hA0 hB0 h hsm er kr hrs hel hpl
  have b0 : (z.fuse != z.fuse) = false := by simp
  have b1 : (z.level != z.level) = false := by simp
  have b2 : (z.temp != z.temp) = false := by simp
  have b3 : ((z.loads.length : Int) != (z.loads.length : Int)) = false := by simp
  have b4 : (z.bat.cap == z.bat.cap) = true := by simp
  have b5 : (z.bat.reserve == z.bat.reserve) = true := by simp
  have b6 : (z.bat.charge == z.bat.charge) = true := by simp
  have b7 : (z.bat.discharge == z.bat.discharge) = true := by simp
  have b8 : (z.bat.eff == z.bat.eff) = true := by simp
  obtain ⟨W, hW⟩ : ∃ W, W = (w.alloc (.cells #[.slice x.buy.A x.buy.l.length x.buy.c, .slice x.sell.A x.sell.l.length x.sell.c, .int .i64 z.fuse, .slice x.solar.A x.solar.l.length x.solar.c, .slice x.demand.A x.demand.l.length x.demand.c, .slice x.outside.A x.outside.l.length x.outside.c, .int .i64 z.bat.cap, .int .i64 z.bat.reserve, .int .i64 z.bat.charge, .int .i64 z.bat.discharge, .int .i64 z.bat.eff, .int .i64 z.gain, .int .i64 z.loss, .int .i64 z.steps, .int .i64 z.power, .slice x.low.A x.low.l.length x.low.c, .slice x.high.A x.high.l.length x.high.c, .slice x.LA z.loads.length x.lc, .int .i64 z.level, .int .i64 z.temp] 31)).alloc (.cells #[.slice z.buy.A z.buy.l.length z.buy.c, .slice z.sell.A z.sell.l.length z.sell.c, .int .i64 z.fuse, .slice z.solar.A z.solar.l.length z.solar.c, .slice z.demand.A z.demand.l.length z.demand.c, .slice z.outside.A z.outside.l.length z.outside.c, .int .i64 z.bat.cap, .int .i64 z.bat.reserve, .int .i64 z.bat.charge, .int .i64 z.bat.discharge, .int .i64 z.bat.eff, .int .i64 z.gain, .int .i64 z.loss, .int .i64 z.steps, .int .i64 z.power, .slice z.low.A z.low.l.length z.low.c, .slice z.high.A z.high.l.length z.high.c, .slice z.LA z.loads.length z.lc, .int .i64 z.level, .int .i64 z.temp] 31) := ⟨_, rfl⟩
  rw [← hW] at hst0
  have H0 := Lib.hid hst0
  have hWH := Lib.hid hW
  clear hst0 hW
  go_enter Try.func41, Try.ntmps41
  go_upto_region 1 with fail
  rw [← hWH.out]
  clear hWH
  have c0 := H0.out.p.cell 0
  have d0 := H0.out.q.cell 0
  simp at c0 d0
  go_wp2_with fail
  refine (K_buy.out _ (hA.out.below H0.out.bel).buy (hB.out.below H0.out.bel).buy).mono ?_
  rintro e w1 ⟨rfl, hb1⟩
  have H1 := Lib.hid (H0.out.below hb1)
  clear hb1
  clear c0 d0
  have c1 := H1.out.p.cell 1
  have d1 := H1.out.q.cell 1
  simp at c1 d1
  go_wp2_with fail
  refine (K_sell.out _ (hA.out.below H1.out.bel).sell (hB.out.below H1.out.bel).sell).mono ?_
  rintro e w2 ⟨rfl, hb2⟩
  have H2 := Lib.hid (H1.out.below hb2)
  clear hb2
  clear c1 d1
  have c2 := H2.out.p.cell 2
  have d2 := H2.out.q.cell 2
  simp at c2 d2
  go_upto_region 3 with fail
  clear c2 d2
  have c3 := H2.out.p.cell 3
  have d3 := H2.out.q.cell 3
  simp at c3 d3
  go_wp2_with fail
  refine (K_solar.out _ (hA.out.below H2.out.bel).solar (hB.out.below H2.out.bel).solar).mono ?_
  rintro e w3 ⟨rfl, hb3⟩
  have H3 := Lib.hid (H2.out.below hb3)
  clear hb3
  clear c3 d3
  have c4 := H3.out.p.cell 4
  have d4 := H3.out.q.cell 4
  simp at c4 d4
  go_wp2_with fail
  refine (K_demand.out _ (hA.out.below H3.out.bel).demand (hB.out.below H3.out.bel).demand).mono ?_
  rintro e w4 ⟨rfl, hb4⟩
  have H4 := Lib.hid (H3.out.below hb4)
  clear hb4
  clear c4 d4
  have c5 := H4.out.p.cell 5
  have d5 := H4.out.q.cell 5
  simp at c5 d5
  go_wp2_with fail
  refine (K_outside.out _ (hA.out.below H4.out.bel).outside (hB.out.below H4.out.bel).outside).mono ?_
  rintro e w5 ⟨rfl, hb5⟩
  have H5 := Lib.hid (H4.out.below hb5)
  clear hb5
  clear c5 d5
  have c6 := H5.out.p.cell 6
  have d6 := H5.out.q.cell 6
  have c7 := H5.out.p.cell 7
  have d7 := H5.out.q.cell 7
  have c8 := H5.out.p.cell 8
  have d8 := H5.out.q.cell 8
  have c9 := H5.out.p.cell 9
  have d9 := H5.out.q.cell 9
  have c10 := H5.out.p.cell 10
  have d10 := H5.out.q.cell 10
  have c11 := H5.out.p.cell 11
  have d11 := H5.out.q.cell 11
  have c12 := H5.out.p.cell 12
  have d12 := H5.out.q.cell 12
  have c13 := H5.out.p.cell 13
  have d13 := H5.out.q.cell 13
  have c14 := H5.out.p.cell 14
  have d14 := H5.out.q.cell 14
  have c15 := H5.out.p.cell 15
  have d15 := H5.out.q.cell 15
  have c16 := H5.out.p.cell 16
  have d16 := H5.out.q.cell 16
  simp at c6 d6 c7 d7 c8 d8 c9 d9 c10 d10 c11 d11 c12 d12 c13 d13 c14 d14 c15 d15 c16 d16
  go_wp2_with fail
  refine (KR.out _ (hA.out.below H5.out.bel) (hB.out.below H5.out.bel)).mono ?_
  rintro e w6 ⟨rfl, hb6⟩
  have H6 := Lib.hid (H5.out.below hb6)
  clear hb6
  clear c6 d6 c7 d7 c8 d8 c9 d9 c10 d10 c11 d11 c12 d12 c13 d13 c14 d14 c15 d15 c16 d16
  have c17 := H6.out.p.cell 17
  have d17 := H6.out.q.cell 17
  have c18 := H6.out.p.cell 18
  have d18 := H6.out.q.cell 18
  have c19 := H6.out.p.cell 19
  have d19 := H6.out.q.cell 19
  simp at c17 d17 c18 d18 c19 d19
  go_wp2_with fail
  clear c17 d17 c18 d18 c19 d19
  go_loopw [94] (fun s94 wr => ∃ k : Nat, k ≤ z.loads.length ∧ s94 = .int .i64 k ∧ Hid (SX42 #[.slice x.buy.A x.buy.l.length x.buy.c, .slice x.sell.A x.sell.l.length x.sell.c, .int .i64 z.fuse, .slice x.solar.A x.solar.l.length x.solar.c, .slice x.demand.A x.demand.l.length x.demand.c, .slice x.outside.A x.outside.l.length x.outside.c, .int .i64 z.bat.cap, .int .i64 z.bat.reserve, .int .i64 z.bat.charge, .int .i64 z.bat.discharge, .int .i64 z.bat.eff, .int .i64 z.gain, .int .i64 z.loss, .int .i64 z.steps, .int .i64 z.power, .slice x.low.A x.low.l.length x.low.c, .slice x.high.A x.high.l.length x.high.c, .slice x.LA z.loads.length x.lc, .int .i64 z.level, .int .i64 z.temp] #[.slice z.buy.A z.buy.l.length z.buy.c, .slice z.sell.A z.sell.l.length z.sell.c, .int .i64 z.fuse, .slice z.solar.A z.solar.l.length z.solar.c, .slice z.demand.A z.demand.l.length z.demand.c, .slice z.outside.A z.outside.l.length z.outside.c, .int .i64 z.bat.cap, .int .i64 z.bat.reserve, .int .i64 z.bat.charge, .int .i64 z.bat.discharge, .int .i64 z.bat.eff, .int .i64 z.gain, .int .i64 z.loss, .int .i64 z.steps, .int .i64 z.power, .slice z.low.A z.low.l.length z.low.c, .slice z.high.A z.high.l.length z.high.c, .slice z.LA z.loads.length z.lc, .int .i64 z.level, .int .i64 z.temp] w wr))
    (fun s94 _ => z.loads.length - (intOf s94).toNat)
  case atStart => exact ⟨0, by omega, rfl, H6.out⟩
  case round =>
    obtain ⟨k, hk, rfl, hX⟩ := hrel
    obtain ⟨wo, hwo⟩ : ∃ wo : World, wo = wr := ⟨_, rfl⟩
    subst hwo
    by_cases hlt : k < z.loads.length
    · have hkx : k < x.loads.length := by rw [HEL.out]; exact hlt
      obtain ⟨bx, ox, hAe, _, y0, y1, y2, y3⟩ := (hA.out.below hX.out.bel).loads.at' hkx
      obtain ⟨bz, oz, hBe, _, z0, z1, z2, z3⟩ := (hB.out.below hX.out.bel).loads.at' hlt
      have hp1 := Lib.hid ((hA.out.below hX.out.bel).loads.prof hkx)
      have hp2 := Lib.hid ((hB.out.below hX.out.bel).loads.prof hlt)
      have hrk := HRS.out k hkx hlt
      have c17 := hX.out.p.cell 17
      have d17 := hX.out.q.cell 17
      simp at c17 d17
      rw [hAe] at c17
      rw [hBe] at d17
      rw [← hrk] at z0 z1 z2 z3 hp2
      have hls := Lib.hid (fun W (h1 : RInts W x.loads[k].A x.loads[k].r.prof) (h2 : RInts W z.loads[k].A x.loads[k].r.prof) => lsame_any x.loads[k].r x.loads[k].r x.loads[k].A z.loads[k].A x.loads[k].c z.loads[k].c W h1 h2 (HPL.out _ (List.getElem_mem hkx)) rfl)
      simp only [Ld.v] at hls
      clear hrk
      generalize x.loads[k] = X at *
      generalize z.loads[k] = Z at *
      have i1 : (0 : Int) ≤ (k : Int) := by omega
      have i2 : (k : Int) < (z.loads.length : Int) := by omega
      have HK : Hid (∀ W, Below wo.heap.size wo W → Below wo.heap.size wo W ∧ W.cell? ⟨bx, ox + k * 4, none⟩ = some (.string X.r.name) ∧ W.cell? ⟨bx, ox + k * 4 + 1, none⟩ = some (.slice X.A X.r.prof.length X.c) ∧ W.cell? ⟨bx, ox + k * 4 + 2, none⟩ = some (.int .i64 X.r.early) ∧ W.cell? ⟨bx, ox + k * 4 + 3, none⟩ = some (.int .i64 X.r.late) ∧ W.cell? ⟨bz, oz + k * 4, none⟩ = some (.string X.r.name) ∧ W.cell? ⟨bz, oz + k * 4 + 1, none⟩ = some (.slice Z.A X.r.prof.length Z.c) ∧ W.cell? ⟨bz, oz + k * 4 + 2, none⟩ = some (.int .i64 X.r.early) ∧ W.cell? ⟨bz, oz + k * 4 + 3, none⟩ = some (.int .i64 X.r.late) ∧ W.cell? ⟨w.heap.size, 17, none⟩ = some (.slice (some ⟨bx, ox, none⟩) z.loads.length x.lc) ∧ W.cell? ⟨w.heap.size + 1, 17, none⟩ = some (.slice (some ⟨bz, oz, none⟩) z.loads.length z.lc)) := fun W hb => ⟨hb, cell_below y0 hb, cell_below y1 hb, cell_below y2 hb, cell_below y3 hb, cell_below z0 hb, cell_below z1 hb, cell_below z2 hb, cell_below z3 hb, cell_below c17 hb, cell_below d17 hb⟩
      clear hAe hBe
      go_wp2_with fail
      go_region_held3 (fun w' => Below wo.heap.size wo w' ∧ w'.cell? ⟨bx, ox + k * 4, none⟩ = some (.string X.r.name) ∧ w'.cell? ⟨bx, ox + k * 4 + 1, none⟩ = some (.slice X.A X.r.prof.length X.c) ∧ w'.cell? ⟨bx, ox + k * 4 + 2, none⟩ = some (.int .i64 X.r.early) ∧ w'.cell? ⟨bx, ox + k * 4 + 3, none⟩ = some (.int .i64 X.r.late) ∧ w'.cell? ⟨bz, oz + k * 4, none⟩ = some (.string X.r.name) ∧ w'.cell? ⟨bz, oz + k * 4 + 1, none⟩ = some (.slice Z.A X.r.prof.length Z.c) ∧ w'.cell? ⟨bz, oz + k * 4 + 2, none⟩ = some (.int .i64 X.r.early) ∧ w'.cell? ⟨bz, oz + k * 4 + 3, none⟩ = some (.int .i64 X.r.late) ∧ w'.cell? ⟨w.heap.size, 17, none⟩ = some (.slice (some ⟨bx, ox, none⟩) z.loads.length x.lc) ∧ w'.cell? ⟨w.heap.size + 1, 17, none⟩ = some (.slice (some ⟨bz, oz, none⟩) z.loads.length z.lc))
        (first | exact HK.out _ (Below.refl _ _) | exact HK.out _ (Below.drew (Below.refl _ _)) | exact HK.out _ (Below.drew (by assumption)) | exact HK.out _ (Below.drew (And.left (by assumption))) | exact HK.out _ (Below.trans (by first | assumption | exact And.left (by assumption) | exact Below.refl _ _ | exact Below.drew (Below.refl _ _) | exact Below.drew (by assumption) | exact Below.drew (And.left (by assumption))) (Below.mono (by assumption) (Below.size (by first | assumption | exact And.left (by assumption) | exact Below.refl _ _ | exact Below.drew (Below.refl _ _) | exact Below.drew (by assumption) | exact Below.drew (And.left (by assumption)))))))
        (first | (go_at_call 87; refine (hls.out _ (hp1.out.below (by first | assumption | exact And.left (by assumption) | exact Below.refl _ _ | exact Below.drew (Below.refl _ _) | exact Below.drew (by assumption) | exact Below.drew (And.left (by assumption)))) (hp2.out.below (by first | assumption | exact And.left (by assumption) | exact Below.refl _ _ | exact Below.drew (Below.refl _ _) | exact Below.drew (by assumption) | exact Below.drew (And.left (by assumption))))).mono ?_; rintro e' w7 ⟨rfl, hb7⟩))
      rename_i hHeld
      have HN := Lib.hid (hX.out.below hHeld.1)
      go_wp2_with fail
      go_roundw
      case rel => exact ⟨k + 1, by omega, by go_num, HN.out⟩
      case measure => simp [intOf]; omega
    · go_wp2_with fail
      go_ret
      exact ⟨rfl, hX.out.bel⟩
end Go.Proofs.Ytnppngaabfhkpaa
