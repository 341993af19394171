/-
  The laws PlanRuns and PlanChecks, walked.
-/
import Derived.Test.YtdheockmphdakaaQP17
namespace Go.Proofs.Ytdheockmphdakaa
open Go.RowKit
attribute [local go_sem ↓] Go.wp_at_zero Go.wp_at_succ

theorem fit_of {x : PbM} (h : smallM x = true) (hl : ∀ z ∈ x.loads, z.r.prof.length ≤ maxLen ∧ z.r.name.size ≤ maxLen ∧ -9223372036854775808 ≤ z.r.late ∧ z.r.late ≤ 9223372036854775807) (hc : x.loads.length ≤ x.lc) (hm : x.buy.l.length ≤ maxLen) : x.Fit :=
  ⟨fun z hz => (hl z hz).2.1, fun z hz => by have := ((smallM_true h).2.1 z hz).1; omega, hc, hm, fun z hz => (hl z hz).2.2⟩
theorem Pb.trace_len {p : Pb} (x : Pn) : (p.trace x).net.length ≤ 96 ∧ (p.trace x).level.length ≤ 96 ∧ (p.trace x).temp.length ≤ 96 := by
  by_cases h : p.err x = 0
  · rw [Pb.trace_ok h]
    have hc : p.chk = 0 := by
      by_cases hc : p.chk = 0
      · exact hc
      · rw [(Pb.err_chk hc).1] at h; exact absurd h hc
    have := Pb.nbd (Pb.good hc)
    simp only [Pb.nets_len, Pb.levels_len, Pb.temps_len]
    omega
  · have : p.trace x = Tr.zero := by unfold Pb.trace; rw [if_pos h]
    rw [this]; simp [Tr.zero]

set_option maxRecDepth 100000 in
set_option maxHeartbeats 64000000 in
theorem pruns_law (x : PbM) (y : PnM) (w : World) (hP0 : RPb w x) (hL0 : ∀ z ∈ x.loads, z.r.prof.length ≤ maxLen ∧ z.r.name.size ≤ maxLen ∧ -9223372036854775808 ≤ z.r.late ∧ z.r.late ≤ 9223372036854775807) (hc0 : x.loads.length ≤ x.lc) (hm0 : x.buy.l.length ≤ maxLen) (hQ0 : RPn w y) (hG0 : y.Fit) :
    Calls Try.prog 4 #[x.v, y.v] w fun e w' => e = .returned (.bool true) ∧ Below w.heap.size w w' := by
  have hP := Lib.hid hP0
  have hQ := Lib.hid hQ0
  have hst0 := PX.start x y w
  have hsm := Lib.hid (fun W (h : RPb W x) => small_any x W h)
  have hbr := Lib.hid (fun W (h : RPn W y) => brief_any y W h)
  have haw := Lib.hid awake_any
  simp only [PbM.v, PnM.v]
  obtain ⟨W, hW⟩ : ∃ W, W = (w.alloc (.cells #[.slice x.buy.A x.buy.l.length x.buy.c, .slice x.sell.A x.sell.l.length x.sell.c, .int .i64 x.fuse, .slice x.solar.A x.solar.l.length x.solar.c, .slice x.demand.A x.demand.l.length x.demand.c, .slice x.outside.A x.outside.l.length x.outside.c, .int .i64 x.bat.cap, .int .i64 x.bat.reserve, .int .i64 x.bat.charge, .int .i64 x.bat.discharge, .int .i64 x.bat.eff, .int .i64 x.gain, .int .i64 x.loss, .int .i64 x.steps, .int .i64 x.power, .slice x.low.A x.low.l.length x.low.c, .slice x.high.A x.high.l.length x.high.c, .slice x.LA x.loads.length x.lc, .int .i64 x.level, .int .i64 x.temp] 31)).alloc (.cells #[.slice y.charge.A y.charge.l.length y.charge.c, .slice y.heat.A y.heat.l.length y.heat.c, .slice y.start.A y.start.l.length y.start.c] 37) := ⟨_, rfl⟩
  rw [show (w.alloc (.cells x.cs 31)).alloc (.cells y.cs 37) = W from hW.symm] at hst0
  have hst := Lib.hid hst0
  have hWH := Lib.hid hW
  clear hst0 hW hP0 hQ0
  cases qs : smallM x
  · rw [qs] at hsm
    go_enter Try.func4, Try.ntmps4
    go_upto_region 1 with fail
    rw [← hWH.out]
    clear hWH
    go_wp2_with (first | refine wpList_load_problem rfl _ rfl w.heap.size rfl x (hst.out).p ?_ | refine wpList_load_plan rfl _ rfl (w.heap.size + 1) rfl y (hst.out).q ?_)
    refine (hsm.out _ (hst.out.pr hP.out)).mono ?_
    rintro e w1 ⟨rfl, hb1⟩
    have HX1 := Lib.hid (hst.out.below hb1)
    clear hb1
    go_wp2_with fail
    refine (haw.out _).mono ?_
    rintro e w2 ⟨rfl, hb2⟩
    have HX2 := Lib.hid (HX1.out.below hb2)
    clear hb2
    go_wp2_with fail
    go_ret
    exact ⟨rfl, HX2.out.bel⟩
  · cases qb : briefM y
    · rw [qs] at hsm
      rw [qb] at hbr
      go_enter Try.func4, Try.ntmps4
      go_upto_region 1 with fail
      rw [← hWH.out]
      clear hWH
      go_wp2_with (first | refine wpList_load_problem rfl _ rfl w.heap.size rfl x (hst.out).p ?_ | refine wpList_load_plan rfl _ rfl (w.heap.size + 1) rfl y (hst.out).q ?_)
      refine (hsm.out _ (hst.out.pr hP.out)).mono ?_
      rintro e w1 ⟨rfl, hb1⟩
      have HX1 := Lib.hid (hst.out.below hb1)
      clear hb1 hst
      obtain ⟨q0, q1, q2⟩ := HX1.out.qc
      go_wp2_with fail
      refine (hbr.out _ (HX1.out.qr hQ.out)).mono ?_
      rintro e w2 ⟨rfl, hb2⟩
      have HX2 := Lib.hid (HX1.out.below hb2)
      clear q0 q1 q2
      clear hb2
      go_wp2_with fail
      refine (haw.out _).mono ?_
      rintro e w3 ⟨rfl, hb3⟩
      have HX3 := Lib.hid (HX2.out.below hb3)
      clear hb3
      go_wp2_with fail
      go_ret
      exact ⟨rfl, HX3.out.bel⟩
    · have HSM := Lib.hid qs
      have HBR := Lib.hid qb
      rw [qs] at hsm
      rw [qb] at hbr
      have hF := Lib.hid (fit_of qs hL0 hc0 hm0)
      have hG := Lib.hid hG0
      clear qs qb hL0 hc0 hm0 hG0
      go_enter Try.func4, Try.ntmps4
      go_upto_region 1 with fail
      rw [← hWH.out]
      clear hWH
      go_wp2_with (first | refine wpList_load_problem rfl _ rfl w.heap.size rfl x (hst.out).p ?_ | refine wpList_load_plan rfl _ rfl (w.heap.size + 1) rfl y (hst.out).q ?_)
      refine (hsm.out _ (hst.out.pr hP.out)).mono ?_
      rintro e w1 ⟨rfl, hb1⟩
      have HX1 := Lib.hid (hst.out.below hb1)
      clear hb1 hst
      obtain ⟨q0, q1, q2⟩ := HX1.out.qc
      go_wp2_with fail
      refine (hbr.out _ (HX1.out.qr hQ.out)).mono ?_
      rintro e w2 ⟨rfl, hb2⟩
      have HX2 := Lib.hid (HX1.out.below hb2)
      clear q0 q1 q2
      clear hb2 HX1 hsm hbr
      have hr1 := Lib.hid (fun W (h : RPb W x) (h2 : RPn W y) => prun_any x y W h h2 hF.out hG.out)
      have hr2 := Lib.hid (fun W (h : RPb W x) (h2 : RPn W y) => rrun_any x y W h h2 hF.out hG.out)
      have hv1 := Lib.hid (fun W (h : RPb W x) (h2 : RPn W y) => pvalue_any x y W h h2 hF.out hG.out)
      have hv2 := Lib.hid (fun W (h : RPb W x) (h2 : RPn W y) => rvalue_any x y W h h2 hF.out hG.out)
      have htl := Lib.hid (Pb.trace_len (p := x.p) y.x)
      generalize x.p.trace y.x = tr at *
      generalize x.p.err y.x = er at *
      go_wp2_with (first | refine wpList_load_problem rfl _ rfl w.heap.size rfl x (HX2.out).p ?_ | refine wpList_load_plan rfl _ rfl (w.heap.size + 1) rfl y (HX2.out).q ?_)
      refine (hr1.out _ (HX2.out.pr hP.out) (HX2.out.qr hQ.out)).mono ?_
      rintro e w3 ⟨m1, hxm1, rfl, hrm1, hbm1⟩
      simp only [TrM.v]
      go_upto_region 4 with fail
      obtain ⟨t5, ht5⟩ : ∃ t5, t5 = w3.heap.size := ⟨_, rfl⟩
      obtain ⟨v3, hv3⟩ : ∃ v3, v3 = w3.alloc (.cells #[.slice m1.net.A m1.net.l.length m1.net.c, .slice m1.level.A m1.level.l.length m1.level.c, .slice m1.temp.A m1.temp.l.length m1.temp.c, .int .i64 m1.cost] 40) := ⟨_, rfl⟩
      have HX3 : Hid (PX x y w v3) := by show PX _ _ _ _; rw [hv3]; exact (HX2.out.below hbm1).alloc _
      have HT5 : Hid (Blk v3 t5 40 #[.slice m1.net.A m1.net.l.length m1.net.c, .slice m1.level.A m1.level.l.length m1.level.c, .slice m1.temp.A m1.temp.l.length m1.temp.c, .int .i64 m1.cost]) := by show Blk _ _ _ _; rw [hv3, ht5]; exact Blk.new _ _ _
      have HM1 : Hid (RTr v3 m1) := by show RTr _ _; rw [hv3]; exact hrm1.below (below_al (Below.refl _ _))
      have HE1 := Lib.hid hxm1
      rw [← hv3, ← ht5]
      clear hv3 ht5 hbm1 hrm1 hxm1 HX2
      go_wp2_with (first | refine wpList_load_problem rfl _ rfl w.heap.size rfl x (HX3.out).p ?_ | refine wpList_load_plan rfl _ rfl (w.heap.size + 1) rfl y (HX3.out).q ?_)
      refine (hr2.out _ (HX3.out.pr hP.out) (HX3.out.qr hQ.out)).mono ?_
      rintro e w4 ⟨m2, hxm2, rfl, hrm2, hbm2⟩
      simp only [TrM.v]
      go_upto_region 5 with fail
      obtain ⟨t7, ht7⟩ : ∃ t7, t7 = w4.heap.size := ⟨_, rfl⟩
      obtain ⟨v4, hv4⟩ : ∃ v4, v4 = w4.alloc (.cells #[.slice m2.net.A m2.net.l.length m2.net.c, .slice m2.level.A m2.level.l.length m2.level.c, .slice m2.temp.A m2.temp.l.length m2.temp.c, .int .i64 m2.cost] 40) := ⟨_, rfl⟩
      have HX4 : Hid (PX x y w v4) := by show PX _ _ _ _; rw [hv4]; exact (HX3.out.below hbm2).alloc _
      have HT5b : Hid (Blk v4 t5 40 #[.slice m1.net.A m1.net.l.length m1.net.c, .slice m1.level.A m1.level.l.length m1.level.c, .slice m1.temp.A m1.temp.l.length m1.temp.c, .int .i64 m1.cost]) := by show Blk _ _ _ _; rw [hv4]; exact (HT5.out.below hbm2 HT5.out.lt).alloc _
      have HT7 : Hid (Blk v4 t7 40 #[.slice m2.net.A m2.net.l.length m2.net.c, .slice m2.level.A m2.level.l.length m2.level.c, .slice m2.temp.A m2.temp.l.length m2.temp.c, .int .i64 m2.cost]) := by show Blk _ _ _ _; rw [hv4, ht7]; exact Blk.new _ _ _
      have HM1b : Hid (RTr v4 m1) := by show RTr _ _; rw [hv4]; exact (HM1.out.below hbm2).below (below_al (Below.refl _ _))
      have HM2 : Hid (RTr v4 m2) := by show RTr _ _; rw [hv4]; exact hrm2.below (below_al (Below.refl _ _))
      have HE2 := Lib.hid hxm2
      rw [← hv4, ← ht7]
      clear hv4 ht7 hbm2 hrm2 hxm2 HX3 HT5 HM1
      go_wp2_with (first | refine wpList_load_problem rfl _ rfl w.heap.size rfl x (HX4.out).p ?_ | refine wpList_load_plan rfl _ rfl (w.heap.size + 1) rfl y (HX4.out).q ?_)
      refine (hv1.out _ (HX4.out.pr hP.out) (HX4.out.qr hQ.out)).mono ?_
      rintro e w5 ⟨rfl, hb5⟩
      have HX5 := Lib.hid (HX4.out.below hb5)
      have HB5 := Lib.hid hb5
      clear hb5
      go_wp2_with (first | refine wpList_load_problem rfl _ rfl w.heap.size rfl x (HX5.out).p ?_ | refine wpList_load_plan rfl _ rfl (w.heap.size + 1) rfl y (HX5.out).q ?_)
      refine (hv2.out _ (HX5.out.pr hP.out) (HX5.out.qr hQ.out)).mono ?_
      rintro e w6 ⟨rfl, hb6⟩
      have HX6 := Lib.hid (HX5.out.below hb6)
      have HB6 := Lib.hid (below_tr HB5.out hb6)
      have ht5 := HT5b.out.below HB6.out HT5b.out.lt
      have ht7 := HT7.out.below HB6.out HT7.out.lt
      have z0 := ht5.cell 0
      have z1 := ht5.cell 1
      have z2 := ht5.cell 2
      have z3 := ht5.cell 3
      have y0 := ht7.cell 0
      have y1 := ht7.cell 1
      have y2 := ht7.cell 2
      have y3 := ht7.cell 3
      simp at z0 z1 z2 z3 y0 y1 y2 y3
      have HS := Lib.hid (sametrace_true m1 m2 w6 (HM1b.out.below HB6.out) (HM2.out.below HB6.out) (HE1.out.trans HE2.out.symm)
        (by have := htl.out.1; rw [← HE1.out] at this; exact Nat.lt_of_le_of_lt this (by decide)) (by have := htl.out.2.1; rw [← HE1.out] at this; exact Nat.lt_of_le_of_lt this (by decide)) (by have := htl.out.2.2; rw [← HE1.out] at this; exact Nat.lt_of_le_of_lt this (by decide)))
      clear hb6 ht5 ht7
      go_wp2_with fail
      refine HS.out.mono ?_
      rintro e w7 ⟨rfl, hb7⟩
      have HX7 := Lib.hid (HX6.out.below hb7)
      clear hb7 z0 z1 z2 z3 y0 y1 y2 y3
      have e1 : (er == er) = true := by simp
      have e2 : (tr.cost == tr.cost) = true := by simp
      go_wp2_with fail
      refine (haw.out _).mono ?_
      rintro e w8 ⟨rfl, hb8⟩
      have HX8 := Lib.hid (HX7.out.below hb8)
      clear hb8
      go_wp2_with fail
      go_ret
      exact ⟨rfl, HX8.out.bel⟩
end Go.Proofs.Ytdheockmphdakaa
