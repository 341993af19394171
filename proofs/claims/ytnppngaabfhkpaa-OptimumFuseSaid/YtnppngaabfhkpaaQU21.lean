/-
  The laws OptimumBounds and OptimumFuse, walked.
-/
import Derived.Test.YtnppngaabfhkpaaQU20
namespace Go.Proofs.Ytnppngaabfhkpaa
open Go.RowKit
attribute [local go_sem ↓] Go.wp_at_zero Go.wp_at_succ

set_option maxRecDepth 100000 in
set_option maxHeartbeats 64000000 in
theorem obounds_law (x : PbM) (y : PnM) (w : World) (hP0 : RPb w x) (hL0 : ∀ z ∈ x.loads, z.r.prof.length ≤ maxLen ∧ z.r.name.size ≤ maxLen ∧ -9223372036854775808 ≤ z.r.late ∧ z.r.late ≤ 9223372036854775807) (hc0 : x.loads.length ≤ x.lc) (hm0 : x.buy.l.length ≤ maxLen) (hQ0 : RPn w y) (hG0 : y.Fit) :
    Calls Try.prog 6 #[x.v, y.v] w fun e w' => e = .returned (.bool true) ∧ Below w.heap.size w w' := by
  have hF0 : x.Fit := ⟨fun y h => (hL0 y h).2.1, fun y h => (hL0 y h).1, hc0, hm0, fun y h => (hL0 y h).2.2⟩
  have hP := Lib.hid hP0
  have hQ := Lib.hid hQ0
  have hlv := Lib.hid lives_any
  have hwd := Lib.hid wide_any
  have hbd := fun W (h : RPb W x) => bound_any x W h hF0
  have hrb := fun W (h : RPb W x) => rbound_any x W h hF0
  have hru := fun W (h : RPb W x) (h2 : RPn W y) => rrun_any x y W h h2 hF0 hG0
  have hle := fun (h : x.p.err y.x = 0) => Pb.bound_le h
  generalize x.p.bound = bd at *
  generalize x.p.err y.x = er at *
  generalize x.p.trace y.x = tr at *
  have HBD := Lib.hid hbd
  have HRB := Lib.hid hrb
  have HRU := Lib.hid hru
  have HLE := Lib.hid hle
  have hst0 := PX.start x y w
  simp only [PbM.v, PnM.v]
  obtain ⟨W, hW⟩ : ∃ W, W = (w.alloc (.cells #[.slice x.buy.A x.buy.l.length x.buy.c, .slice x.sell.A x.sell.l.length x.sell.c, .int .i64 x.fuse, .slice x.solar.A x.solar.l.length x.solar.c, .slice x.demand.A x.demand.l.length x.demand.c, .slice x.outside.A x.outside.l.length x.outside.c, .int .i64 x.bat.cap, .int .i64 x.bat.reserve, .int .i64 x.bat.charge, .int .i64 x.bat.discharge, .int .i64 x.bat.eff, .int .i64 x.gain, .int .i64 x.loss, .int .i64 x.steps, .int .i64 x.power, .slice x.low.A x.low.l.length x.low.c, .slice x.high.A x.high.l.length x.high.c, .slice x.LA x.loads.length x.lc, .int .i64 x.level, .int .i64 x.temp] 31)).alloc (.cells #[.slice y.charge.A y.charge.l.length y.charge.c, .slice y.heat.A y.heat.l.length y.heat.c, .slice y.start.A y.start.l.length y.start.c] 33) := ⟨_, rfl⟩
  rw [show (w.alloc (.cells x.cs 31)).alloc (.cells y.cs 33) = W from hW.symm] at hst0
  have hst := Lib.hid hst0
  have k0 := hst0.p.cell 0
  have k17 := hst0.p.cell 17
  simp [PbM.cs] at k0 k17
  have hWH := Lib.hid hW
  clear hst0 hW hP0 hQ0 hL0 hc0 hm0 hF0 hbd hrb hru hle hG0
  go_enter Try.func6, Try.ntmps6
  go_upto_region 1 with fail
  rw [← hWH.out]
  clear hWH
  by_cases h1 : (30 : Int) < (x.buy.l.length : Int)
  · go_wp2_with fail
    refine (hlv.out _).mono ?_
    rintro e wl ⟨rfl, hbl⟩
    go_wp2_with fail
    go_ret
    exact ⟨rfl, hst.out.bel.trans (hbl.mono hst.out.bel.size)⟩
  · by_cases h2 : (20 : Int) < (x.loads.length : Int)
    · go_wp2_with fail
      refine (hlv.out _).mono ?_
      rintro e wl ⟨rfl, hbl⟩
      go_wp2_with fail
      go_ret
      exact ⟨rfl, hst.out.bel.trans (hbl.mono hst.out.bel.size)⟩
    · go_wp2_with (first | refine wpList_load_problemG (by rfl) _ rfl w.heap.size rfl x hst.out.p ?_ | refine wpList_load_planG (by rfl) _ rfl (w.heap.size + 1) rfl y hst.out.q ?_)
      refine (hwd.out y _).mono ?_
      rintro e w1 ⟨g1, rfl, _, hb1⟩
      have HX1 := Lib.hid (hst.out.below hb1)
      clear hb1 k0 k17 hst hwd
      cases g1
      rotate_left
      · go_wp2_with fail
        refine (hlv.out _).mono ?_
        rintro e wl ⟨rfl, hbl⟩
        go_wp2_with fail
        go_ret
        exact ⟨rfl, HX1.out.bel.trans (hbl.mono HX1.out.bel.size)⟩
      go_upto_region 3 with fail
      go_wp2_with (first | refine wpList_load_problemG (by rfl) _ rfl w.heap.size rfl x HX1.out.p ?_ | refine wpList_load_planG (by rfl) _ rfl (w.heap.size + 1) rfl y HX1.out.q ?_)
      refine (HBD.out _ (HX1.out.pr hP.out)).mono ?_
      rintro e w2 ⟨rfl, hb2⟩
      have HX2 := Lib.hid (HX1.out.below hb2)
      clear hb2 HX1 HBD
      go_upto_region 4 with fail
      go_wp2_with (first | refine wpList_load_problemG (by rfl) _ rfl w.heap.size rfl x HX2.out.p ?_ | refine wpList_load_planG (by rfl) _ rfl (w.heap.size + 1) rfl y HX2.out.q ?_)
      refine (HRU.out _ (HX2.out.pr hP.out) (HX2.out.qr hQ.out)).mono ?_
      rintro e w3 ⟨m, htx, rfl, hrt, hbt⟩
      have hmc : m.cost = tr.cost := congrArg Tr.cost htx
      have HMC := Lib.hid hmc
      simp only [TrM.v]
      clear htx hmc
      go_upto_region 5 with fail
      obtain ⟨t, ht⟩ : ∃ t, t = w3.heap.size := ⟨_, rfl⟩
      obtain ⟨v, hv⟩ : ∃ v, v = w3.alloc (.cells #[.slice m.net.A m.net.l.length m.net.c, .slice m.level.A m.level.l.length m.level.c, .slice m.temp.A m.temp.l.length m.temp.c, .int .i64 m.cost] 47) := ⟨_, rfl⟩
      have HX3 : Hid (PX x y w v) := by show PX _ _ _ _; rw [hv]; exact (HX2.out.below hbt).alloc _
      have HT3 : Hid (Blk v t 47 #[.slice m.net.A m.net.l.length m.net.c, .slice m.level.A m.level.l.length m.level.c, .slice m.temp.A m.temp.l.length m.temp.c, .int .i64 m.cost]) := by show Blk _ _ _ _; rw [hv, ht]; exact Blk.new _ _ _
      rw [← hv, ← ht]
      clear hv ht hbt hrt HX2
      go_wp2_with (first | refine wpList_load_problemG (by rfl) _ rfl w.heap.size rfl x HX3.out.p ?_ | refine wpList_load_planG (by rfl) _ rfl (w.heap.size + 1) rfl y HX3.out.q ?_)
      refine (HRB.out _ (HX3.out.pr hP.out)).mono ?_
      rintro e w4 ⟨rfl, hb4⟩
      have HX4 := Lib.hid (HX3.out.below hb4)
      have HT4 := Lib.hid (HT3.out.below hb4 HT3.out.lt)
      clear hb4 HX3 HT3 HRB HRU
      have e0 : (bd == bd) = true := by simp
      by_cases he : er = 0
      · have e1 : (er != 0) = false := by simp [he]
        have e2 : bd ≤ m.cost := by rw [HMC.out]; exact HLE.out he
        have z3 := HT4.out.cell 3
        simp at z3
        clear he
        go_wp2_with fail
        refine (hlv.out _).mono ?_
        rintro e wl ⟨rfl, hbl⟩
        go_wp2_with fail
        go_ret
        exact ⟨rfl, HX4.out.bel.trans (hbl.mono HX4.out.bel.size)⟩
      · have e1 : (er != 0) = true := by simp [he]
        clear he
        go_wp2_with fail
        refine (hlv.out _).mono ?_
        rintro e wl ⟨rfl, hbl⟩
        go_wp2_with fail
        go_ret
        exact ⟨rfl, HX4.out.bel.trans (hbl.mono HX4.out.bel.size)⟩

/-- The same problem with another fuse, in memory. -/
def PbM.fused (x : PbM) (f : Int) : PbM := { x with fuse := f }
theorem PbM.fused_p (x : PbM) (f : Int) : (x.fused f).p = x.p.fused f := rfl
theorem PbM.fused_r {x : PbM} {W : World} (h : RPb W x) (f : Int) : RPb W (x.fused f) := ⟨h.buy, h.sell, h.solar, h.demand, h.outside, h.low, h.high, h.loads⟩
theorem PbM.fused_fit {x : PbM} (h : x.Fit) (f : Int) : (x.fused f).Fit := ⟨h.names, h.profs, h.lc, h.max, h.late⟩
theorem PbM.fused_cs (x : PbM) (f : Int) : x.cs.setIfInBounds 2 (.int .i64 f) = (x.fused f).cs := rfl

set_option maxRecDepth 100000 in
set_option maxHeartbeats 64000000 in
theorem ofuse_law (x : PbM) (k : Int) (w : World) (hP0 : RPb w x) (hL0 : ∀ z ∈ x.loads, z.r.prof.length ≤ maxLen ∧ z.r.name.size ≤ maxLen ∧ -9223372036854775808 ≤ z.r.late ∧ z.r.late ≤ 9223372036854775807) (hc0 : x.loads.length ≤ x.lc) (hm0 : x.buy.l.length ≤ maxLen) (hk : -9223372036854775808 ≤ k ∧ k ≤ 9223372036854775807) :
    Calls Try.prog 8 #[x.v, .int .i64 k] w fun e w' => e = .returned (.bool true) ∧ Below w.heap.size w w' := by
  have hF0 : x.Fit := ⟨fun y h => (hL0 y h).2.1, fun y h => (hL0 y h).1, hc0, hm0, fun y h => (hL0 y h).2.2⟩
  obtain ⟨hk1, hk2⟩ := hk
  have hP := Lib.hid hP0
  have hF := Lib.hid hF0
  have hlv := Lib.hid lives_any
  have hgr := Lib.hid (great_any x 5 20)
  have hck0 := fun W (h : RPb W x) => rpcheck_any x W h hF0
  have hco := Lib.hid (fun (m : PbM) W (h : RPb W m) (f : m.Fit) => ocost_any m W h f)
  have hst0 := PB.start x w
  simp only [PbM.v]
  obtain ⟨W, hW⟩ : ∃ W, W = w.alloc (.cells #[.slice x.buy.A x.buy.l.length x.buy.c, .slice x.sell.A x.sell.l.length x.sell.c, .int .i64 x.fuse, .slice x.solar.A x.solar.l.length x.solar.c, .slice x.demand.A x.demand.l.length x.demand.c, .slice x.outside.A x.outside.l.length x.outside.c, .int .i64 x.bat.cap, .int .i64 x.bat.reserve, .int .i64 x.bat.charge, .int .i64 x.bat.discharge, .int .i64 x.bat.eff, .int .i64 x.gain, .int .i64 x.loss, .int .i64 x.steps, .int .i64 x.power, .slice x.low.A x.low.l.length x.low.c, .slice x.high.A x.high.l.length x.high.c, .slice x.LA x.loads.length x.lc, .int .i64 x.level, .int .i64 x.temp] 31) := ⟨_, rfl⟩
  rw [show w.alloc (.cells x.cs 31) = W from hW.symm] at hst0
  have hst := Lib.hid hst0
  have hWH := Lib.hid hW
  clear hst0 hW hP0 hL0 hc0 hm0 hF0
  by_cases hc : x.p.chk = 0
  · have hgd := Pb.good hc
    have hfu : 1 ≤ x.fuse ∧ x.fuse ≤ 1000 := Pb.fuse_bd hgd
    rw [hc] at hck0
    have hck := Lib.hid hck0
    clear hck0 hgd
    go_enter Try.func8, Try.ntmps8
    go_upto_region 1 with fail
    rw [← hWH.out]
    clear hWH
    go_wp2_with (first | refine wpList_load_problemG (by rfl) _ rfl w.heap.size rfl x hst.out.p ?_)
    refine (hgr.out _).mono ?_
    rintro e w1 ⟨g1, rfl, _, hb1⟩
    have HX1 := Lib.hid (hst.out.below hb1)
    clear hb1 hst hgr
    cases g1
    rotate_left
    · go_wp2_with fail
      refine (hlv.out _).mono ?_
      rintro e wl ⟨rfl, hbl⟩
      go_wp2_with fail
      go_ret
      exact ⟨rfl, HX1.out.bel.trans (hbl.mono HX1.out.bel.size)⟩
    go_wp2_with (first | refine wpList_load_problemG (by rfl) _ rfl w.heap.size rfl x HX1.out.p ?_)
    refine (hck.out _ (HX1.out.pr hP.out)).mono ?_
    rintro e w2 ⟨rfl, hb2⟩
    have HX2 := Lib.hid (HX1.out.below hb2)
    clear hb2 HX1 hck
    by_cases h1 : k < 0
    · go_wp2_with fail
      refine (hlv.out _).mono ?_
      rintro e wl ⟨rfl, hbl⟩
      go_wp2_with fail
      go_ret
      exact ⟨rfl, HX2.out.bel.trans (hbl.mono HX2.out.bel.size)⟩
    · have k2 := HX2.out.p.cell 2
      simp [PbM.cs] at k2
      have a1 : IntKind.i64.wrap (1000 - x.fuse) = 1000 - x.fuse := IntWalk.i64_in _ (by omega)
      by_cases h2 : 1000 - x.fuse < k
      · go_wp2_with fail
        refine (hlv.out _).mono ?_
        rintro e wl ⟨rfl, hbl⟩
        go_wp2_with fail
        go_ret
        exact ⟨rfl, HX2.out.bel.trans (hbl.mono HX2.out.bel.size)⟩
      · go_upto_region 3 with fail
        clear k2 a1
        go_wp2_with (first | (first | refine wpList_load_problemG (by rfl) _ rfl w.heap.size rfl x HX2.out.p ?_) | refine wpList_store_blk rfl 31 _ _ rfl w2.heap.size rfl x.cs rfl (by kernel_rfl) (PbM.cs_one _) (Blk.new w2 _ _) rfl ?_)
        intro w3 hB3 hg3
        have hs3 : Below w2.heap.size w2 w3 := ((Below.refl w2.heap.size w2).alloc (Nat.le_refl _) (.cells #[.slice none 0 0, .slice none 0 0, .int .i64 0, .slice none 0 0, .slice none 0 0, .slice none 0 0, .int .i64 0, .int .i64 0, .int .i64 0, .int .i64 0, .int .i64 0, .int .i64 0, .int .i64 0, .int .i64 0, .int .i64 0, .slice none 0 0, .slice none 0 0, .slice none 0 0, .int .i64 0, .int .i64 0] 31)).grown hg3 (by simp) (fun k e => by injection e with e; omega)
        obtain ⟨t, ht⟩ : ∃ t, t = w2.heap.size := ⟨_, rfl⟩
        rw [← ht] at hB3
        have HX3 := Lib.hid (HX2.out.below hs3)
        have HB3 := Lib.hid hB3
        have htw : w.heap.size < t := by have := HX2.out.lt; omega
        have HT := Lib.hid ht
        have HTW := Lib.hid htw
        clear ht hB3 hg3 hs3 HX2
        go_upto_region 4 with fail
        rw [← HT.out]
        have k2 := HX3.out.p.cell 2
        simp [PbM.cs] at k2
        have z2 := HB3.out.cell 2
        simp [PbM.cs] at z2
        have zf := HB3.out.frozen 2
        have a2 : IntKind.i64.wrap (x.fuse + k) = x.fuse + k := IntWalk.i64_in _ (by omega)
        go_upto_region 5 with fail
        clear k2 z2 zf a2 HT
        obtain ⟨w4, hw4⟩ : ∃ W, W = w3.setCell ⟨t, 2, none⟩ (.int .i64 (x.fuse + k)) := ⟨_, rfl⟩
        rw [← hw4]
        have HX4 : Hid (PB x w w4) := by
          show PB _ _ _
          rw [hw4]
          exact ⟨HX3.out.p.far (by have := HTW.out; show w.heap.size ≠ t; omega) _, HX3.out.bel.setCell (by have := HTW.out; show w.heap.size ≤ t; omega) _⟩
        have HB4 : Hid (Blk w4 t 31 (x.fused (x.fuse + k)).cs) := by
          show Blk _ _ _ _
          have h := HB3.out.set_ 2 (.int .i64 (x.fuse + k))
          rw [PbM.fused_cs] at h
          rw [hw4]
          exact h
        clear hw4 HX3 HB3
        have hc1 := fun W (h : RPb W x) => hco.out x W h hF.out
        have hc2 := fun W (h : RPb W x) => hco.out (x.fused (x.fuse + k)) W (PbM.fused_r h _) (PbM.fused_fit hF.out _)
        have hfb := fun (h : x.p.bestE = 0) => Pb.fused_best h (f := x.fuse + k) (by show x.fuse ≤ _; omega) (by omega)
        have hoc1 : x.p.bestE = 0 → x.p.oc = (x.p.trace x.p.best).cost := fun h => by unfold Pb.oc; rw [if_pos h]
        have hoc2 : (x.p.fused (x.fuse + k)).bestE = 0 → (x.p.fused (x.fuse + k)).oc = ((x.p.fused (x.fuse + k)).trace (x.p.fused (x.fuse + k)).best).cost := fun h => by unfold Pb.oc; rw [if_pos h]
        rw [PbM.fused_p] at hc2
        have hall : x.p.bestE = 0 → (x.p.fused (x.fuse + k)).bestE = 0 ∧ (x.p.fused (x.fuse + k)).oc ≤ x.p.oc := fun h => by
          obtain ⟨h1, h2⟩ := hfb h
          rw [hoc1 h, hoc2 h1]
          exact ⟨h1, h2⟩
        clear hfb hoc1 hoc2 hco
        generalize x.p.bestE = e1 at *
        generalize (x.p.fused (x.fuse + k)).bestE = e2 at *
        generalize x.p.oc = c1 at *
        generalize (x.p.fused (x.fuse + k)).oc = c2 at *
        have HC1 := Lib.hid hc1
        have HC2 := Lib.hid hc2
        have HALL := Lib.hid hall
        clear hc1 hc2 hall hfu
        go_wp2_with (first | refine wpList_load_problemG (by rfl) _ rfl w.heap.size rfl x HX4.out.p ?_)
        refine (HC1.out _ (HX4.out.pr hP.out)).mono ?_
        rintro e w5 ⟨rfl, hb5⟩
        have HX5 := Lib.hid (HX4.out.below hb5)
        have HB5 := Lib.hid (HB4.out.below hb5 HB4.out.lt)
        clear hb5 HX4 HB4 HC1
        go_upto_region 6 with fail
        go_wp2_with (refine wpList_load_problemG (by rfl) _ rfl t rfl (x.fused (x.fuse + k)) HB5.out ?_)
        refine (HC2.out _ (HX5.out.pr hP.out)).mono ?_
        rintro e w6 ⟨rfl, hb6⟩
        have HX6 := Lib.hid (HX5.out.below hb6)
        clear hb6 HX5 HB5 HC2
        go_upto_region 7 with fail
        by_cases he : e1 = 0
        · have q1 : (e1 == 0) = true := by simp [he]
          obtain ⟨r1, r2⟩ := HALL.out he
          have q2 : (e2 == 0) = true := by simp [r1]
          clear r1 he
          go_wp2_with fail
          refine (hlv.out _).mono ?_
          rintro e wl ⟨rfl, hbl⟩
          go_wp2_with fail
          go_ret
          exact ⟨rfl, HX6.out.bel.trans (hbl.mono HX6.out.bel.size)⟩
        · have q1 : (e1 == 0) = false := by simp [he]
          clear he
          cases q2 : (e2 == 0)
          all_goals
            go_wp2_with fail
            refine (hlv.out _).mono ?_
            rintro e wl ⟨rfl, hbl⟩
            go_wp2_with fail
            go_ret
            exact ⟨rfl, HX6.out.bel.trans (hbl.mono HX6.out.bel.size)⟩
  · have hn : (x.p.chk != 0) = true := by simp [hc]
    generalize x.p.chk = ck at *
    have hck := Lib.hid hck0
    clear hck0 hc
    go_enter Try.func8, Try.ntmps8
    go_upto_region 1 with fail
    rw [← hWH.out]
    clear hWH
    go_wp2_with (first | refine wpList_load_problemG (by rfl) _ rfl w.heap.size rfl x hst.out.p ?_)
    refine (hgr.out _).mono ?_
    rintro e w1 ⟨g1, rfl, _, hb1⟩
    have HX1 := Lib.hid (hst.out.below hb1)
    clear hb1 hst hgr
    cases g1
    rotate_left
    · go_wp2_with fail
      refine (hlv.out _).mono ?_
      rintro e wl ⟨rfl, hbl⟩
      go_wp2_with fail
      go_ret
      exact ⟨rfl, HX1.out.bel.trans (hbl.mono HX1.out.bel.size)⟩
    go_wp2_with (first | refine wpList_load_problemG (by rfl) _ rfl w.heap.size rfl x HX1.out.p ?_)
    refine (hck.out _ (HX1.out.pr hP.out)).mono ?_
    rintro e w2 ⟨rfl, hb2⟩
    have HX2 := Lib.hid (HX1.out.below hb2)
    clear hb2 HX1 hck
    go_wp2_with fail
    refine (hlv.out _).mono ?_
    rintro e wl ⟨rfl, hbl⟩
    go_wp2_with fail
    go_ret
    exact ⟨rfl, HX2.out.bel.trans (hbl.mono HX2.out.bel.size)⟩
end Go.Proofs.Ytnppngaabfhkpaa
