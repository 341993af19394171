/-
  The walks of layer 42 (plan), part 7: Run of the program, where the problem is valid.
-/
import Derived.Test.YtnppngaabfhkpaaKP7
import Derived.Test.YtnppngaabfhkpaaKL16
namespace Go.Proofs.Ytnppngaabfhkpaa
open Go.RowKit
attribute [local go_sem ↓] Go.wp_at_zero Go.wp_at_succ

set_option maxRecDepth 100000 in
set_option maxHeartbeats 64000000 in
theorem prun_form (x : PbM) (y : PnM) (w : World) (hP0 : RPb w x) (hQ0 : RPn w y) (hF0 : x.Fit) (hG0 : y.Fit) (hck : x.p.chk = 0) (hfo : x.p.form y.x ≠ 0) :
    Calls Try.prog 93 #[x.v, y.v] w (RunOut Tr.zero (x.p.form y.x) w) := by
  have hP := Lib.hid hP0
  have hQ := Lib.hid hQ0
  have hF := Lib.hid hF0
  have hG := Lib.hid hG0
  have hgood := Pb.good hck
  have hnbd := Pb.nbd hgood
  have hld4 := Pb.loads4 hgood
  have hen : x.p.n = x.buy.l.length := rfl
  have hel : x.p.loads.length = x.loads.length := by simp [PbM.p]
  have hc0 := fun W (h : RPb W x) => pcheck_any x W h hF0
  rw [hck] at hc0
  have hc := Lib.hid hc0
  have hs0 := fun W (h : RPb W x) (h2 : RPn W y) => shaped_any x y W h h2 hF0 (by omega) (by omega)
  have hst0 := RX.start x y w #[.slice none 0 0, .slice none 0 0, .slice none 0 0, .int .i64 0]
  have hmf : ∀ (fn : Fn) (first cap : Array Value) (w : World), (Instr.makeFunc fn first cap).run Try.prog w = .ok (.func fn first cap) w := fun _ _ _ _ => rfl
  have hn : (x.p.form y.x != 0) = true := by simpa using hfo
  generalize x.p.form y.x = ck at *
  have hs := Lib.hid hs0
  clear hs0
  simp only [PbM.v, PnM.v]
  clear hP0 hF0 hQ0 hG0 hc0 hgood hnbd hld4 hen hel
  obtain ⟨W, hW⟩ : ∃ W, W = (((w.alloc (.cells #[.slice x.buy.A x.buy.l.length x.buy.c, .slice x.sell.A x.sell.l.length x.sell.c, .int .i64 x.fuse, .slice x.solar.A x.solar.l.length x.solar.c, .slice x.demand.A x.demand.l.length x.demand.c, .slice x.outside.A x.outside.l.length x.outside.c, .int .i64 x.bat.cap, .int .i64 x.bat.reserve, .int .i64 x.bat.charge, .int .i64 x.bat.discharge, .int .i64 x.bat.eff, .int .i64 x.gain, .int .i64 x.loss, .int .i64 x.steps, .int .i64 x.power, .slice x.low.A x.low.l.length x.low.c, .slice x.high.A x.high.l.length x.high.c, .slice x.LA x.loads.length x.lc, .int .i64 x.level, .int .i64 x.temp] 31)).alloc (.cells #[.slice y.charge.A y.charge.l.length y.charge.c, .slice y.heat.A y.heat.l.length y.heat.c, .slice y.start.A y.start.l.length y.start.c] 33)).alloc (.cells #[.slice none 0 0, .slice none 0 0, .slice none 0 0, .int .i64 0] 47)).alloc (.cells #[.int .i64 0] 35) := ⟨_, rfl⟩
  rw [show (((w.alloc (.cells x.cs 31)).alloc (.cells y.cs 33)).alloc (.cells #[.slice none 0 0, .slice none 0 0, .slice none 0 0, .int .i64 0] 47)).alloc (.cells #[.int .i64 0] 35) = W from hW.symm] at hst0
  have hst := Lib.hid hst0
  have hWH := Lib.hid hW
  clear hst0 hW
  go_enter_defers Try.func93, Try.ntmps93
  go_upto_region 2 with fail
  rw [← hWH.out]
  clear hWH hmf
  go_wp2_with (refine wpList_load_problem rfl _ rfl w.heap.size rfl x hst.out.px.p ?_)
  refine (hc.out _ (hst.out.px.pr hP.out)).mono ?_
  rintro e w1 ⟨rfl, hb1⟩
  have HR1 := Lib.hid (hst.out.below hb1)
  obtain ⟨z0, z1, z2, z3, z4⟩ := HR1.out.cells
  obtain ⟨f0, f1, f2, f3, f4⟩ := HR1.out.frozen
  have HR2 := Lib.hid (HR1.out.setE 0)
  clear hb1 hst
  go_wp2_with (first | refine wpList_load_problem rfl _ rfl w.heap.size rfl x (HR2.out).px.p ?_ | refine wpList_load_plan rfl _ rfl (w.heap.size + 1) rfl y (HR2.out).px.q ?_)
  refine (hs.out _ (HR2.out.px.pr hP.out) (HR2.out.px.qr hQ.out)).mono ?_
  rintro e w2 ⟨rfl, hb2⟩
  have HR3 := Lib.hid (HR2.out.below hb2)
  clear hb2 z0 z1 z2 z3 z4 f0 f1 f2 f3 f4 HR1 HR2
  obtain ⟨z0, z1, z2, z3, z4⟩ := HR3.out.cells
  obtain ⟨f0, f1, f2, f3, f4⟩ := HR3.out.frozen
  go_wp2_with fail
  go_region
  go_wp2_with fail
  have HR' := (((((HR3.out.setE ck).setT 0 (.slice none 0 0)).setT 1 (.slice none 0 0)).setT 2 (.slice none 0 0)).setT 3 (.int .i64 0)).setE ck |>.drew
  exact run_door_bad (by simpa using HR') hfo rfl rfl

set_option maxRecDepth 100000 in
set_option maxHeartbeats 64000000 in
theorem prun_loop (x : PbM) (y : PnM) (w : World) (hP0 : RPb w x) (hQ0 : RPn w y) (hF0 : x.Fit) (hG0 : y.Fit) (hck : x.p.chk = 0) (hfo : x.p.form y.x = 0) :
    Calls Try.prog 93 #[x.v, y.v] w (RunOut (x.p.trace y.x) (x.p.err y.x) w) := by
  have hP := Lib.hid hP0
  have hQ := Lib.hid hQ0
  have hF := Lib.hid hF0
  have hG := Lib.hid hG0
  have hgood := Pb.good hck
  have hnbd := Pb.nbd hgood
  have hld4 := Pb.loads4 hgood
  have hen : x.p.n = x.buy.l.length := rfl
  have hel : x.p.loads.length = x.loads.length := by simp [PbM.p]
  have hc0 := fun W (h : RPb W x) => pcheck_any x W h hF0
  rw [hck] at hc0
  have hc := Lib.hid hc0
  have hs0 := fun W (h : RPb W x) (h2 : RPn W y) => shaped_any x y W h h2 hF0 (by omega) (by omega)
  have hst0 := RX.start x y w #[.slice none 0 0, .slice none 0 0, .slice none 0 0, .int .i64 0]
  have hmf : ∀ (fn : Fn) (first cap : Array Value) (w : World), (Instr.makeFunc fn first cap).run Try.prog w = .ok (.func fn first cap) w := fun _ _ _ _ => rfl
  rw [hfo] at hs0
  have hs := Lib.hid hs0
  obtain ⟨hsz0, -, -⟩ := Pb.form_good hfo
  obtain ⟨e1, e2, e3⟩ := Pb.sized_yes hsz0
  have e1 : y.charge.l.length = x.buy.l.length := e1
  have e2 : y.heat.l.length = x.buy.l.length := e2
  have e3 : y.start.l.length = x.loads.length := e3.trans hel
  obtain ⟨e4, e5, e6⟩ := hgood.lens
  have e4 : x.solar.l.length = x.buy.l.length := e4
  have e5 : x.demand.l.length = x.buy.l.length := e5
  have e6 : x.outside.l.length = x.buy.l.length := e6
  have hU0 : (x.p.uses y.x).length = x.buy.l.length := Pb.uses_len hgood y.x
  have hus0 := fun W (h : RPb W x) (h2 : RPn W y) => luses_any x.LA y.start.A x.lc y.start.c x.loads y.start.l x.buy.l.length W h.loads h2.start (PbM.prof_short hgood) hG0.ss (by omega) (by omega) hG0.sc
  have hU1 : usesL (x.loads.map LdM.r) y.start.l x.buy.l.length = x.p.uses y.x := rfl
  rw [hU1, ← e1] at hus0
  have hSL := Lib.hid (fun k => Pb.slot hgood hfo k)
  have hES := Lib.hid (fun k e (h3 : x.p.errTo y.x k = 0) (h4 : x.p.slotErr y.x k = e) (he : e ≠ 0) (hk : k < x.buy.l.length) => Pb.err_slot hck hfo h3 h4 he hk)
  have hER := Lib.hid (Pb.err_run hck hfo)
  have hgd := Lib.hid hgood
  obtain ⟨U, hU⟩ : ∃ U, U = x.p.uses y.x := ⟨_, rfl⟩
  have HU := Lib.hid hU
  rw [← hU] at hus0 hU0
  have hus := Lib.hid hus0
  have E1 := Lib.hid e1
  have E2 := Lib.hid e2
  have E4 := Lib.hid e4
  have E5 := Lib.hid e5
  have E6 := Lib.hid e6
  have EU := Lib.hid hU0
  have HN := Lib.hid hnbd
  clear hs0 hsz0 e1 e2 e3 e4 e5 e6 hus0 hU1 hU hU0 hck hfo
  simp only [PbM.v, PnM.v]
  clear hP0 hF0 hQ0 hG0 hc0 hgood hnbd hld4 hen hel
  obtain ⟨W, hW⟩ : ∃ W, W = (((w.alloc (.cells #[.slice x.buy.A x.buy.l.length x.buy.c, .slice x.sell.A x.sell.l.length x.sell.c, .int .i64 x.fuse, .slice x.solar.A x.solar.l.length x.solar.c, .slice x.demand.A x.demand.l.length x.demand.c, .slice x.outside.A x.outside.l.length x.outside.c, .int .i64 x.bat.cap, .int .i64 x.bat.reserve, .int .i64 x.bat.charge, .int .i64 x.bat.discharge, .int .i64 x.bat.eff, .int .i64 x.gain, .int .i64 x.loss, .int .i64 x.steps, .int .i64 x.power, .slice x.low.A x.low.l.length x.low.c, .slice x.high.A x.high.l.length x.high.c, .slice x.LA x.loads.length x.lc, .int .i64 x.level, .int .i64 x.temp] 31)).alloc (.cells #[.slice y.charge.A y.charge.l.length y.charge.c, .slice y.heat.A y.heat.l.length y.heat.c, .slice y.start.A y.start.l.length y.start.c] 33)).alloc (.cells #[.slice none 0 0, .slice none 0 0, .slice none 0 0, .int .i64 0] 47)).alloc (.cells #[.int .i64 0] 35) := ⟨_, rfl⟩
  rw [show (((w.alloc (.cells x.cs 31)).alloc (.cells y.cs 33)).alloc (.cells #[.slice none 0 0, .slice none 0 0, .slice none 0 0, .int .i64 0] 47)).alloc (.cells #[.int .i64 0] 35) = W from hW.symm] at hst0
  have hst := Lib.hid hst0
  have hWH := Lib.hid hW
  clear hst0 hW
  go_enter_defers Try.func93, Try.ntmps93
  go_upto_region 2 with fail
  rw [← hWH.out]
  clear hWH hmf
  go_wp2_with (refine wpList_load_problem rfl _ rfl w.heap.size rfl x hst.out.px.p ?_)
  refine (hc.out _ (hst.out.px.pr hP.out)).mono ?_
  rintro e w1 ⟨rfl, hb1⟩
  have HR1 := Lib.hid (hst.out.below hb1)
  obtain ⟨z0, z1, z2, z3, z4⟩ := HR1.out.cells
  obtain ⟨f0, f1, f2, f3, f4⟩ := HR1.out.frozen
  have HR2 := Lib.hid (HR1.out.setE 0)
  clear hb1 hst
  go_wp2_with (first | refine wpList_load_problem rfl _ rfl w.heap.size rfl x (HR2.out).px.p ?_ | refine wpList_load_plan rfl _ rfl (w.heap.size + 1) rfl y (HR2.out).px.q ?_)
  refine (hs.out _ (HR2.out.px.pr hP.out) (HR2.out.px.qr hQ.out)).mono ?_
  rintro e w2 ⟨rfl, hb2⟩
  have HR3 := Lib.hid (HR2.out.below hb2)
  clear hb2 z0 z1 z2 z3 z4 f0 f1 f2 f3 f4 HR1 HR2
  obtain ⟨z0, z1, z2, z3, z4⟩ := HR3.out.cells
  obtain ⟨f0, f1, f2, f3, f4⟩ := HR3.out.frozen
  go_upto_region 8 with fail
  have HR5 := Lib.hid (HR3.out.setE 0)
  obtain ⟨W5, hW5⟩ : ∃ W5, W5 = w2.setCell ⟨w.heap.size + 1 + 1 + 1, 0, none⟩ (.int .i64 0) := ⟨_, rfl⟩
  rw [← hW5]
  rw [show w2.setCell ⟨w.heap.size + 3, 0, none⟩ (.int .i64 0) = W5 from hW5.symm] at HR5
  clear z0 z1 z2 z3 z4 f0 f1 f2 f3 f4 HR3 hW5
  obtain ⟨-, -, -, -, -, -, -, -, -, -, -, -, -, -, -, -, -, c17, c18, c19⟩ := HR5.out.px.pc
  obtain ⟨d0, -, d2⟩ := HR5.out.px.qc
  go_quiet (fail)
  go_wp2_with fail
  refine (hus.out _ ((HR5.out.drewN _).px.pr hP.out) ((HR5.out.drewN _).px.qr hQ.out)).mono ?_
  rintro e w6 ⟨AU, cU, rfl, hRU, hfU, hb6⟩
  have HR6 := Lib.hid ((HR5.out.drewN _).below hb6)
  have hfU2 : ∀ ad, AU = some ad → w.heap.size + 4 ≤ ad.block := fun ad e => Nat.le_trans (HR5.out.drewN _).lt (hfU ad e)
  have HFU := Lib.hid hfU2
  have HRU := Lib.hid hRU
  have hAB := hRU.lt (by intro e; have h1 := EU.out; have h2 : 1 ≤ x.buy.l.length := HN.out.1; rw [e] at h1; simp at h1; omega)
  obtain ⟨B, hB⟩ : ∃ B, B = w6.heap.size := ⟨_, rfl⟩
  have hB4 : w.heap.size + 4 ≤ B := by rw [hB]; exact HR6.out.lt
  rw [← hB] at hAB
  have HAB := Lib.hid hAB
  have HB := Lib.hid hB
  have HB4 := Lib.hid hB4
  clear c17 c18 c19 d0 d2 hb6 hfU hfU2 hRU hB hB4 hAB
  obtain ⟨d0, -, -⟩ := HR6.out.px.qc
  go_wp2_with fail
  clear d0
  go_loopw [6, 7, 44] (fun s6 s7 s44 wr => ∃ (k : Nat) (v1 v2 v3 : Value), k ≤ x.buy.l.length ∧ s6 = .int .i64 (x.p.lv y.x k) ∧ s7 = .int .i64 (x.p.tm y.x k) ∧ s44 = .int .i64 k ∧ Hid (x.p.errTo y.x k = 0) ∧
      Hid (RX x y w wr #[v1, v2, v3, .int .i64 0] 0) ∧ Hid (Rows3 wr B v1 v2 v3 (x.p.nets y.x k) (x.p.levels y.x k) (x.p.temps y.x k)) ∧ Hid (RInts wr AU U) ∧ Hid (B ≤ wr.heap.size))
    (fun _ _ s44 _ => x.buy.l.length - (intOf s44).toNat)
  case atStart => exact ⟨0, _, _, _, by omega, rfl, rfl, rfl, rfl, HR6.out, Rows3.nil _ _, HRU.out, Nat.le_of_eq HB.out⟩
  case round =>
    obtain ⟨k, v1, v2, v3, hk, rfl, rfl, rfl, herr, hRX, hR3, hRU, hBw⟩ := hrel
    obtain ⟨wo, hwo⟩ : ∃ wo : World, wo = wr := ⟨_, rfl⟩
    subst hwo
    obtain ⟨A1, c1, rfl⟩ := own_form hR3.out.o1
    obtain ⟨A2, c2, rfl⟩ := own_form hR3.out.o2
    obtain ⟨A3, c3, rfl⟩ := own_form hR3.out.o3
    by_cases hlt : k < x.buy.l.length
    · have hkc : k < y.charge.l.length := by have := E1.out; omega
      have hkh : k < y.heat.l.length := by have := E2.out; omega
      have hks : k < x.solar.l.length := by have := E4.out; omega
      have hkd : k < x.demand.l.length := by have := E5.out; omega
      have hko : k < x.outside.l.length := by have := E6.out; omega
      have hku : k < U.length := by have := EU.out; omega
      have hsl := hSL.out k
      obtain ⟨bc, oc, hCe, _, x0⟩ := (hRX.out.px.qr hQ.out).charge.at' hkc
      obtain ⟨bu, ou, hUe, _, _⟩ := hRU.out.at' hku
      rw [show y.x.charge.getD k 0 = y.charge.l[k] from (getD_eq hkc).symm, show y.x.heat.getD k 0 = y.heat.l[k] from (getD_eq hkh).symm, show x.p.solar.getD k 0 = x.solar.l[k] from (getD_eq hks).symm,
        show x.p.demand.getD k 0 = x.demand.l[k] from (getD_eq hkd).symm, show x.p.outside.getD k 0 = x.outside.l[k] from (getD_eq hko).symm, ← HU.out, ← getD_eq hku] at hsl
      have HSL0 := Lib.hid hsl
      clear hsl
      rw [hCe]
      subst hUe
      have hst0 := fun W => step_any x.bat (x.p.lv y.x k) y.charge.l[k] W
      obtain ⟨-, -, -, -, -, -, c6, c7, c8, c9, c10, -, -, -, -, -, -, -, -, -⟩ := hRX.out.px.pc
      generalize y.charge.l[k] = c at *
      have hlv := Lib.hid (rfl : x.p.lv y.x k = x.p.lv y.x k)
      generalize x.p.lv y.x k = lv at *
      obtain ⟨st, hst⟩ : ∃ st, st = stepZ x.bat lv c := ⟨_, rfl⟩
      rw [← hst] at hst0
      have HST := Lib.hid hst
      obtain ⟨l1, dr, er⟩ := st
      have hst1 : ∀ W, Calls Try.prog 81 #[.agg #[.int .i64 x.bat.cap, .int .i64 x.bat.reserve, .int .i64 x.bat.charge, .int .i64 x.bat.discharge, .int .i64 x.bat.eff], .int .i64 lv, .int .i64 c] W (fun e w' => e = .returned (.tuple #[.int .i64 l1, .int .i64 dr, .int .i64 er]) ∧ Below W.heap.size W w') := fun W => hst0 W
      have hstep := Lib.hid hst1
      have i1 : (0 : Int) ≤ (k : Int) := by omega
      have i2 : (k : Int) < (y.charge.l.length : Int) := by omega
      clear hst hst0 hst1 hlv
      go_wp2_with fail
      refine (hstep.out _).mono ?_
      rintro e w7 ⟨rfl, hb7⟩
      have HR7 := Lib.hid (hRX.out.below hb7)
      have HR37 := Lib.hid (hR3.out.below hb7)
      have HRU7 := Lib.hid (hRU.out.below hb7)
      have HBw7 := Lib.hid (Nat.le_trans hBw.out hb7.size)
      clear hb7 x0 c6 c7 c8 c9 c10 hstep i2 hRX hR3 hRU hBw
      have HSL : Hid (Pb.Slot x.p y.x k c _ _ _ _ _ lv (x.p.tm y.x k)) := HSL0
      by_cases her : er = 0
      · subst her
        obtain ⟨bo, oo, hOe, _, o0⟩ := (HR7.out.px.pr hP.out).outside.at' hko
        obtain ⟨bh, oh, hHe, _, h0⟩ := (HR7.out.px.qr hQ.out).heat.at' hkh
        obtain ⟨-, -, -, -, -, c5, -, -, -, -, -, c11, c12, c13, c14, c15, c16, -, -, -⟩ := HR7.out.px.pc
        obtain ⟨-, d1, -⟩ := HR7.out.px.qc
        rw [hOe] at c5
        rw [hHe] at d1
        have HOE := Lib.hid hOe
        have HHE := Lib.hid hHe
        clear hOe hHe
        generalize x.outside.l[k] = o at *
        generalize y.heat.l[k] = h at *
        obtain ⟨tz, htz⟩ : ∃ tz, tz = x.room.valid.step (x.p.tm y.x k) o h := ⟨_, rfl⟩
        have HTZ := Lib.hid htz
        have ht1 : ∀ W, RPb W x → Calls Try.prog 45 #[.agg #[.int .i64 x.gain, .int .i64 x.loss, .int .i64 x.steps, .int .i64 x.power, .slice x.low.A x.low.l.length x.low.c, .slice x.high.A x.high.l.length x.high.c], .int .i64 (x.p.tm y.x k), .int .i64 o, .int .i64 h] W (fun e w' => e = .returned (.int .i64 tz) ∧ Below W.heap.size W w') := fun W hp => by
          rw [htz]; exact tstep_any x.room x.low.A x.high.A x.low.c x.high.c (x.p.tm y.x k) o h W hp.low hp.high
        have HT := Lib.hid ht1
        clear htz ht1
        generalize x.p.tm y.x k = tm at *
        have i3 : (k : Int) < (x.outside.l.length : Int) := by omega
        have i4 : (k : Int) < (y.heat.l.length : Int) := by omega
        have HK : Hid (∀ W, Below w7.heap.size w7 W → Below w7.heap.size w7 W ∧ W.cell? ⟨w.heap.size, 11, none⟩ = some (.int .i64 x.gain) ∧ W.cell? ⟨w.heap.size, 12, none⟩ = some (.int .i64 x.loss) ∧ W.cell? ⟨w.heap.size, 13, none⟩ = some (.int .i64 x.steps) ∧ W.cell? ⟨w.heap.size, 14, none⟩ = some (.int .i64 x.power) ∧ W.cell? ⟨w.heap.size, 15, none⟩ = some (.slice x.low.A x.low.l.length x.low.c) ∧ W.cell? ⟨w.heap.size, 16, none⟩ = some (.slice x.high.A x.high.l.length x.high.c) ∧ W.cell? ⟨w.heap.size, 5, none⟩ = some (.slice (some ⟨bo, oo, none⟩) x.outside.l.length x.outside.c) ∧ W.cell? ⟨w.heap.size + 1, 1, none⟩ = some (.slice (some ⟨bh, oh, none⟩) y.heat.l.length y.heat.c) ∧ W.cell? ⟨bo, oo + k, none⟩ = some (.int .i64 o) ∧ W.cell? ⟨bh, oh + k, none⟩ = some (.int .i64 h)) := fun W hb => ⟨hb, cell_below c11 hb, cell_below c12 hb, cell_below c13 hb, cell_below c14 hb, cell_below c15 hb, cell_below c16 hb, cell_below c5 hb, cell_below d1 hb, cell_below o0 hb, cell_below h0 hb⟩
        clear c5 c11 c12 c13 c14 c15 c16 d1 o0 h0
        go_wp2_with fail
        go_region_held3 (fun w' => Below w7.heap.size w7 w' ∧ w'.cell? ⟨w.heap.size, 11, none⟩ = some (.int .i64 x.gain) ∧ w'.cell? ⟨w.heap.size, 12, none⟩ = some (.int .i64 x.loss) ∧ w'.cell? ⟨w.heap.size, 13, none⟩ = some (.int .i64 x.steps) ∧ w'.cell? ⟨w.heap.size, 14, none⟩ = some (.int .i64 x.power) ∧ w'.cell? ⟨w.heap.size, 15, none⟩ = some (.slice x.low.A x.low.l.length x.low.c) ∧ w'.cell? ⟨w.heap.size, 16, none⟩ = some (.slice x.high.A x.high.l.length x.high.c) ∧ w'.cell? ⟨w.heap.size, 5, none⟩ = some (.slice (some ⟨bo, oo, none⟩) x.outside.l.length x.outside.c) ∧ w'.cell? ⟨w.heap.size + 1, 1, none⟩ = some (.slice (some ⟨bh, oh, none⟩) y.heat.l.length y.heat.c) ∧ w'.cell? ⟨bo, oo + k, none⟩ = some (.int .i64 o) ∧ w'.cell? ⟨bh, oh + k, none⟩ = some (.int .i64 h))
          (first | exact HK.out _ (Below.refl _ _) | exact HK.out _ (Below.drew (Below.refl _ _)) | exact HK.out _ (Below.drew (by assumption)) | exact HK.out _ (Below.drew (And.left (by assumption))) | exact HK.out _ (Below.trans (by first | assumption | exact And.left (by assumption) | exact Below.refl _ _ | exact Below.drew (Below.refl _ _) | exact Below.drew (by assumption) | exact Below.drew (And.left (by assumption))) (Below.mono (by assumption) (Below.size (by first | assumption | exact And.left (by assumption) | exact Below.refl _ _ | exact Below.drew (Below.refl _ _) | exact Below.drew (by assumption) | exact Below.drew (And.left (by assumption)))))))
          (first | (go_at_call 45; refine (HT.out _ ((HR7.out.below (by first | assumption | exact And.left (by assumption) | exact Below.refl _ _ | exact Below.drew (Below.refl _ _) | exact Below.drew (by assumption) | exact Below.drew (And.left (by assumption)))).px.pr hP.out)).mono ?_; rintro e' w8 ⟨rfl, hb8⟩))
        rename_i hHeld
        obtain ⟨hb8', c11, c12, c13, c14, c15, c16, -, d1, -, h0⟩ := hHeld
        have HR8 := Lib.hid (HR7.out.below hb8')
        have HR38 := Lib.hid (HR37.out.below hb8')
        have HRU8 := Lib.hid (HRU7.out.below hb8')
        have HBw8 := Lib.hid (Nat.le_trans HBw7.out hb8'.size)
        clear hb8 hb8' HK HT i3 HR7 HR37 HRU7 HBw7
        obtain ⟨bd, od, hDe, _, e0⟩ := (HR8.out.px.pr hP.out).demand.at' hkd
        obtain ⟨bs, os, hSe, _, s0⟩ := (HR8.out.px.pr hP.out).solar.at' hks
        obtain ⟨bu', ou', hUe, _, u0⟩ := HRU8.out.at' hku
        cases hUe
        obtain ⟨-, -, f2, s3, c4, -, -, -, -, -, -, -, -, -, -, -, -, -, -, -⟩ := HR8.out.px.pc
        rw [hDe] at c4
        rw [hSe] at s3
        have F2 := Lib.hid f2
        clear f2 hDe hSe
        generalize x.demand.l[k] = dd at *
        generalize x.solar.l[k] = so at *
        generalize U[k] = uu at *
        have hsl2 := HSL.out
        have hd0 := hsl2.d0; have hd1 := hsl2.d1; have hs0 := hsl2.s0; have hs1 := hsl2.s1; have hr0 := hsl2.r0; have hr1 := hsl2.r1; have hm0 := hsl2.m0; have hm1 := hsl2.m1; have hu0 := hsl2.u0; have hu1 := hsl2.u1
        have hnet := hsl2.net
        have HTM : Hid (x.p.tm y.x (k + 1) = tz) := by show _ = _; rw [hsl2.tm', HTZ.out]; rfl
        have HLV : Hid (x.p.lv y.x (k + 1) = l1) := by show _ = _; rw [hsl2.lv', show stepZ x.p.bat lv c = (l1, dr, 0) from HST.out.symm]
        rw [show stepZ x.p.bat lv c = (l1, dr, 0) from HST.out.symm] at hr0 hr1 hnet
        have hm0 : 0 ≤ h * x.power := hm0
        have hm1 : h * x.power ≤ 40000 := hm1
        have hnet : x.p.net y.x k = dd + dr + h * x.power + uu - so := hnet
        simp only [] at hr0 hr1
        have a1 : IntKind.i64.wrap (dd + dr) = dd + dr := IntWalk.i64_in _ (by omega)
        have a2 : IntKind.i64.wrap (h * x.power) = h * x.power := IntWalk.i64_in _ (by omega)
        have a3 : IntKind.i64.wrap (dd + dr + h * x.power) = dd + dr + h * x.power := IntWalk.i64_in _ (by omega)
        have a4 : IntKind.i64.wrap (dd + dr + h * x.power + uu) = dd + dr + h * x.power + uu := IntWalk.i64_in _ (by omega)
        have hfb := Pb.fuse_bd hgd.out
        have hfb : 1 ≤ x.fuse ∧ x.fuse ≤ 1000 := hfb
        have a6 : IntKind.i64.wrap (-x.fuse) = -x.fuse := IntWalk.i64_in _ (by omega)
        have A6 := Lib.hid a6
        have i3 : (k : Int) < (x.demand.l.length : Int) := by omega
        have i5 : (k : Int) < (x.solar.l.length : Int) := by omega
        have i6 : (k : Int) < (U.length : Int) := by omega
        obtain ⟨nz, hnz⟩ : ∃ nz, nz = dd + dr + h * x.power + uu - so := ⟨_, rfl⟩
        have HNZ : Hid (x.p.net y.x k = nz) := by show _ = _; rw [hnz]; exact hnet
        have a5 : IntKind.i64.wrap (dd + dr + h * x.power + uu - so) = nz := by rw [hnz]; exact IntWalk.i64_in _ (by omega)
        clear hsl2 hd0 hd1 hs0 hs1 hr0 hr1 hm0 hm1 hu0 hu1 hnet hfb a6 hnz
        have C16 := Lib.hid (And.intro c11 (And.intro c12 (And.intro c13 (And.intro c15 c16))))
        clear c11 c12 c13 c15 c16
        go_wp2_with fail
        go_quiet (fail)
        clear a1 a2 a3 a4 a5 s3 c4 d1 h0 e0 s0 u0 i3 i4 i5 i6
        have ho1 : ∀ W, RPb W x → Calls Try.prog 44 #[.agg #[.int .i64 x.gain, .int .i64 x.loss, .int .i64 x.steps, .int .i64 x.power, .slice x.low.A x.low.l.length x.low.c, .slice x.high.A x.high.l.length x.high.c], .int .i64 k, .int .i64 tz] W (fun e w' => e = .returned (.bool (x.room.valid.okAt k tz)) ∧ Below W.heap.size W w') := fun W hp =>
          tok_any x.room x.low.A x.high.A x.low.c x.high.c k tz W hp.low hp.high
        obtain ⟨c11, c12, c13, c15, c16⟩ := C16.out
        have hor : x.p.room.valid.okAt k tz = x.room.valid.okAt k tz := rfl
        cases hok : x.room.valid.okAt k tz
        all_goals
          rw [hok] at ho1
          have HO := Lib.hid ho1
          clear ho1
          go_wp2_with fail
          refine (HO.out _ ((HR8.out.drewN _).px.pr hP.out)).mono ?_
          rintro e wa ⟨rfl, hba⟩
          have HRa := Lib.hid ((HR8.out.drewN _).below hba)
          have HR3a := Lib.hid ((HR38.out.below (below_drewN (Below.refl _ _) _)).below hba)
          have HRUa := Lib.hid ((HRU8.out.drewN _).below hba)
          have HBwa := Lib.hid (Nat.le_trans HBw8.out hba.size)
          clear hba c11 c12 c13 c14 c15 c16
        · clear hor
          obtain ⟨z0, z1, z2, z3, z4⟩ := HRa.out.cells
          obtain ⟨f0, f1, f2, f3, f4⟩ := HRa.out.frozen
          have hfin := Lib.hid (hES.out k 20 herr.out (by rw [HSL.out.err, show stepZ x.p.bat lv c = (l1, dr, 0) from HST.out.symm, HTM.out, HNZ.out]; simp only []; rw [if_neg (by simp), if_neg (by show ¬ (x.room.valid.okAt k tz && wB nz (-x.fuse) x.fuse) = true; rw [hok]; simp)]) (by omega) hlt)
          go_wp2_with fail
          rw [hfin.out.1, hfin.out.2]
          have HR' := ((((HRa.out.setT 0 (.slice A1 (x.p.nets y.x k).length c1)).setT 1 (.slice A2 (x.p.levels y.x k).length c2)).setT 2 (.slice A3 (x.p.temps y.x k).length c3)).setT 3 (.int .i64 0)).setE 20
          exact run_door_bad (by simpa using HR') (by omega) rfl rfl
        · have hfb := Pb.fuse_bd hgd.out
          have hfb : 1 ≤ x.fuse ∧ x.fuse ≤ 1000 := hfb
          have f2c := HRa.out.px.pc.2.2.1
          have a6 := A6.out
          rcases (show (nz < -x.fuse) ∨ (¬ nz < -x.fuse ∧ x.fuse < nz) ∨ (¬ nz < -x.fuse ∧ ¬ x.fuse < nz) by omega) with g | ⟨g, g2⟩ | ⟨g, g2⟩
          · clear hor
            obtain ⟨z0, z1, z2, z3, z4⟩ := HRa.out.cells
            obtain ⟨f0, f1, f2, f3, f4⟩ := HRa.out.frozen
            have hfin := Lib.hid (hES.out k 20 herr.out (by rw [HSL.out.err, show stepZ x.p.bat lv c = (l1, dr, 0) from HST.out.symm, HTM.out, HNZ.out]; simp only []; rw [if_neg (by simp), if_neg (by show ¬ (x.room.valid.okAt k tz && wB nz (-x.fuse) x.fuse) = true; rw [wB_false.2 (by omega)]; simp)]) (by omega) hlt)
            go_wp2_with fail
            rw [hfin.out.1, hfin.out.2]
            have HR' := ((((HRa.out.setT 0 (.slice A1 (x.p.nets y.x k).length c1)).setT 1 (.slice A2 (x.p.levels y.x k).length c2)).setT 2 (.slice A3 (x.p.temps y.x k).length c3)).setT 3 (.int .i64 0)).setE 20
            exact run_door_bad (by simpa using HR') (by omega) rfl rfl
          · clear hor
            obtain ⟨z0, z1, z2, z3, z4⟩ := HRa.out.cells
            obtain ⟨f0, f1, f2, f3, f4⟩ := HRa.out.frozen
            have hfin := Lib.hid (hES.out k 20 herr.out (by rw [HSL.out.err, show stepZ x.p.bat lv c = (l1, dr, 0) from HST.out.symm, HTM.out, HNZ.out]; simp only []; rw [if_neg (by simp), if_neg (by show ¬ (x.room.valid.okAt k tz && wB nz (-x.fuse) x.fuse) = true; rw [wB_false.2 (by omega)]; simp)]) (by omega) hlt)
            go_wp2_with fail
            rw [hfin.out.1, hfin.out.2]
            have HR' := ((((HRa.out.setT 0 (.slice A1 (x.p.nets y.x k).length c1)).setT 1 (.slice A2 (x.p.levels y.x k).length c2)).setT 2 (.slice A3 (x.p.temps y.x k).length c3)).setT 3 (.int .i64 0)).setE 20
            exact run_door_bad (by simpa using HR') (by omega) rfl rfl
          · have hk9 : k ≤ 96 := by
              have h2 : x.buy.l.length ≤ 96 := HN.out.2
              omega
            obtain ⟨i0, hi, hz0, hz1, hz2⟩ := info_parts Try.infoInt
            have HSE := Lib.hid (Pb.errTo_go herr.out (by rw [HSL.out.err, show stepZ x.p.bat lv c = (l1, dr, 0) from HST.out.symm, HTM.out, HNZ.out]; simp only []; rw [if_neg (by simp), if_pos (by show (x.room.valid.okAt k tz && wB nz (-x.fuse) x.fuse) = true; rw [hok, wB_true.2 ⟨by omega, by omega⟩]; rfl)]))
            clear hor hok
            obtain ⟨z0, z1, z2, z3, z4⟩ := HRa.out.cells
            obtain ⟨f0, f1, f2, f3, f4⟩ := HRa.out.frozen
            go_wp2_with (at_builtin; refine wpList_append_newGH _ (wa) (wa.heap.size) rfl rfl _ _ 22 rfl B 3 i0 (.int .i64 0) 1 8 Try.underlying22 hi hz0 hz1 hz2 rfl (by decide) (by decide) _ (x.p.nets y.x k).length (ints (x.p.nets y.x k)) rfl HR3a.out.o1 #[.int .i64 nz] rfl (one_int _ _) rfl rfl (by rw [Pb.nets_len]; omega) HBwa.out ?_)
            intro v' wb hob hgb hvb
            have HR3b := Lib.hid (HR3a.out.push rfl hob hgb hvb)
            have hBb := HR3a.out.grown HBwa.out hgb
            have HRb := Lib.hid (HRa.out.above hBb HB4.out)
            have HRUb := Lib.hid (HRUa.out.under hBb HAB.out)
            have HBwb := Lib.hid (Nat.le_trans HBwa.out hBb.size)
            obtain ⟨A1', c1', rfl⟩ := own_form hob
            clear hob hgb hvb hBb z0 z1 z2 z3 z4 f0 f1 f2 f3 f4
            obtain ⟨z0, z1, z2, z3, z4⟩ := HRb.out.cells
            obtain ⟨f0, f1, f2, f3, f4⟩ := HRb.out.frozen
            obtain ⟨wc, hwwc⟩ : ∃ wc, wc = wb.setCell ⟨w.heap.size + 1 + 1, 0, none⟩ (.slice A1' ((x.p.nets y.x k).length + 1) c1') := ⟨_, rfl⟩
            have HRc : Hid (RX x y w wc #[.slice A1' ((x.p.nets y.x k).length + 1) c1', .slice A2 (x.p.levels y.x k).length c2, .slice A3 (x.p.temps y.x k).length c3, .int .i64 0] 0) := by
              show RX _ _ _ _ _ _
              rw [hwwc]
              simpa using HRb.out.setT 0 (.slice A1' ((x.p.nets y.x k).length + 1) c1')
            have HR3c := Lib.hid ((HR3b.out.set (p := ⟨w.heap.size + 2, 0, none⟩) (by have := HB4.out; show w.heap.size + 2 < B; omega) (.slice A1' ((x.p.nets y.x k).length + 1) c1')).rot)
            have HRUc := Lib.hid (HRUb.out.setFar (p := ⟨w.heap.size + 2, 0, none⟩) (fun ad e => by have := HFU.out ad e; show ad.block ≠ w.heap.size + 2; omega) (.slice A1' ((x.p.nets y.x k).length + 1) c1'))
            rw [show wb.setCell ⟨w.heap.size + 2, 0, none⟩ (.slice A1' ((x.p.nets y.x k).length + 1) c1') = wc from hwwc.symm] at HR3c HRUc
            have HBwc : Hid (B ≤ wc.heap.size) := by show _ ≤ _; rw [hwwc]; simpa [World.setCell] using HBwb.out
            go_upto_region 22 with fail
            rw [← hwwc]
            clear hwwc z0 z1 z2 z3 z4 f0 f1 f2 f3 f4 HRa HR3a HRUa HBwa HRb HR3b HRUb HBwb
            obtain ⟨z0, z1, z2, z3, z4⟩ := HRc.out.cells
            obtain ⟨f0, f1, f2, f3, f4⟩ := HRc.out.frozen
            go_wp2_with (at_builtin; refine wpList_append_newGH _ (wc) (wc.heap.size) rfl rfl _ _ 22 rfl B 3 i0 (.int .i64 0) 1 8 Try.underlying22 hi hz0 hz1 hz2 rfl (by decide) (by decide) _ (x.p.levels y.x k).length (ints (x.p.levels y.x k)) rfl HR3c.out.o1 #[.int .i64 l1] rfl (one_int _ _) rfl rfl (by rw [Pb.levels_len]; omega) HBwc.out ?_)
            intro v' wd hob hgb hvb
            have HR3d := Lib.hid (HR3c.out.push rfl hob hgb hvb)
            have hBb := HR3c.out.grown HBwc.out hgb
            have HRd := Lib.hid (HRc.out.above hBb HB4.out)
            have HRUd := Lib.hid (HRUc.out.under hBb HAB.out)
            have HBwd := Lib.hid (Nat.le_trans HBwc.out hBb.size)
            obtain ⟨A2', c2', rfl⟩ := own_form hob
            clear hob hgb hvb hBb z0 z1 z2 z3 z4 f0 f1 f2 f3 f4
            obtain ⟨z0, z1, z2, z3, z4⟩ := HRd.out.cells
            obtain ⟨f0, f1, f2, f3, f4⟩ := HRd.out.frozen
            obtain ⟨we, hwwe⟩ : ∃ we, we = wd.setCell ⟨w.heap.size + 1 + 1, 1, none⟩ (.slice A2' ((x.p.levels y.x k).length + 1) c2') := ⟨_, rfl⟩
            have HRe : Hid (RX x y w we #[.slice A1' ((x.p.nets y.x k).length + 1) c1', .slice A2' ((x.p.levels y.x k).length + 1) c2', .slice A3 (x.p.temps y.x k).length c3, .int .i64 0] 0) := by
              show RX _ _ _ _ _ _
              rw [hwwe]
              simpa using HRd.out.setT 1 (.slice A2' ((x.p.levels y.x k).length + 1) c2')
            have HR3e := Lib.hid ((HR3d.out.set (p := ⟨w.heap.size + 2, 1, none⟩) (by have := HB4.out; show w.heap.size + 2 < B; omega) (.slice A2' ((x.p.levels y.x k).length + 1) c2')).rot)
            have HRUe := Lib.hid (HRUd.out.setFar (p := ⟨w.heap.size + 2, 1, none⟩) (fun ad e => by have := HFU.out ad e; show ad.block ≠ w.heap.size + 2; omega) (.slice A2' ((x.p.levels y.x k).length + 1) c2'))
            rw [show wd.setCell ⟨w.heap.size + 2, 1, none⟩ (.slice A2' ((x.p.levels y.x k).length + 1) c2') = we from hwwe.symm] at HR3e HRUe
            have HBwe : Hid (B ≤ we.heap.size) := by show _ ≤ _; rw [hwwe]; simpa [World.setCell] using HBwd.out
            go_upto_region 23 with fail
            rw [← hwwe]
            clear hwwe z0 z1 z2 z3 z4 f0 f1 f2 f3 f4 HRc HR3c HRUc HBwc HRd HR3d HRUd HBwd
            obtain ⟨z0, z1, z2, z3, z4⟩ := HRe.out.cells
            obtain ⟨f0, f1, f2, f3, f4⟩ := HRe.out.frozen
            go_wp2_with (at_builtin; refine wpList_append_newGH _ (we) (we.heap.size) rfl rfl _ _ 22 rfl B 3 i0 (.int .i64 0) 1 8 Try.underlying22 hi hz0 hz1 hz2 rfl (by decide) (by decide) _ (x.p.temps y.x k).length (ints (x.p.temps y.x k)) rfl HR3e.out.o1 #[.int .i64 tz] rfl (one_int _ _) rfl rfl (by rw [Pb.temps_len]; omega) HBwe.out ?_)
            intro v' wf hob hgb hvb
            have HR3f := Lib.hid (HR3e.out.push rfl hob hgb hvb)
            have hBb := HR3e.out.grown HBwe.out hgb
            have HRf := Lib.hid (HRe.out.above hBb HB4.out)
            have HRUf := Lib.hid (HRUe.out.under hBb HAB.out)
            have HBwf := Lib.hid (Nat.le_trans HBwe.out hBb.size)
            obtain ⟨A3', c3', rfl⟩ := own_form hob
            clear hob hgb hvb hBb z0 z1 z2 z3 z4 f0 f1 f2 f3 f4
            obtain ⟨z0, z1, z2, z3, z4⟩ := HRf.out.cells
            obtain ⟨f0, f1, f2, f3, f4⟩ := HRf.out.frozen
            obtain ⟨wg, hwwg⟩ : ∃ wg, wg = wf.setCell ⟨w.heap.size + 1 + 1, 2, none⟩ (.slice A3' ((x.p.temps y.x k).length + 1) c3') := ⟨_, rfl⟩
            have HRg : Hid (RX x y w wg #[.slice A1' ((x.p.nets y.x k).length + 1) c1', .slice A2' ((x.p.levels y.x k).length + 1) c2', .slice A3' ((x.p.temps y.x k).length + 1) c3', .int .i64 0] 0) := by
              show RX _ _ _ _ _ _
              rw [hwwg]
              simpa using HRf.out.setT 2 (.slice A3' ((x.p.temps y.x k).length + 1) c3')
            have HR3g := Lib.hid ((HR3f.out.set (p := ⟨w.heap.size + 2, 2, none⟩) (by have := HB4.out; show w.heap.size + 2 < B; omega) (.slice A3' ((x.p.temps y.x k).length + 1) c3')).rot)
            have HRUg := Lib.hid (HRUf.out.setFar (p := ⟨w.heap.size + 2, 2, none⟩) (fun ad e => by have := HFU.out ad e; show ad.block ≠ w.heap.size + 2; omega) (.slice A3' ((x.p.temps y.x k).length + 1) c3'))
            rw [show wf.setCell ⟨w.heap.size + 2, 2, none⟩ (.slice A3' ((x.p.temps y.x k).length + 1) c3') = wg from hwwg.symm] at HR3g HRUg
            have HBwg : Hid (B ≤ wg.heap.size) := by show _ ≤ _; rw [hwwg]; simpa [World.setCell] using HBwf.out
            go_upto_region 24 with fail
            rw [← hwwg]
            clear hwwg z0 z1 z2 z3 z4 f0 f1 f2 f3 f4 HRe HR3e HRUe HBwe HRf HR3f HRUf HBwf
            go_wp2_with fail
            go_roundw
            case rel => exact ⟨k + 1, _, _, _, by omega, by rw [HLV.out], by rw [HTM.out], by go_num, HSE.out, HRg.out, (by rw [Pb.nets_succ, Pb.levels_succ, Pb.temps_succ, HNZ.out, HLV.out, HTM.out]; exact HR3g.out), HRUg.out, HBwg.out⟩
            case measure => simp [intOf]; omega
      · have hen : (er != 0) = true := by simpa using her
        obtain ⟨z0, z1, z2, z3, z4⟩ := HR7.out.cells
        obtain ⟨f0, f1, f2, f3, f4⟩ := HR7.out.frozen
        have hfin := Lib.hid (hES.out k er herr.out (by rw [HSL.out.err, show stepZ x.p.bat lv c = (l1, dr, er) from HST.out.symm]; simp only []; rw [if_pos her]) her hlt)
        go_wp2_with fail
        rw [hfin.out.1, hfin.out.2]
        have HR' := ((((HR7.out.setT 0 (.slice A1 (x.p.nets y.x k).length c1)).setT 1 (.slice A2 (x.p.levels y.x k).length c2)).setT 2 (.slice A3 (x.p.temps y.x k).length c3)).setT 3 (.int .i64 0)).setE er
        exact run_door_bad (by simpa using HR') her rfl rfl
    · have hkn : k = x.buy.l.length := by omega
      have hnc : ¬ (k : Int) < (y.charge.l.length : Int) := by have := E1.out; omega
      have herr2 : x.p.err y.x = 0 := by rw [hER.out]; have h := herr.out; rw [hkn] at h; exact h
      have htr := Pb.trace_ok herr2
      have hnn : x.p.n = k := hkn.symm
      rw [hnn] at htr
      have h1 := Reads.of_own hR3.out.o1
      have h2 := Reads.of_own hR3.out.o2
      have h3 := Reads.of_own hR3.out.o3
      have h1c := own_cap hR3.out.o1
      have h2c := own_cap hR3.out.o2
      have h3c := own_cap hR3.out.o3
      obtain ⟨c0, c1', c2', -, -, -, -, -, -, -, -, -, -, -, -, -, -, -, -, -⟩ := hRX.out.px.pc
      obtain ⟨z0, z1, z2, z3, z4⟩ := hRX.out.cells
      obtain ⟨f0, f1, f2, f3, f4⟩ := hRX.out.frozen
      have HE2 := Lib.hid herr2
      have HTR := Lib.hid htr
      have ht0 : ∀ W, RPb W x → RInts W A1 (x.p.nets y.x k) → Calls Try.prog 134 #[.agg #[.slice x.buy.A x.buy.l.length x.buy.c, .slice x.sell.A x.sell.l.length x.sell.c, .int .i64 x.fuse], .slice A1 (x.p.nets y.x k).length c1] W (fun e w' => e = .returned (.int .i64 (x.p.t.total (x.p.nets y.x k))) ∧ Below W.heap.size W w') := fun W hp h =>
        total_any x.t x.buy.A x.sell.A A1 x.buy.c x.sell.c c1 (x.p.nets y.x k) W hp.buy hp.sell h h1c
      have HT := Lib.hid ht0
      have HH := Lib.hid (And.intro h1 (And.intro h2 h3))
      have HCC := Lib.hid (And.intro h1c (And.intro h2c h3c))
      clear htr herr2 ht0 h1 h2 h3 h1c h2c h3c hkn hnn hlt
      generalize x.p.t.total (x.p.nets y.x k) = tot at *
      go_wp2_with fail
      refine (HT.out _ (hRX.out.px.pr hP.out) HH.out.1).mono ?_
      rintro e w7 ⟨rfl, hb7⟩
      have HR7 := Lib.hid (hRX.out.below hb7)
      have HR37 := Lib.hid (hR3.out.below hb7)
      have hi1 := RInts.below HH.out.1 hb7
      have hi2 := RInts.below HH.out.2.1 hb7
      have hi3 := RInts.below HH.out.2.2 hb7
      have HI := Lib.hid (And.intro hi1 (And.intro hi2 hi3))
      clear hb7 hi1 hi2 hi3 z0 z1 z2 z3 z4 f0 f1 f2 f3 f4 c0 c1' c2'
      obtain ⟨z0, z1, z2, z3, z4⟩ := HR7.out.cells
      obtain ⟨f0, f1, f2, f3, f4⟩ := HR7.out.frozen
      go_wp2_with fail
      have hf3 := ((((((((((((HR37.out).set (p := ⟨w.heap.size + 2, 3, none⟩) (by have := HB4.out; show w.heap.size + 2 < B; omega) (.int .i64 tot))).set (p := ⟨w.heap.size + 2, 0, none⟩) (by have := HB4.out; show w.heap.size + 2 < B; omega) (.slice A1 (x.p.nets y.x k).length c1))).set (p := ⟨w.heap.size + 2, 1, none⟩) (by have := HB4.out; show w.heap.size + 2 < B; omega) (.slice A2 (x.p.levels y.x k).length c2))).set (p := ⟨w.heap.size + 2, 2, none⟩) (by have := HB4.out; show w.heap.size + 2 < B; omega) (.slice A3 (x.p.temps y.x k).length c3))).set (p := ⟨w.heap.size + 2, 3, none⟩) (by have := HB4.out; show w.heap.size + 2 < B; omega) (.int .i64 tot))).set (p := ⟨w.heap.size + 3, 0, none⟩) (by have := HB4.out; show w.heap.size + 3 < B; omega) (.int .i64 0))
      have HR' := ((((((HR7.out).setT 3 (.int .i64 tot)).setT 0 (.slice A1 (x.p.nets y.x k).length c1)).setT 1 (.slice A2 (x.p.levels y.x k).length c2)).setT 2 (.slice A3 (x.p.temps y.x k).length c3)).setT 3 (.int .i64 tot)).setE 0
      rw [HE2.out, HTR.out]
      refine run_door_ok (m := ⟨⟨A1, c1, x.p.nets y.x k⟩, ⟨A2, c2, x.p.levels y.x k⟩, ⟨A3, c3, x.p.temps y.x k⟩, tot⟩) (x := x) (y := y) ?_ ⟨Reads.of_own hf3.o1, Reads.of_own hf3.o2, Reads.of_own hf3.o3, HCC.out.1, HCC.out.2.1, HCC.out.2.2⟩ ?_ ?_
      · simpa [TrM.v, Value.cells] using HR'
      · rfl
      · rfl
end Go.Proofs.Ytnppngaabfhkpaa
