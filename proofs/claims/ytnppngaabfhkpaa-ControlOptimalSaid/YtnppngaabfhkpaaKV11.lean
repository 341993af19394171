/-
  The law ControlOptimal, walked.
-/
import Derived.Test.YtnppngaabfhkpaaKV4
import Derived.Test.YtnppngaabfhkpaaKOP7
import Derived.Test.YtnppngaabfhkpaaKT3
namespace Go.Proofs.Ytnppngaabfhkpaa
open Go.RowKit
attribute [local go_sem ↓] Go.wp_at_zero Go.wp_at_succ

theorem PnM.fit_best {p : Pb} {y : PnM} (h : p.bestE = 0) (hy : y.x = p.best) (hc : y.Caps) : y.Fit := by
  obtain ⟨hk, _, hb, _, _⟩ := Pb.best_top h
  obtain ⟨_, hf, _⟩ := Pb.err_zero hb
  obtain ⟨e1, e2, e3, e4⟩ := Pb.feasible hb
  have g := Pb.good hk
  have gb := Bat.good (Pb.bat_good g).1
  have g1 := gb.ch1; have g2 := gb.di1
  rw [← hy] at e1 e3 e4 hf
  refine ⟨hc.1, hc.2.2, fun s hs => ?_, fun s hs => ?_⟩
  · obtain ⟨i, hi, rfl⟩ := List.mem_iff_getElem.1 hs
    have hi2 : i < p.loads.length := by rw [← e3]; exact hi
    obtain ⟨h1, h2, h3⟩ := Ld.fit_iff.1 (Pb.fit_each hf hi2)
    have e : y.x.start.getD i 0 = y.start.l[i] := by show y.start.l.getD i 0 = _; simp [List.getD, hi]
    rw [e] at h2 h3
    have gl := Ld.good h1
    have q1 := gl.e0; have q2 := gl.l1; have q3 := gl.p0
    have q4 := (Pb.nbd g).2
    omega
  · obtain ⟨i, hi, rfl⟩ := List.mem_iff_getElem.1 hs
    have hi2 : i < p.n := by rw [← e1]; exact hi
    have h4 := e4 i hi2
    have e : y.x.charge.getD i 0 = y.charge.l[i] := by show y.charge.l.getD i 0 = _; simp [List.getD, hi]
    rw [e] at h4
    omega
theorem Pb.best_lens {p : Pb} (h : p.bestE = 0) : p.best.charge.length < 1000000000 ∧ p.best.heat.length < 1000000000 ∧ p.best.start.length < 1000000000 := by
  obtain ⟨hc, _, hb, _, _⟩ := Pb.best_top h
  obtain ⟨e1, e2, e3, _⟩ := Pb.feasible hb
  have g := Pb.good hc
  have h1 := (Pb.nbd g).2
  have h2 := Pb.loads4 g
  omega

set_option maxRecDepth 100000 in
set_option maxHeartbeats 64000000 in
theorem coptimal_law (x : PbM) (w : World) (hP0 : RPb w x) (hL0 : ∀ z ∈ x.loads, z.r.prof.length ≤ maxLen ∧ z.r.name.size ≤ maxLen ∧ -9223372036854775808 ≤ z.r.late ∧ z.r.late ≤ 9223372036854775807) (hc0 : x.loads.length ≤ x.lc) (hm0 : x.buy.l.length ≤ maxLen) (hC0 : x.Cap) :
    Calls Try.prog 15 #[x.v] w fun e w' => e = .returned (.bool true) ∧ Below w.heap.size w w' := by
  have hF0 : x.Fit := ⟨fun y h => (hL0 y h).2.1, fun y h => (hL0 y h).1, hc0, hm0, fun y h => (hL0 y h).2.2⟩
  have hP := Lib.hid hP0
  have haw := Lib.hid awake44_any
  have hlg := fun W (h : RPb W x) => large_any x W h
  have hbe := fun W (h : RPb W x) => (best_any x W h hF0).mono (fun e w' hh => (by
    obtain ⟨y, hy, he, hr, hf, _, hb⟩ := hh
    exact ⟨y, hy, he, hr, hb⟩ : ∃ y : PnM, y.x = x.p.best ∧ e = .returned (.tuple #[y.v, .int .i64 x.p.bestE]) ∧ RPn w' y ∧ Below W.heap.size W w'))
  have hco := fun W (h : RPb W x) => ocost_any x W h hF0
  have hsi : x.p.bestE = 0 → ∀ W, RPb W x → Calls Try.prog 21 #[x.v] W (fun e w' => ∃ y : PnM, e = .returned (.tuple #[y.v, .int .i64 0]) ∧ y.x = x.p.best ∧ y.Caps ∧ RPn w' y ∧ Below W.heap.size W w') := fun hb W h => (simulateX_any x W h hF0 hC0).mono (fun e w' hh => by
    obtain ⟨y, he, ⟨hy, hc⟩, hr, hb2⟩ := hh
    rw [(Pb.best_top hb).1] at he
    rw [Pb.sim_opt hb] at hy
    exact ⟨y, he, hy, hc, hr, hb2⟩)
  have hva : x.p.bestE = 0 → ∀ (m : PnM) W, RPb W x → RPn W m → m.x = x.p.best → m.Caps → Calls Try.prog 47 #[x.v, m.v] W (fun e w' => e = .returned (.tuple #[.int .i64 x.p.oc, .bool true]) ∧ Below W.heap.size W w') := fun hb m W h h2 hm hc => (pvalue_any x m W h h2 hF0 (PnM.fit_best hb hm hc)).mono (fun e w' hh => by
    rw [hm, (Pb.best_top hb).2.2.1] at hh
    have e1 : x.p.oc = (x.p.trace x.p.best).cost := by unfold Pb.oc; rw [if_pos hb]
    rw [e1]
    exact hh)
  have hsm : x.p.bestE = 0 → ∀ (m m2 : PnM) W, RPn W m → RPn W m2 → m.x = x.p.best → m2.x = x.p.best → Calls Try.prog 48 #[m.v, m2.v] W (fun e w' => e = .returned (.bool true) ∧ Below W.heap.size W w') := fun hb m m2 W h h2 e1 e2 => by
    obtain ⟨q1, q2, q3⟩ := Pb.best_lens hb
    exact sameplan_true m m2 W h h2 (e1.trans e2.symm) (by rw [← e1] at q1; exact q1) (by rw [← e1] at q2; exact q2) (by rw [← e1] at q3; exact q3)
  have hst0 := PB.start x w
  simp only [PbM.v]
  obtain ⟨W, hW⟩ : ∃ W, W = w.alloc (.cells #[.slice x.buy.A x.buy.l.length x.buy.c, .slice x.sell.A x.sell.l.length x.sell.c, .int .i64 x.fuse, .slice x.solar.A x.solar.l.length x.solar.c, .slice x.demand.A x.demand.l.length x.demand.c, .slice x.outside.A x.outside.l.length x.outside.c, .int .i64 x.bat.cap, .int .i64 x.bat.reserve, .int .i64 x.bat.charge, .int .i64 x.bat.discharge, .int .i64 x.bat.eff, .int .i64 x.gain, .int .i64 x.loss, .int .i64 x.steps, .int .i64 x.power, .slice x.low.A x.low.l.length x.low.c, .slice x.high.A x.high.l.length x.high.c, .slice x.LA x.loads.length x.lc, .int .i64 x.level, .int .i64 x.temp] 31) := ⟨_, rfl⟩
  rw [show w.alloc (.cells x.cs 31) = W from hW.symm] at hst0
  have hst := Lib.hid hst0
  have hWH := Lib.hid hW
  clear hst0 hW hP0 hL0 hc0 hm0 hF0 hC0
  generalize x.p.bestE = be at *
  generalize x.p.oc = oc at *
  generalize x.p.best = bp at *
  have HLG := Lib.hid hlg
  have HBE := Lib.hid hbe
  have HCO := Lib.hid hco
  have HSI := Lib.hid hsi
  have HVA := Lib.hid hva
  have HSM := Lib.hid hsm
  clear hlg hbe hco hsi hva hsm
  go_enter Try.func15, Try.ntmps15
  go_upto_region 1 with fail
  rw [← hWH.out]
  clear hWH
  go_wp2_with (first | refine wpList_load_problemG (by rfl) _ rfl w.heap.size rfl x hst.out.p ?_)
  refine (HLG.out _ (hst.out.pr hP.out)).mono ?_
  rintro e w1 ⟨g, rfl, _, hb1⟩
  have HX1 := Lib.hid (hst.out.below hb1)
  have c0 := HX1.out.p.cell 0
  have c6 := HX1.out.p.cell 6
  have c13 := HX1.out.p.cell 13
  simp [PbM.cs] at c0 c6 c13
  clear hb1 hst HLG
  cases g
  · by_cases h1 : (6 : Int) < (x.buy.l.length : Int)
    · clear HBE HCO HSI HVA HSM
      go_wp2_with fail
      refine (haw.out _).mono ?_
      rintro e wl ⟨rfl, hbl⟩
      go_wp2_with fail
      go_ret
      exact ⟨rfl, HX1.out.bel.trans (hbl.mono HX1.out.bel.size)⟩
    · by_cases h2 : 4 < x.bat.cap
      · clear HBE HCO HSI HVA HSM
        go_wp2_with fail
        refine (haw.out _).mono ?_
        rintro e wl ⟨rfl, hbl⟩
        go_wp2_with fail
        go_ret
        exact ⟨rfl, HX1.out.bel.trans (hbl.mono HX1.out.bel.size)⟩
      · by_cases h3 : 4 < x.steps
        · clear HBE HCO HSI HVA HSM
          go_wp2_with fail
          refine (haw.out _).mono ?_
          rintro e wl ⟨rfl, hbl⟩
          go_wp2_with fail
          go_ret
          exact ⟨rfl, HX1.out.bel.trans (hbl.mono HX1.out.bel.size)⟩
        · skip
          go_upto_region 3 with fail
          clear c0 c6 c13 h1 h2 h3
          go_wp2_with (first | refine wpList_load_problemG (by rfl) _ rfl w.heap.size rfl x HX1.out.p ?_)
          refine (HBE.out _ (HX1.out.pr hP.out)).mono ?_
          rintro e w3 ⟨m, hm, rfl, hrm, hb3⟩
          have HX3 := Lib.hid (HX1.out.below hb3)
          clear hb3 HX1 HBE
          simp only [PnM.v]
          go_wp2_with (refine wpList_store_blk rfl 33 _ _ rfl w3.heap.size rfl m.cs rfl (by kernel_rfl) (PnM.cs_one _) (Blk.new w3 _ _) rfl ?_)
          intro w4 hBB hgg
          have hss : Below w3.heap.size w3 w4 := ((Below.refl w3.heap.size w3).alloc (Nat.le_refl _) (.cells #[.slice none 0 0, .slice none 0 0, .slice none 0 0] 33)).grown hgg (by simp) (fun k e => by injection e with e; omega)
          obtain ⟨t3, ht⟩ : ∃ t, t = w3.heap.size := ⟨_, rfl⟩
          have HX4 := Lib.hid (HX3.out.below hss)
          have HM4 := Lib.hid (ly_store hrm hss hBB)
          rw [← ht] at HM4
          have HMX := Lib.hid hm
          have HT := Lib.hid ht
          clear hss hgg hBB hrm hm ht HX3
          go_upto_region 4 with fail
          rw [← HT.out]
          clear HT
          by_cases h0 : be = 0
          · have hsi2 := HSI.out h0
            have hva2 := HVA.out h0
            have hsm2 := HSM.out h0
            have HSI2 := Lib.hid hsi2
            have HVA2 := Lib.hid hva2
            have HSM2 := Lib.hid hsm2
            clear hsi2 hva2 hsm2 HSI HVA HSM
            subst h0
            go_upto_region 6 with fail
            go_wp2_with (first | refine wpList_load_problemG (by rfl) _ rfl w.heap.size rfl x HX4.out.p ?_)
            refine (HSI2.out _ (HX4.out.pr hP.out)).mono ?_
            rintro e w5 ⟨y, rfl, hy, hyc, hry, hb5⟩
            have HX5 := Lib.hid (HX4.out.below hb5)
            have HM5 := Lib.hid (HM4.out.below hb5)
            clear hb5 HX4 HM4 HSI2
            simp only [PnM.v]
            go_wp2_with (refine wpList_store_blk rfl 33 _ _ rfl w5.heap.size rfl y.cs rfl (by kernel_rfl) (PnM.cs_one _) (Blk.new w5 _ _) rfl ?_)
            intro w6 hBB hgg
            have hss : Below w5.heap.size w5 w6 := ((Below.refl w5.heap.size w5).alloc (Nat.le_refl _) (.cells #[.slice none 0 0, .slice none 0 0, .slice none 0 0] 33)).grown hgg (by simp) (fun k e => by injection e with e; omega)
            obtain ⟨t5, ht⟩ : ∃ t, t = w5.heap.size := ⟨_, rfl⟩
            have HX6 := Lib.hid (HX5.out.below hss)
            have HM6 := Lib.hid (HM5.out.below hss)
            have HY6 := Lib.hid (ly_store hry hss hBB)
            rw [← ht] at HY6
            have HYX := Lib.hid hy
            have HYC := Lib.hid hyc
            have HT := Lib.hid ht
            clear hss hgg hBB hry hy hyc ht HX5 HM5
            go_upto_region 7 with fail
            rw [← HT.out]
            clear HT
            go_wp2_with (first | refine wpList_load_problemG (by rfl) _ rfl w.heap.size rfl x HX6.out.p ?_ | refine wpList_load_planG (by rfl) _ rfl t5 rfl y HY6.out.p ?_)
            refine (HVA2.out y _ (HX6.out.pr hP.out) HY6.out.r HYX.out HYC.out).mono ?_
            rintro e w7 ⟨rfl, hb7⟩
            have HX7 := Lib.hid (HX6.out.below hb7)
            have HM7 := Lib.hid (HM6.out.below hb7)
            have HY7 := Lib.hid (HY6.out.below hb7)
            clear hb7 HX6 HM6 HY6 HVA2
            go_upto_region 8 with fail
            go_wp2_with (first | refine wpList_load_problemG (by rfl) _ rfl w.heap.size rfl x HX7.out.p ?_)
            refine (HCO.out _ (HX7.out.pr hP.out)).mono ?_
            rintro e w8 ⟨rfl, hb8⟩
            have HX8 := Lib.hid (HX7.out.below hb8)
            have HM8 := Lib.hid (HM7.out.below hb8)
            have HY8 := Lib.hid (HY7.out.below hb8)
            clear hb8 HX7 HM7 HY7 HCO
            go_upto_region 9 with fail
            go_wp2_with (first | refine wpList_load_problemG (by rfl) _ rfl w.heap.size rfl x HX8.out.p ?_ | refine wpList_load_planG (by rfl) _ rfl t5 rfl y HY8.out.p ?_ | refine wpList_load_planG (by rfl) _ rfl t3 rfl m HM8.out.p ?_)
            refine (HSM2.out y m _ HY8.out.r HM8.out.r HYX.out HMX.out).mono ?_
            rintro e w9 ⟨rfl, hb9⟩
            have HX9 := Lib.hid (HX8.out.below hb9)
            clear hb9 HX8 HM8 HY8 HSM2
            go_wp2_with fail
            refine (haw.out _).mono ?_
            rintro e wl ⟨rfl, hbl⟩
            go_wp2_with fail
            go_ret
            exact ⟨rfl, HX9.out.bel.trans (hbl.mono HX9.out.bel.size)⟩
          · have q0 : (be != 0) = true := by simp [h0]
            clear h0 HSI HVA HSM HCO
            go_wp2_with fail
            refine (haw.out _).mono ?_
            rintro e wl ⟨rfl, hbl⟩
            go_wp2_with fail
            go_ret
            exact ⟨rfl, HX4.out.bel.trans (hbl.mono HX4.out.bel.size)⟩
  · clear HBE HCO HSI HVA HSM
    go_wp2_with fail
    refine (haw.out _).mono ?_
    rintro e wl ⟨rfl, hbl⟩
    go_wp2_with fail
    go_ret
    exact ⟨rfl, HX1.out.bel.trans (hbl.mono HX1.out.bel.size)⟩
end Go.Proofs.Ytnppngaabfhkpaa
