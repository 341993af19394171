/-
  The law PlanLimits, walked.
-/
import Derived.Test.YtdheockmphdakaaQP18
import Derived.Test.YtdheockmphdakaaQPP4
namespace Go.Proofs.Ytdheockmphdakaa
open Go.RowKit
attribute [local go_sem ↓] Go.wp_at_zero Go.wp_at_succ

set_option maxRecDepth 100000 in
set_option maxHeartbeats 64000000 in
theorem plimits_law (x : PbM) (y : PnM) (w : World) (hP0 : RPb w x) (hL0 : ∀ z ∈ x.loads, z.r.prof.length ≤ maxLen ∧ z.r.name.size ≤ maxLen ∧ -9223372036854775808 ≤ z.r.late ∧ z.r.late ≤ 9223372036854775807) (hc0 : x.loads.length ≤ x.lc) (hm0 : x.buy.l.length ≤ maxLen) (hQ0 : RPn w y) (hG0 : y.Fit) :
    Calls Try.prog 7 #[x.v, y.v] w fun e w' => e = .returned (.bool true) ∧ Below w.heap.size w w' := by
  have hP := Lib.hid hP0
  have hQ := Lib.hid hQ0
  have hst0 := PX.start x y w
  have hsm := Lib.hid (fun W (h : RPb W x) => small_any x W h)
  have hbr := Lib.hid (fun W (h : RPn W y) => brief_any y W h)
  have haw := Lib.hid awake_any
  simp only [PbM.v, PnM.v]
  obtain ⟨W, hW⟩ : ∃ W, W = (w.alloc (.cells #[.slice x.buy.A x.buy.l.length x.buy.c, .slice x.sell.A x.sell.l.length x.sell.c, .int .i64 x.fuse, .slice x.solar.A x.solar.l.length x.solar.c, .slice x.demand.A x.demand.l.length x.demand.c, .slice x.outside.A x.outside.l.length x.outside.c, .int .i64 x.bat.cap, .int .i64 x.bat.reserve, .int .i64 x.bat.charge, .int .i64 x.bat.discharge, .int .i64 x.bat.eff, .int .i64 x.gain, .int .i64 x.loss, .int .i64 x.steps, .int .i64 x.power, .slice x.low.A x.low.l.length x.low.c, .slice x.high.A x.high.l.length x.high.c, .slice x.LA x.loads.length x.lc, .int .i64 x.level, .int .i64 x.temp] 31)).alloc (.cells #[.slice y.charge.A y.charge.l.length y.charge.c, .slice y.heat.A y.heat.l.length y.heat.c, .slice y.start.A y.start.l.length y.start.c] 37) := ⟨_, rfl⟩
  rw [show (w.alloc (.cells x.cs 31)).alloc (.cells y.cs 37) = W from hW.symm] at hst0
  have hst := Lib.hid hst0
  have hWH := Lib.hid hW
  clear hst0 hW hP0 hQ0
  cases qs : smallM x
  · rw [qs] at hsm
    go_enter Try.func7, Try.ntmps7
    go_upto_region 1 with fail
    rw [← hWH.out]
    clear hWH
    go_wp2_with (first | refine wpList_load_problem rfl _ rfl w.heap.size rfl x (hst.out).p ?_ | refine wpList_load_plan rfl _ rfl (w.heap.size + 1) rfl y (hst.out).q ?_)
    refine (hsm.out _ (hst.out.pr hP.out)).mono ?_
    rintro e w1 ⟨rfl, hb1⟩
    have HX1 := Lib.hid (hst.out.below hb1)
    clear hb1
    go_wp2_with fail
    refine (haw.out _).mono ?_
    rintro e w2 ⟨rfl, hb2⟩
    have HX2 := Lib.hid (HX1.out.below hb2)
    clear hb2
    go_wp2_with fail
    go_ret
    exact ⟨rfl, HX2.out.bel⟩
  · cases qb : briefM y
    · rw [qs] at hsm
      rw [qb] at hbr
      go_enter Try.func7, Try.ntmps7
      go_upto_region 1 with fail
      rw [← hWH.out]
      clear hWH
      go_wp2_with (first | refine wpList_load_problem rfl _ rfl w.heap.size rfl x (hst.out).p ?_ | refine wpList_load_plan rfl _ rfl (w.heap.size + 1) rfl y (hst.out).q ?_)
      refine (hsm.out _ (hst.out.pr hP.out)).mono ?_
      rintro e w1 ⟨rfl, hb1⟩
      have HX1 := Lib.hid (hst.out.below hb1)
      clear hb1 hst
      obtain ⟨q0, q1, q2⟩ := HX1.out.qc
      go_wp2_with fail
      refine (hbr.out _ (HX1.out.qr hQ.out)).mono ?_
      rintro e w2 ⟨rfl, hb2⟩
      have HX2 := Lib.hid (HX1.out.below hb2)
      clear q0 q1 q2
      clear hb2
      go_wp2_with fail
      refine (haw.out _).mono ?_
      rintro e w3 ⟨rfl, hb3⟩
      have HX3 := Lib.hid (HX2.out.below hb3)
      clear hb3
      go_wp2_with fail
      go_ret
      exact ⟨rfl, HX3.out.bel⟩
    · have HSM := Lib.hid qs
      have HBR := Lib.hid qb
      rw [qs] at hsm
      rw [qb] at hbr
      have hF := Lib.hid (fit_of qs hL0 hc0 hm0)
      have hG := Lib.hid hG0
      clear qs qb hL0 hc0 hm0 hG0
      go_enter Try.func7, Try.ntmps7
      go_upto_region 1 with fail
      rw [← hWH.out]
      clear hWH
      go_wp2_with (first | refine wpList_load_problem rfl _ rfl w.heap.size rfl x (hst.out).p ?_ | refine wpList_load_plan rfl _ rfl (w.heap.size + 1) rfl y (hst.out).q ?_)
      refine (hsm.out _ (hst.out.pr hP.out)).mono ?_
      rintro e w1 ⟨rfl, hb1⟩
      have HX1 := Lib.hid (hst.out.below hb1)
      clear hb1 hst
      obtain ⟨q0, q1, q2⟩ := HX1.out.qc
      go_wp2_with fail
      refine (hbr.out _ (HX1.out.qr hQ.out)).mono ?_
      rintro e w2 ⟨rfl, hb2⟩
      have HX2 := Lib.hid (HX1.out.below hb2)
      clear q0 q1 q2
      clear hb2 HX1 hsm hbr
      have hr0 := fun W (h : RPb W x) (h2 : RPn W y) => prun_any x y W h h2 hF.out hG.out
      by_cases he : x.p.err y.x = 0
      · rw [he] at hr0
        have HRUN := Lib.hid hr0
        have hlim := Lib.hid (fun k (hk : k < x.p.n) => Pb.limits he hk)
        have htr := Lib.hid (Pb.trace_ok he)
        have hnb := Lib.hid (Pb.nbd (Pb.good (Pb.err_zero he).1))
        have hfb := Lib.hid (Pb.fuse_bd (Pb.good (Pb.err_zero he).1))
        clear hr0 he
        go_wp2_with (first | refine wpList_load_problem rfl _ rfl w.heap.size rfl x (HX2.out).p ?_ | refine wpList_load_plan rfl _ rfl (w.heap.size + 1) rfl y (HX2.out).q ?_)
        refine (HRUN.out _ (HX2.out.pr hP.out) (HX2.out.qr hQ.out)).mono ?_
        rintro e w3 ⟨tm, htx, rfl, hrt, hb3⟩
        have HTX := Lib.hid htx
        simp only [TrM.v]
        clear htx
        go_upto_region 4 with fail
        obtain ⟨t5, ht5⟩ : ∃ t5, t5 = w3.heap.size := ⟨_, rfl⟩
        obtain ⟨v3, hv3⟩ : ∃ v3, v3 = w3.alloc (.cells #[.slice tm.net.A tm.net.l.length tm.net.c, .slice tm.level.A tm.level.l.length tm.level.c, .slice tm.temp.A tm.temp.l.length tm.temp.c, .int .i64 tm.cost] 40) := ⟨_, rfl⟩
        have HX3 : Hid (PX x y w v3) := by show PX _ _ _ _; rw [hv3]; exact (HX2.out.below hb3).alloc _
        have hT5 : Blk v3 t5 40 #[.slice tm.net.A tm.net.l.length tm.net.c, .slice tm.level.A tm.level.l.length tm.level.c, .slice tm.temp.A tm.temp.l.length tm.temp.c, .int .i64 tm.cost] := by rw [hv3, ht5]; exact Blk.new _ _ _
        have HRT : Hid (RTr v3 tm) := by show RTr _ _; rw [hv3]; exact hrt.below (below_al (Below.refl _ _))
        rw [← hv3, ← ht5]
        clear hv3 ht5 hb3 hrt HX2
        have h1 : tm.net.l = x.p.nets y.x x.p.n := congrArg Tr.net (HTX.out.trans htr.out)
        have h2 : tm.level.l = x.p.levels y.x x.p.n := congrArg Tr.level (HTX.out.trans htr.out)
        have h3 : tm.temp.l = x.p.temps y.x x.p.n := congrArg Tr.temp (HTX.out.trans htr.out)
        have h4 : tm.cost = x.p.t.total (x.p.nets y.x x.p.n) := congrArg Tr.cost (HTX.out.trans htr.out)
        have l1 : tm.net.l.length = x.buy.l.length := by rw [h1, Pb.nets_len]; rfl
        have l2 : tm.level.l.length = x.buy.l.length := by rw [h2, Pb.levels_len]; rfl
        have l3 : tm.temp.l.length = x.buy.l.length := by rw [h3, Pb.temps_len]; rfl
        have hng : ∀ k (hk : k < tm.net.l.length), tm.net.l[k] = x.p.net y.x k := fun k hk => by simp only [h1, Pb.nets, List.getElem_map, List.getElem_range]
        have hlg : ∀ k (hk : k < tm.level.l.length), tm.level.l[k] = x.p.lv y.x (k + 1) := fun k hk => by simp only [h2, Pb.levels, List.getElem_map, List.getElem_range]
        have htg : ∀ k (hk : k < tm.temp.l.length), tm.temp.l[k] = x.p.tm y.x (k + 1) := fun k hk => by simp only [h3, Pb.temps, List.getElem_map, List.getElem_range]
        have HNG := Lib.hid hng
        have HLG := Lib.hid hlg
        have HTG := Lib.hid htg
        have HN1 := Lib.hid h1
        have H4 := Lib.hid h4
        have HCAP := Lib.hid HRT.out.nc
        have HT5 := Lib.hid hT5
        have z0 := hT5.cell 0
        have z1 := hT5.cell 1
        have z2 := hT5.cell 2
        have z3 := hT5.cell 3
        simp at z0 z1 z2 z3
        have c0 := HX3.out.pc.1
        have HL1 := Lib.hid l1
        have HL2 := Lib.hid l2
        have HL3 := Lib.hid l3
        have hn1 : x.buy.l.length ≤ 96 := hnb.out.2
        have hn0 : 1 ≤ x.buy.l.length := hnb.out.1
        have e0 : ((x.buy.l.length : Int) == 0) = false := by rw [beq_eq_false_iff_ne]; omega
        have e1 : ((tm.net.l.length : Int) != (x.buy.l.length : Int)) = false := by rw [bne_eq_false_iff_eq]; omega
        have e2 : ((tm.level.l.length : Int) != (x.buy.l.length : Int)) = false := by rw [bne_eq_false_iff_eq]; omega
        have e3 : ((tm.temp.l.length : Int) != (x.buy.l.length : Int)) = false := by rw [bne_eq_false_iff_eq]; omega
        clear h1 h2 h3 h4 l1 l2 l3 hng hlg htg hT5
        go_wp2_with fail
        clear e0 e1 e2 e3 z0 z1 z2 z3 c0
        go_loopw [8] (fun s8 wr => ∃ k : Nat, k ≤ x.buy.l.length ∧ s8 = .int .i64 k ∧ Hid (Below v3.heap.size v3 wr))
          (fun s8 _ => x.buy.l.length - (intOf s8).toNat)
        case atStart => exact ⟨0, by omega, rfl, Below.refl _ _⟩
        case round =>
          obtain ⟨k, hk, rfl, hB⟩ := hrel
          obtain ⟨wo, hwo⟩ : ∃ wo : World, wo = wr := ⟨_, rfl⟩
          subst hwo
          have HXo := Lib.hid (HX3.out.below hB.out)
          have HRo := Lib.hid (HRT.out.below hB.out)
          have hTo := HT5.out.below hB.out HT5.out.lt
          have z0 := hTo.cell 0
          have z1 := hTo.cell 1
          have z2 := hTo.cell 2
          have z3 := hTo.cell 3
          simp at z0 z1 z2 z3
          obtain ⟨c0, c1, c2, -, -, -, c6, -, -, -, -, c11, c12, c13, c14, c15, c16, -, -, -⟩ := HXo.out.pc
          by_cases hlt : k < x.buy.l.length
          · obtain ⟨g1, g2, g3, g4⟩ := hlim.out k hlt
            have hkn : k < tm.net.l.length := by have := HL1.out; omega
            have hkl : k < tm.level.l.length := by have := HL2.out; omega
            have hkt : k < tm.temp.l.length := by have := HL3.out; omega
            obtain ⟨bn, on, hne, _, n0⟩ := HRo.out.net.at' hkn
            obtain ⟨bl, ol, hle, _, n1⟩ := HRo.out.level.at' hkl
            obtain ⟨bt, ot, hte, _, n2⟩ := HRo.out.temp.at' hkt
            rw [HNG.out] at n0
            rw [HLG.out] at n1
            rw [HTG.out] at n2
            rw [hne] at z0
            rw [hle] at z1
            rw [hte] at z2
            have ho1 : ∀ W, RPb W x → Calls Try.prog 24 #[.agg #[.int .i64 x.gain, .int .i64 x.loss, .int .i64 x.steps, .int .i64 x.power, .slice x.low.A x.low.l.length x.low.c, .slice x.high.A x.high.l.length x.high.c], .int .i64 k, .int .i64 (x.p.tm y.x (k + 1))] W (fun e w' => e = .returned (.bool true) ∧ Below W.heap.size W w') := fun W hp => by
              have h := tok_any x.room x.low.A x.high.A x.low.c x.high.c k (x.p.tm y.x (k + 1)) W hp.low hp.high
              rw [show x.room.valid.okAt k (x.p.tm y.x (k + 1)) = true from g3] at h
              exact h
            have hf1 : ∀ W, RPb W x → Calls Try.prog 25 #[.agg #[.slice x.buy.A x.buy.l.length x.buy.c, .slice x.sell.A x.sell.l.length x.sell.c, .int .i64 x.fuse], .int .i64 k, .int .i64 (x.p.net y.x k)] W (fun e w' => e = .returned (.bool true) ∧ Below W.heap.size W w') := fun W hp => by
              have hf2 : 1 ≤ x.fuse ∧ x.fuse ≤ 1000 := hfb.out
              have h := fits_any x.t x.buy.A x.sell.A x.buy.c x.sell.c k (x.p.net y.x k) W hp.buy hp.sell (by show _ ≤ x.fuse; omega) (by show x.fuse ≤ _; omega)
              rw [show x.t.fits k (x.p.net y.x k) = true from g4] at h
              exact h
            have HO := Lib.hid ho1
            have HFI := Lib.hid hf1
            have g2 : x.p.lv y.x (k + 1) ≤ x.bat.cap := g2
            have HKL := Lib.hid hkl
            have i1 : (0 : Int) ≤ (k : Int) := by omega
            have i2 : (k : Int) < (tm.net.l.length : Int) := by omega
            have i3 : (k : Int) < (tm.level.l.length : Int) := by omega
            have i4 : (k : Int) < (tm.temp.l.length : Int) := by omega
            have i5 : (k : Int) < (x.buy.l.length : Int) := by omega
            clear ho1 hf1 g3 g4 hne hle hte hkn hkl hkt z3
            generalize x.p.lv y.x (k + 1) = lv at *
            generalize x.p.net y.x k = nz at *
            generalize x.p.tm y.x (k + 1) = tz at *
            have t1 : decide (lv < 0) = false := decide_eq_false (by omega)
            have t2 : decide (x.bat.cap < lv) = false := decide_eq_false (by omega)
            clear g1 g2
            obtain ⟨nn, hnn⟩ : ∃ nn, nn = tm.net.l.length := ⟨_, rfl⟩
            obtain ⟨nl, hnl⟩ : ∃ nl, nl = tm.level.l.length := ⟨_, rfl⟩
            obtain ⟨nt, hnt⟩ : ∃ nt, nt = tm.temp.l.length := ⟨_, rfl⟩
            obtain ⟨cn, hcn⟩ : ∃ cn, cn = tm.net.c := ⟨_, rfl⟩
            obtain ⟨cl, hcl⟩ : ∃ cl, cl = tm.level.c := ⟨_, rfl⟩
            obtain ⟨ct, hct⟩ : ∃ ct, ct = tm.temp.c := ⟨_, rfl⟩
            rw [← hnn] at i2
            rw [← hnl] at i3
            rw [← hnt] at i4
            rw [← hnn, ← hcn] at z0
            rw [← hnl, ← hcl] at z1
            rw [← hnt, ← hct] at z2
            clear hnn hnl hnt hcn hcl hct
            have HK : Hid (∀ w', Below wo.heap.size wo w' → Below wo.heap.size wo w' ∧ w'.cell? ⟨t5, 0, none⟩ = some (.slice (some ⟨bn, on, none⟩) nn cn) ∧ w'.cell? ⟨t5, 1, none⟩ = some (.slice (some ⟨bl, ol, none⟩) nl cl) ∧ w'.cell? ⟨t5, 2, none⟩ = some (.slice (some ⟨bt, ot, none⟩) nt ct) ∧ w'.cell? ⟨bl, ol + k, none⟩ = some (.int .i64 lv) ∧ w'.cell? ⟨bn, on + k, none⟩ = some (.int .i64 nz) ∧ w'.cell? ⟨bt, ot + k, none⟩ = some (.int .i64 tz) ∧ w'.cell? ⟨w.heap.size, 0, none⟩ = some (.slice x.buy.A x.buy.l.length x.buy.c) ∧ w'.cell? ⟨w.heap.size, 1, none⟩ = some (.slice x.sell.A x.sell.l.length x.sell.c) ∧ w'.cell? ⟨w.heap.size, 2, none⟩ = some (.int .i64 x.fuse) ∧ w'.cell? ⟨w.heap.size, 6, none⟩ = some (.int .i64 x.bat.cap) ∧ w'.cell? ⟨w.heap.size, 11, none⟩ = some (.int .i64 x.gain) ∧ w'.cell? ⟨w.heap.size, 12, none⟩ = some (.int .i64 x.loss) ∧ w'.cell? ⟨w.heap.size, 13, none⟩ = some (.int .i64 x.steps) ∧ w'.cell? ⟨w.heap.size, 14, none⟩ = some (.int .i64 x.power) ∧ w'.cell? ⟨w.heap.size, 15, none⟩ = some (.slice x.low.A x.low.l.length x.low.c) ∧ w'.cell? ⟨w.heap.size, 16, none⟩ = some (.slice x.high.A x.high.l.length x.high.c)) := fun w' hb => ⟨hb, cell_below z0 hb, cell_below z1 hb, cell_below z2 hb, cell_below n1 hb, cell_below n0 hb, cell_below n2 hb, cell_below c0 hb, cell_below c1 hb, cell_below c2 hb, cell_below c6 hb, cell_below c11 hb, cell_below c12 hb, cell_below c13 hb, cell_below c14 hb, cell_below c15 hb, cell_below c16 hb⟩
            clear z0 z1 z2 n0 n1 n2 c0 c1 c2 c6 c11 c12 c13 c14 c15 c16
            go_wp2_with fail
            go_region_held3 (fun w' => Below wo.heap.size wo w' ∧ w'.cell? ⟨t5, 0, none⟩ = some (.slice (some ⟨bn, on, none⟩) nn cn) ∧ w'.cell? ⟨t5, 1, none⟩ = some (.slice (some ⟨bl, ol, none⟩) nl cl) ∧ w'.cell? ⟨t5, 2, none⟩ = some (.slice (some ⟨bt, ot, none⟩) nt ct) ∧ w'.cell? ⟨bl, ol + k, none⟩ = some (.int .i64 lv) ∧ w'.cell? ⟨bn, on + k, none⟩ = some (.int .i64 nz) ∧ w'.cell? ⟨bt, ot + k, none⟩ = some (.int .i64 tz) ∧ w'.cell? ⟨w.heap.size, 0, none⟩ = some (.slice x.buy.A x.buy.l.length x.buy.c) ∧ w'.cell? ⟨w.heap.size, 1, none⟩ = some (.slice x.sell.A x.sell.l.length x.sell.c) ∧ w'.cell? ⟨w.heap.size, 2, none⟩ = some (.int .i64 x.fuse) ∧ w'.cell? ⟨w.heap.size, 6, none⟩ = some (.int .i64 x.bat.cap) ∧ w'.cell? ⟨w.heap.size, 11, none⟩ = some (.int .i64 x.gain) ∧ w'.cell? ⟨w.heap.size, 12, none⟩ = some (.int .i64 x.loss) ∧ w'.cell? ⟨w.heap.size, 13, none⟩ = some (.int .i64 x.steps) ∧ w'.cell? ⟨w.heap.size, 14, none⟩ = some (.int .i64 x.power) ∧ w'.cell? ⟨w.heap.size, 15, none⟩ = some (.slice x.low.A x.low.l.length x.low.c) ∧ w'.cell? ⟨w.heap.size, 16, none⟩ = some (.slice x.high.A x.high.l.length x.high.c))
              (first | exact HK.out _ (Below.refl _ _) | exact HK.out _ (Below.drew (Below.refl _ _)) | exact HK.out _ (Below.drew (by assumption)) | exact HK.out _ (Below.drew (And.left (by assumption))) | exact HK.out _ (Below.trans (by first | assumption | exact And.left (by assumption) | exact Below.refl _ _ | exact Below.drew (Below.refl _ _) | exact Below.drew (by assumption) | exact Below.drew (And.left (by assumption))) (Below.mono (by assumption) (Below.size (by first | assumption | exact And.left (by assumption) | exact Below.refl _ _ | exact Below.drew (Below.refl _ _) | exact Below.drew (by assumption) | exact Below.drew (And.left (by assumption)))))))
              (first | (go_at_call 24; refine (HO.out _ ((HXo.out.below (by first | assumption | exact And.left (by assumption) | exact Below.refl _ _ | exact Below.drew (Below.refl _ _) | exact Below.drew (by assumption) | exact Below.drew (And.left (by assumption)))).pr hP.out)).mono ?_; rintro e' w7 ⟨rfl, hb7⟩) | (go_at_call 25; refine (HFI.out _ ((HXo.out.below (by first | assumption | exact And.left (by assumption) | exact Below.refl _ _ | exact Below.drew (Below.refl _ _) | exact Below.drew (by assumption) | exact Below.drew (And.left (by assumption)))).pr hP.out)).mono ?_; rintro e' w8 ⟨rfl, hb8⟩))
            rename_i hHeld
            have HBn := Lib.hid (hB.out.trans (hHeld.1.mono hB.out.size))
            go_wp2_with fail
            go_roundw
            case rel => exact ⟨k + 1, by omega, by go_num, HBn.out⟩
            case measure => simp [intOf]; omega
          · have ht1 : ∀ W, RPb W x → RInts W tm.net.A tm.net.l → Calls Try.prog 26 #[.agg #[.slice x.buy.A x.buy.l.length x.buy.c, .slice x.sell.A x.sell.l.length x.sell.c, .int .i64 x.fuse], .slice tm.net.A tm.net.l.length tm.net.c] W (fun e w' => e = .returned (.int .i64 tm.cost) ∧ Below W.heap.size W w') := fun W hp h => by
              have h5 := total_any x.t x.buy.A x.sell.A tm.net.A x.buy.c x.sell.c tm.net.c tm.net.l W hp.buy hp.sell h HCAP.out
              rw [show x.t.total tm.net.l = tm.cost by rw [HN1.out, H4.out]; rfl] at h5
              exact h5
            have HT := Lib.hid ht1
            have ee : (tm.cost == tm.cost) = true := by simp
            have hnl : ¬ (k : Int) < (x.buy.l.length : Int) := by omega
            have HK : Hid (∀ w', Below wo.heap.size wo w' → Below wo.heap.size wo w' ∧ w'.cell? ⟨t5, 0, none⟩ = some (.slice tm.net.A tm.net.l.length tm.net.c) ∧ w'.cell? ⟨t5, 3, none⟩ = some (.int .i64 tm.cost) ∧ w'.cell? ⟨w.heap.size, 0, none⟩ = some (.slice x.buy.A x.buy.l.length x.buy.c) ∧ w'.cell? ⟨w.heap.size, 1, none⟩ = some (.slice x.sell.A x.sell.l.length x.sell.c) ∧ w'.cell? ⟨w.heap.size, 2, none⟩ = some (.int .i64 x.fuse)) := fun w' hb => ⟨hb, cell_below z0 hb, cell_below z3 hb, cell_below c0 hb, cell_below c1 hb, cell_below c2 hb⟩
            clear ht1 z0 z1 z2 z3 c0 c1 c2 c6 c11 c12 c13 c14 c15 c16 hlt
            go_wp2_with fail
            go_region_held3 (fun w' => Below wo.heap.size wo w' ∧ w'.cell? ⟨t5, 0, none⟩ = some (.slice tm.net.A tm.net.l.length tm.net.c) ∧ w'.cell? ⟨t5, 3, none⟩ = some (.int .i64 tm.cost) ∧ w'.cell? ⟨w.heap.size, 0, none⟩ = some (.slice x.buy.A x.buy.l.length x.buy.c) ∧ w'.cell? ⟨w.heap.size, 1, none⟩ = some (.slice x.sell.A x.sell.l.length x.sell.c) ∧ w'.cell? ⟨w.heap.size, 2, none⟩ = some (.int .i64 x.fuse))
              (first | exact HK.out _ (Below.refl _ _) | exact HK.out _ (Below.drew (Below.refl _ _)) | exact HK.out _ (Below.drew (by assumption)) | exact HK.out _ (Below.drew (And.left (by assumption))) | exact HK.out _ (Below.trans (by first | assumption | exact And.left (by assumption) | exact Below.refl _ _ | exact Below.drew (Below.refl _ _) | exact Below.drew (by assumption) | exact Below.drew (And.left (by assumption))) (Below.mono (by assumption) (Below.size (by first | assumption | exact And.left (by assumption) | exact Below.refl _ _ | exact Below.drew (Below.refl _ _) | exact Below.drew (by assumption) | exact Below.drew (And.left (by assumption)))))))
              (first | (go_at_call 26; refine (HT.out _ ((HXo.out.below (by first | assumption | exact And.left (by assumption) | exact Below.refl _ _ | exact Below.drew (Below.refl _ _) | exact Below.drew (by assumption) | exact Below.drew (And.left (by assumption)))).pr hP.out) (HRo.out.below (by first | assumption | exact And.left (by assumption) | exact Below.refl _ _ | exact Below.drew (Below.refl _ _) | exact Below.drew (by assumption) | exact Below.drew (And.left (by assumption)))).net).mono ?_; rintro e' w7 ⟨rfl, hb7⟩) | (go_at_call 11; refine (haw.out _).mono ?_; rintro e' w8 ⟨rfl, hb8⟩))
            rename_i hHeld
            have HBn := Lib.hid (HXo.out.below hHeld.1)
            go_wp2_with fail
            go_ret
            exact ⟨by simp, HBn.out.bel⟩
      · have htz : x.p.trace y.x = Tr.zero := by unfold Pb.trace; rw [if_pos he]
        rw [htz] at hr0
        have HRUN := Lib.hid hr0
        have hen : (x.p.err y.x != 0) = true := by simpa using he
        generalize x.p.err y.x = er at *
        clear hr0 he htz
        go_wp2_with (first | refine wpList_load_problem rfl _ rfl w.heap.size rfl x (HX2.out).p ?_ | refine wpList_load_plan rfl _ rfl (w.heap.size + 1) rfl y (HX2.out).q ?_)
        refine (HRUN.out _ (HX2.out.pr hP.out) (HX2.out.qr hQ.out)).mono ?_
        rintro e w3 ⟨tm, htx, rfl, hrt, hb3⟩
        have HTX := Lib.hid htx
        simp only [TrM.v]
        clear htx
        go_upto_region 4 with fail
        obtain ⟨t5, ht5⟩ : ∃ t5, t5 = w3.heap.size := ⟨_, rfl⟩
        obtain ⟨v3, hv3⟩ : ∃ v3, v3 = w3.alloc (.cells #[.slice tm.net.A tm.net.l.length tm.net.c, .slice tm.level.A tm.level.l.length tm.level.c, .slice tm.temp.A tm.temp.l.length tm.temp.c, .int .i64 tm.cost] 40) := ⟨_, rfl⟩
        have HX3 : Hid (PX x y w v3) := by show PX _ _ _ _; rw [hv3]; exact (HX2.out.below hb3).alloc _
        have hT5 : Blk v3 t5 40 #[.slice tm.net.A tm.net.l.length tm.net.c, .slice tm.level.A tm.level.l.length tm.level.c, .slice tm.temp.A tm.temp.l.length tm.temp.c, .int .i64 tm.cost] := by rw [hv3, ht5]; exact Blk.new _ _ _
        have HRT : Hid (RTr v3 tm) := by show RTr _ _; rw [hv3]; exact hrt.below (below_al (Below.refl _ _))
        rw [← hv3, ← ht5]
        clear hv3 ht5 hb3 hrt HX2
        have h1 : tm.net.l = [] := congrArg Tr.net HTX.out
        have h2 : tm.level.l = [] := congrArg Tr.level HTX.out
        have h3 : tm.temp.l = [] := congrArg Tr.temp HTX.out
        have h4 : tm.cost = 0 := congrArg Tr.cost HTX.out
        have z0 := hT5.cell 0
        have z1 := hT5.cell 1
        have z2 := hT5.cell 2
        have z3 := hT5.cell 3
        simp at z0 z1 z2 z3
        have e1 : ((tm.net.l.length : Int) == 0) = true := by rw [h1]; rfl
        have e2 : ((tm.level.l.length : Int) == 0) = true := by rw [h2]; rfl
        have e3 : ((tm.temp.l.length : Int) == 0) = true := by rw [h3]; rfl
        have e4 : (tm.cost == 0) = true := by rw [h4]; rfl
        clear h1 h2 h3 h4 hT5
        go_wp2_with fail
        refine (haw.out _).mono ?_
        rintro e w9 ⟨rfl, hb9⟩
        have HX9 := Lib.hid (HX3.out.below hb9)
        clear hb9
        go_wp2_with fail
        go_ret
        exact ⟨rfl, HX9.out.bel⟩
end Go.Proofs.Ytdheockmphdakaa
