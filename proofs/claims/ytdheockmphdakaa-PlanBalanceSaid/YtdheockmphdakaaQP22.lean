/-
  The law PlanBalance, walked.
-/
import Derived.Test.YtdheockmphdakaaQP18
import Derived.Test.YtdheockmphdakaaQPP4
namespace Go.Proofs.Ytdheockmphdakaa
open Go.RowKit
attribute [local go_sem ↓] Go.wp_at_zero Go.wp_at_succ

set_option maxRecDepth 100000 in
set_option maxHeartbeats 64000000 in
theorem pbalance_law (x : PbM) (y : PnM) (w : World) (hP0 : RPb w x) (hL0 : ∀ z ∈ x.loads, z.r.prof.length ≤ maxLen ∧ z.r.name.size ≤ maxLen ∧ -9223372036854775808 ≤ z.r.late ∧ z.r.late ≤ 9223372036854775807) (hc0 : x.loads.length ≤ x.lc) (hm0 : x.buy.l.length ≤ maxLen) (hQ0 : RPn w y) (hG0 : y.Fit) :
    Calls Try.prog 6 #[x.v, y.v] w fun e w' => e = .returned (.bool true) ∧ Below w.heap.size w w' := by
  have hP := Lib.hid hP0
  have hQ := Lib.hid hQ0
  have hst0 := PX.start x y w
  have hsm := Lib.hid (fun W (h : RPb W x) => small_any x W h)
  have hbr := Lib.hid (fun W (h : RPn W y) => brief_any y W h)
  have haw := Lib.hid awake_any
  simp only [PbM.v, PnM.v]
  obtain ⟨W, hW⟩ : ∃ W, W = (w.alloc (.cells #[.slice x.buy.A x.buy.l.length x.buy.c, .slice x.sell.A x.sell.l.length x.sell.c, .int .i64 x.fuse, .slice x.solar.A x.solar.l.length x.solar.c, .slice x.demand.A x.demand.l.length x.demand.c, .slice x.outside.A x.outside.l.length x.outside.c, .int .i64 x.bat.cap, .int .i64 x.bat.reserve, .int .i64 x.bat.charge, .int .i64 x.bat.discharge, .int .i64 x.bat.eff, .int .i64 x.gain, .int .i64 x.loss, .int .i64 x.steps, .int .i64 x.power, .slice x.low.A x.low.l.length x.low.c, .slice x.high.A x.high.l.length x.high.c, .slice x.LA x.loads.length x.lc, .int .i64 x.level, .int .i64 x.temp] 31)).alloc (.cells #[.slice y.charge.A y.charge.l.length y.charge.c, .slice y.heat.A y.heat.l.length y.heat.c, .slice y.start.A y.start.l.length y.start.c] 37) := ⟨_, rfl⟩
  rw [show (w.alloc (.cells x.cs 31)).alloc (.cells y.cs 37) = W from hW.symm] at hst0
  have hst := Lib.hid hst0
  have hWH := Lib.hid hW
  clear hst0 hW hP0 hQ0
  cases qs : smallM x
  · rw [qs] at hsm
    go_enter Try.func6, Try.ntmps6
    go_upto_region 1 with fail
    rw [← hWH.out]
    clear hWH
    go_wp2_with (first | refine wpList_load_problem rfl _ rfl w.heap.size rfl x (hst.out).p ?_ | refine wpList_load_plan rfl _ rfl (w.heap.size + 1) rfl y (hst.out).q ?_)
    refine (hsm.out _ (hst.out.pr hP.out)).mono ?_
    rintro e w1 ⟨rfl, hb1⟩
    have HX1 := Lib.hid (hst.out.below hb1)
    clear hb1
    go_wp2_with fail
    refine (haw.out _).mono ?_
    rintro e w2 ⟨rfl, hb2⟩
    have HX2 := Lib.hid (HX1.out.below hb2)
    clear hb2
    go_wp2_with fail
    go_ret
    exact ⟨rfl, HX2.out.bel⟩
  · cases qb : briefM y
    · rw [qs] at hsm
      rw [qb] at hbr
      go_enter Try.func6, Try.ntmps6
      go_upto_region 1 with fail
      rw [← hWH.out]
      clear hWH
      go_wp2_with (first | refine wpList_load_problem rfl _ rfl w.heap.size rfl x (hst.out).p ?_ | refine wpList_load_plan rfl _ rfl (w.heap.size + 1) rfl y (hst.out).q ?_)
      refine (hsm.out _ (hst.out.pr hP.out)).mono ?_
      rintro e w1 ⟨rfl, hb1⟩
      have HX1 := Lib.hid (hst.out.below hb1)
      clear hb1 hst
      obtain ⟨q0, q1, q2⟩ := HX1.out.qc
      go_wp2_with fail
      refine (hbr.out _ (HX1.out.qr hQ.out)).mono ?_
      rintro e w2 ⟨rfl, hb2⟩
      have HX2 := Lib.hid (HX1.out.below hb2)
      clear q0 q1 q2
      clear hb2
      go_wp2_with fail
      refine (haw.out _).mono ?_
      rintro e w3 ⟨rfl, hb3⟩
      have HX3 := Lib.hid (HX2.out.below hb3)
      clear hb3
      go_wp2_with fail
      go_ret
      exact ⟨rfl, HX3.out.bel⟩
    · have HSM := Lib.hid qs
      have HBR := Lib.hid qb
      rw [qs] at hsm
      rw [qb] at hbr
      have hF := Lib.hid (fit_of qs hL0 hc0 hm0)
      have hG := Lib.hid hG0
      clear qs qb hL0 hc0 hm0 hG0
      go_enter Try.func6, Try.ntmps6
      go_upto_region 1 with fail
      rw [← hWH.out]
      clear hWH
      go_wp2_with (first | refine wpList_load_problem rfl _ rfl w.heap.size rfl x (hst.out).p ?_ | refine wpList_load_plan rfl _ rfl (w.heap.size + 1) rfl y (hst.out).q ?_)
      refine (hsm.out _ (hst.out.pr hP.out)).mono ?_
      rintro e w1 ⟨rfl, hb1⟩
      have HX1 := Lib.hid (hst.out.below hb1)
      clear hb1 hst
      obtain ⟨q0, q1, q2⟩ := HX1.out.qc
      go_wp2_with fail
      refine (hbr.out _ (HX1.out.qr hQ.out)).mono ?_
      rintro e w2 ⟨rfl, hb2⟩
      have HX2 := Lib.hid (HX1.out.below hb2)
      clear q0 q1 q2
      clear hb2 HX1 hsm hbr
      have hr0 := fun W (h : RPb W x) (h2 : RPn W y) => prun_any x y W h h2 hF.out hG.out
      by_cases he : x.p.err y.x = 0
      · rw [he] at hr0
        have HRUN := Lib.hid hr0
        have HERR := Lib.hid he
        obtain ⟨hck, hfo, heT⟩ := Pb.err_zero he
        have hgood := Pb.good hck
        have htr := Lib.hid (Pb.trace_ok he)
        have hnb := Lib.hid (Pb.nbd hgood)
        have hEA := Lib.hid (Pb.energy_all he)
        have hEB := Lib.hid (fun k (hk : k ≤ x.p.loads.length) => Pb.enSum_bd he k hk)
        have hEN := Lib.hid (fun j (hj : j < x.p.loads.length) => Pb.energy_bd he hj)
        have hUB := Lib.hid (Pb.useSum_bd hgood y.x)
        have hSL := Lib.hid (fun k => Pb.slot hgood hfo k)
        have hS0 := Lib.hid (fun k (hk : k < x.p.n) => (Pb.slot_zero (Pb.errTo_each heT hk).2).1)
        obtain ⟨hsz0, -, -⟩ := Pb.form_good hfo
        obtain ⟨e1, e2, e3⟩ := Pb.sized_yes hsz0
        obtain ⟨e4, e5, e6⟩ := hgood.lens
        have e1 : y.charge.l.length = x.buy.l.length := e1
        have e2 : y.heat.l.length = x.buy.l.length := e2
        have e4 : x.solar.l.length = x.buy.l.length := e4
        have e5 : x.demand.l.length = x.buy.l.length := e5
        have hel : x.p.loads.length = x.loads.length := by simp [PbM.p]
        have hld4 : x.loads.length ≤ 4 := by have := Pb.loads4 hgood; omega
        have E1 := Lib.hid e1
        have E2 := Lib.hid e2
        have E4 := Lib.hid e4
        have E5 := Lib.hid e5
        have HEL := Lib.hid hel
        clear hr0 he hck hfo heT hgood hsz0 e1 e2 e3 e4 e5 e6 hel
        go_wp2_with (first | refine wpList_load_problem rfl _ rfl w.heap.size rfl x (HX2.out).p ?_ | refine wpList_load_plan rfl _ rfl (w.heap.size + 1) rfl y (HX2.out).q ?_)
        refine (HRUN.out _ (HX2.out.pr hP.out) (HX2.out.qr hQ.out)).mono ?_
        rintro e w3 ⟨tm, htx, rfl, hrt, hb3⟩
        have HTX := Lib.hid htx
        simp only [TrM.v]
        clear htx
        go_upto_region 4 with fail
        obtain ⟨t5, ht5⟩ : ∃ t5, t5 = w3.heap.size := ⟨_, rfl⟩
        obtain ⟨v3, hv3⟩ : ∃ v3, v3 = w3.alloc (.cells #[.slice tm.net.A tm.net.l.length tm.net.c, .slice tm.level.A tm.level.l.length tm.level.c, .slice tm.temp.A tm.temp.l.length tm.temp.c, .int .i64 tm.cost] 40) := ⟨_, rfl⟩
        have HX3 : Hid (PX x y w v3) := by show PX _ _ _ _; rw [hv3]; exact (HX2.out.below hb3).alloc _
        have hT5 : Blk v3 t5 40 #[.slice tm.net.A tm.net.l.length tm.net.c, .slice tm.level.A tm.level.l.length tm.level.c, .slice tm.temp.A tm.temp.l.length tm.temp.c, .int .i64 tm.cost] := by rw [hv3, ht5]; exact Blk.new _ _ _
        have HRT : Hid (RTr v3 tm) := by show RTr _ _; rw [hv3]; exact hrt.below (below_al (Below.refl _ _))
        rw [← hv3, ← ht5]
        clear hv3 ht5 hb3 hrt HX2
        have h1 : tm.net.l = x.p.nets y.x x.p.n := congrArg Tr.net (HTX.out.trans htr.out)
        have l1 : tm.net.l.length = x.buy.l.length := by rw [h1, Pb.nets_len]; rfl
        have hng : ∀ k (hk : k < tm.net.l.length), tm.net.l[k] = x.p.net y.x k := fun k hk => by simp only [h1, Pb.nets, List.getElem_map, List.getElem_range]
        have HNG := Lib.hid hng
        have HL1 := Lib.hid l1
        have HT5 := Lib.hid hT5
        have z0 := hT5.cell 0
        simp at z0
        obtain ⟨c0, -, -, c3, c4, -, -, -, -, -, -, -, -, -, -, -, -, -, c18, -⟩ := HX3.out.pc
        obtain ⟨q0, q1, -⟩ := HX3.out.qc
        have d1 : ((tm.net.l.length : Int) != (x.buy.l.length : Int)) = false := by rw [bne_eq_false_iff_eq]; have := HL1.out; omega
        have d2 : ((y.charge.l.length : Int) != (x.buy.l.length : Int)) = false := by rw [bne_eq_false_iff_eq]; have := E1.out; omega
        have d3 : ((y.heat.l.length : Int) != (x.buy.l.length : Int)) = false := by rw [bne_eq_false_iff_eq]; have := E2.out; omega
        have d4 : ((x.demand.l.length : Int) != (x.buy.l.length : Int)) = false := by rw [bne_eq_false_iff_eq]; have := E5.out; omega
        have d5 : ((x.solar.l.length : Int) != (x.buy.l.length : Int)) = false := by rw [bne_eq_false_iff_eq]; have := E4.out; omega
        have hn96 : x.buy.l.length ≤ 96 := hnb.out.2
        clear h1 l1 hng hT5
        go_wp2_with fail
        go_quiet (fail)
        clear d1 d2 d3 d4 d5 z0 c0 c3 c4 c18 q0 q1
        go_upto_region 11 with fail
        go_loopw [8, 9, 10] (fun s8 s9 s10 wr => ∃ k : Nat, k ≤ x.buy.l.length ∧ s8 = .int .i64 (-(x.p.useSum y.x k)) ∧ s9 = .int .i64 (x.p.lv y.x k) ∧ s10 = .int .i64 k ∧ Hid (Below v3.heap.size v3 wr))
          (fun _ _ s10 _ => x.buy.l.length - (intOf s10).toNat)
        case atStart => exact ⟨0, by omega, by simp [Pb.useSum, sumZ], rfl, rfl, below_drewN (Below.refl _ _) _⟩
        case round =>
          obtain ⟨k, hk, rfl, rfl, rfl, hB⟩ := hrel
          obtain ⟨wo, hwo⟩ : ∃ wo : World, wo = wr := ⟨_, rfl⟩
          subst hwo
          have HXo := Lib.hid (HX3.out.below hB.out)
          have HRo := Lib.hid (HRT.out.below hB.out)
          have HTo := Lib.hid (HT5.out.below hB.out HT5.out.lt)
          by_cases hlt : k < x.buy.l.length
          · have hkc : k < y.charge.l.length := by have := E1.out; omega
            have hkh : k < y.heat.l.length := by have := E2.out; omega
            have hks : k < x.solar.l.length := by have := E4.out; omega
            have hkd : k < x.demand.l.length := by have := E5.out; omega
            have hkn : k < tm.net.l.length := by have := HL1.out; omega
            have hsl := hSL.out k
            have hs0 := hS0.out k hlt
            have hub := hUB.out k
            have hus := Pb.useSum_succ x.p y.x k
            obtain ⟨bc, oc, hCe, _, x0⟩ := (HXo.out.qr hQ.out).charge.at' hkc
            rw [show y.x.charge.getD k 0 = y.charge.l[k] from (getD_eq hkc).symm] at hsl hs0
            rw [show y.x.heat.getD k 0 = y.heat.l[k] from (getD_eq hkh).symm, show x.p.solar.getD k 0 = x.solar.l[k] from (getD_eq hks).symm, show x.p.demand.getD k 0 = x.demand.l[k] from (getD_eq hkd).symm] at hsl
            have hst0 := fun W => step_any x.bat (x.p.lv y.x k) y.charge.l[k] W
            obtain ⟨-, -, -, -, -, -, c6, c7, c8, c9, c10, -, -, -, -, -, -, -, -, -⟩ := HXo.out.pc
            obtain ⟨d0, -, -⟩ := HXo.out.qc
            rw [hCe] at d0
            clear hCe
            have hlv' := hsl.lv'
            have hnet := hsl.net
            have hr0 := hsl.r0; have hr1 := hsl.r1; have hd0 := hsl.d0; have hd1 := hsl.d1; have hs0' := hsl.s0; have hs1 := hsl.s1; have hm0 := hsl.m0; have hm1 := hsl.m1; have hu0 := hsl.u0; have hu1 := hsl.u1
            generalize (x.p.uses y.x).getD k 0 = uu at *
            generalize y.charge.l[k] = c at *
            generalize x.p.lv y.x k = lv at *
            obtain ⟨st, hst⟩ : ∃ st, st = stepZ x.bat lv c := ⟨_, rfl⟩
            rw [show x.p.bat = x.bat from rfl] at hs0 hlv' hnet hr0 hr1
            rw [← hst] at hst0 hs0 hlv' hnet hr0 hr1
            obtain ⟨l1, dr, er⟩ := st
            simp only [] at hs0 hlv' hnet hr0 hr1
            subst hs0
            have hst1 : ∀ W, Calls Try.prog 22 #[.agg #[.int .i64 x.bat.cap, .int .i64 x.bat.reserve, .int .i64 x.bat.charge, .int .i64 x.bat.discharge, .int .i64 x.bat.eff], .int .i64 lv, .int .i64 c] W (fun e w' => e = .returned (.tuple #[.int .i64 l1, .int .i64 dr, .int .i64 0]) ∧ Below W.heap.size W w') := fun W => hst0 W
            have hstep := Lib.hid hst1
            have HLV := Lib.hid hlv'
            have HNET := Lib.hid hnet
            have HUS := Lib.hid hus
            have HB1 := Lib.hid (And.intro hr0 (And.intro hr1 (And.intro hd0 (And.intro hd1 (And.intro hs0' (And.intro hs1 (And.intro hm0 (And.intro hm1 (And.intro hu0 (And.intro hu1 hub))))))))))
            have i1 : (0 : Int) ≤ (k : Int) := by omega
            have i2 : (k : Int) < (y.charge.l.length : Int) := by omega
            have HK : Hid (∀ W, Below wo.heap.size wo W → Below wo.heap.size wo W ∧ W.cell? ⟨w.heap.size, 6, none⟩ = some (.int .i64 x.bat.cap) ∧ W.cell? ⟨w.heap.size, 7, none⟩ = some (.int .i64 x.bat.reserve) ∧ W.cell? ⟨w.heap.size, 8, none⟩ = some (.int .i64 x.bat.charge) ∧ W.cell? ⟨w.heap.size, 9, none⟩ = some (.int .i64 x.bat.discharge) ∧ W.cell? ⟨w.heap.size, 10, none⟩ = some (.int .i64 x.bat.eff) ∧ W.cell? ⟨w.heap.size + 1, 0, none⟩ = some (.slice (some ⟨bc, oc, none⟩) y.charge.l.length y.charge.c) ∧ W.cell? ⟨bc, oc + k, none⟩ = some (.int .i64 c)) := fun W hb => ⟨hb, cell_below c6 hb, cell_below c7 hb, cell_below c8 hb, cell_below c9 hb, cell_below c10 hb, cell_below d0 hb, cell_below x0 hb⟩
            clear hst hst0 hst1 c6 c7 c8 c9 c10 d0 x0 hsl hlv' hnet hus hr0 hr1 hd0 hd1 hs0' hs1 hm0 hm1 hu0 hu1 hub
            go_wp2_with fail
            go_region_held3 (fun w' => Below wo.heap.size wo w' ∧ w'.cell? ⟨w.heap.size, 6, none⟩ = some (.int .i64 x.bat.cap) ∧ w'.cell? ⟨w.heap.size, 7, none⟩ = some (.int .i64 x.bat.reserve) ∧ w'.cell? ⟨w.heap.size, 8, none⟩ = some (.int .i64 x.bat.charge) ∧ w'.cell? ⟨w.heap.size, 9, none⟩ = some (.int .i64 x.bat.discharge) ∧ w'.cell? ⟨w.heap.size, 10, none⟩ = some (.int .i64 x.bat.eff) ∧ w'.cell? ⟨w.heap.size + 1, 0, none⟩ = some (.slice (some ⟨bc, oc, none⟩) y.charge.l.length y.charge.c) ∧ w'.cell? ⟨bc, oc + k, none⟩ = some (.int .i64 c))
              (first | exact HK.out _ (Below.refl _ _) | exact HK.out _ (Below.drew (Below.refl _ _)) | exact HK.out _ (Below.drew (by assumption)) | exact HK.out _ (Below.drew (And.left (by assumption))) | exact HK.out _ (Below.trans (by first | assumption | exact And.left (by assumption) | exact Below.refl _ _ | exact Below.drew (Below.refl _ _) | exact Below.drew (by assumption) | exact Below.drew (And.left (by assumption))) (Below.mono (by assumption) (Below.size (by first | assumption | exact And.left (by assumption) | exact Below.refl _ _ | exact Below.drew (Below.refl _ _) | exact Below.drew (by assumption) | exact Below.drew (And.left (by assumption)))))))
              (first | (go_at_call 22; refine (hstep.out _).mono ?_; rintro e' w7 ⟨rfl, hb7⟩))
            rename_i hHeld
            have HX7 := Lib.hid (HXo.out.below hHeld.1)
            have HR7 := Lib.hid (HRo.out.below hHeld.1)
            have HT7 := Lib.hid (HTo.out.below hHeld.1 HTo.out.lt)
            have HB7 := Lib.hid (hB.out.trans (hHeld.1.mono hB.out.size))
            clear hb7 hHeld hstep i2 HK
            obtain ⟨bh, oh, hHe, _, h0⟩ := (HX7.out.qr hQ.out).heat.at' hkh
            obtain ⟨bd, od, hDe, _, e0⟩ := (HX7.out.pr hP.out).demand.at' hkd
            obtain ⟨bs, os, hSe, _, s0⟩ := (HX7.out.pr hP.out).solar.at' hks
            obtain ⟨bn, on, hNe, _, n0⟩ := HR7.out.net.at' hkn
            rw [HNG.out] at n0
            obtain ⟨-, -, -, s3, c4, -, -, -, -, -, -, -, -, -, c14, -, -, -, -, -⟩ := HX7.out.pc
            obtain ⟨-, d1, -⟩ := HX7.out.qc
            have z0 := HT7.out.cell 0
            simp at z0
            rw [hDe] at c4
            rw [hSe] at s3
            rw [hHe] at d1
            rw [hNe] at z0
            obtain ⟨hr0, hr1, hd0, hd1, hs0', hs1, hm0, hm1, hu0, hu1, hub1, hub2⟩ := HB1.out
            have hnet := HNET.out
            have hus := HUS.out
            have i3 : (k : Int) < (x.demand.l.length : Int) := by omega
            have i4 : (k : Int) < (y.heat.l.length : Int) := by omega
            have i5 : (k : Int) < (x.solar.l.length : Int) := by omega
            have i6 : (k : Int) < (tm.net.l.length : Int) := by omega
            clear hDe hSe hHe hNe
            generalize x.demand.l[k] = dd at *
            generalize x.solar.l[k] = so at *
            generalize y.heat.l[k] = h at *
            generalize x.p.net y.x k = nz at *
            have hm0 : 0 ≤ h * x.power := hm0
            have hm1 : h * x.power ≤ 40000 := hm1
            have hnet2 : nz = dd + dr + h * x.power + uu - so := hnet
            clear hnet
            obtain ⟨S', hS'⟩ : ∃ S', S' = x.p.useSum y.x (k + 1) := ⟨_, rfl⟩
            rw [← hS'] at hus
            generalize x.p.useSum y.x k = S at *
            have a1 : IntKind.i64.wrap (dd + dr) = dd + dr := IntWalk.i64_in _ (by omega)
            have a2 : IntKind.i64.wrap (h * x.power) = h * x.power := IntWalk.i64_in _ (by omega)
            have a3 : IntKind.i64.wrap (dd + dr + h * x.power) = dd + dr + h * x.power := IntWalk.i64_in _ (by omega)
            have a4 : IntKind.i64.wrap (dd + dr + h * x.power - so) = dd + dr + h * x.power - so := IntWalk.i64_in _ (by omega)
            have a5 : IntKind.i64.wrap (dd + dr + h * x.power - so - nz) = dd + dr + h * x.power - so - nz := IntWalk.i64_in _ (by omega)
            have a6 : IntKind.i64.wrap (-S + (dd + dr + h * x.power - so - nz)) = -S' := by
              rw [show -S + (dd + dr + h * x.power - so - nz) = -S' by omega]
              exact IntWalk.i64_in _ (by omega)
            have HS' := Lib.hid hS'
            clear hS' hnet2 hus hr0 hr1 hd0 hd1 hs0' hs1 hm0 hm1 hu0 hu1 hub1 hub2 HNET HUS HB1
            go_wp2_with fail
            go_quiet (fail)
            clear a1 a2 a3 a4 a5 a6 s3 c4 d1 h0 e0 s0 n0 z0 c14
            go_wp2_with fail
            go_roundw
            case rel => exact ⟨k + 1, by omega, by rw [← HS'.out], by rw [HLV.out], by go_num, below_drewN HB7.out _⟩
            case measure => simp [intOf]; omega
          · have hkn : k = x.buy.l.length := by omega
            have hU : x.p.useSum y.x k = x.p.enSum x.loads.length := by rw [← HEL.out, ← hEA.out, hkn]; rfl
            have hUb := hUB.out k
            rw [hU] at hUb
            rw [hU]
            obtain ⟨T, hT⟩ : ∃ T, T = x.p.enSum x.loads.length := ⟨_, rfl⟩
            rw [← hT] at hUb ⊢
            have HTT := Lib.hid hT
            obtain ⟨-, -, -, -, -, -, -, -, -, -, -, -, -, -, -, -, -, c17, -, -⟩ := HXo.out.pc
            have hnl : ¬ (k : Int) < (x.buy.l.length : Int) := by omega
            clear hkn hU hT hlt
            go_wp2_with fail
            clear c17
            go_loopw [8, 128] (fun s8 sj wr => ∃ j : Nat, j ≤ x.loads.length ∧ s8 = .int .i64 (-T + x.p.enSum j) ∧ sj = .int .i64 j ∧ Hid (Below wo.heap.size wo wr))
              (fun _ sj _ => x.loads.length - (intOf sj).toNat)
            case atStart => exact ⟨0, by omega, by simp [Pb.enSum, sumZ], rfl, Below.refl _ _⟩
            case round =>
              obtain ⟨j, hj, rfl, rfl, hBj⟩ := hrel
              obtain ⟨wp, hwp⟩ : ∃ wp : World, wp = wr := ⟨_, rfl⟩
              subst hwp
              have HXj := Lib.hid (HXo.out.below hBj.out)
              by_cases hjl : j < x.loads.length
              · have hjp : j < x.p.loads.length := by rw [HEL.out]; exact hjl
                have heb := hEN.out j hjp
                have hsb := hEB.out j (by omega)
                have hes := Pb.enSum_succ hjp
                rw [show x.p.loads[j] = x.loads[j].r by simp [PbM.p]] at heb hes
                obtain ⟨b, of, hAe, hb, y0, y1, y2, y3⟩ := (HXj.out.pr hP.out).loads.at' hjl
                have hpr := Lib.hid (((HXj.out.pr hP.out).loads.prof hjl).alloc (.cells #[.string x.loads[j].r.name, .slice x.loads[j].A x.loads[j].r.prof.length x.loads[j].c, .int .i64 x.loads[j].r.early, .int .i64 x.loads[j].r.late] 52))
                have hk3 := Lib.hid (fun W (h : RInts W x.loads[j].A x.loads[j].r.prof) => lenergy_any x.loads[j].r x.loads[j].A x.loads[j].c W h (hF.out.profs _ (List.getElem_mem hjl)))
                rw [hAe]
                obtain ⟨E', hE'⟩ : ∃ E', E' = x.p.enSum (j + 1) := ⟨_, rfl⟩
                rw [← hE'] at hes
                simp only [Ld.v] at hk3
                generalize x.loads[j] = X at *
                generalize X.r.energy = en at *
                generalize x.p.enSum j = Ej at *
                have a1 : IntKind.i64.wrap (-T + Ej + en) = -T + E' := by
                  rw [show -T + Ej + en = -T + E' by omega]
                  exact IntWalk.i64_in _ (by omega)
                have HE' := Lib.hid hE'
                have i1 : (0 : Int) ≤ (j : Int) := by omega
                have i2 : (j : Int) < (x.loads.length : Int) := by omega
                clear hE' hes heb hsb hAe
                go_wp2_with fail
                refine (hk3.out _ hpr.out).mono ?_
                rintro e w9 ⟨rfl, hb9⟩
                have HB9 := Lib.hid (hBj.out.trans ((below_tr (below_al (Below.refl _ _)) hb9).mono hBj.out.size))
                clear hb9 y0 y1 y2 y3
                go_wp2_with fail
                go_roundw
                case rel => exact ⟨j + 1, by omega, by rw [← HE'.out], by go_num, HB9.out⟩
                case measure => simp [intOf]; omega
              · have hjn : j = x.loads.length := by omega
                have hz : -T + x.p.enSum j = 0 := by rw [hjn, ← HTT.out]; omega
                rw [hz]
                have hnl2 : ¬ (j : Int) < (x.loads.length : Int) := by omega
                clear hjn hz hjl
                go_wp2_with fail
                refine (haw.out _).mono ?_
                rintro e w9 ⟨rfl, hb9⟩
                have HX9 := Lib.hid (HXj.out.below hb9)
                clear hb9
                go_wp2_with fail
                go_ret
                exact ⟨rfl, HX9.out.bel⟩
      · have HRUN := Lib.hid hr0
        have hen : (x.p.err y.x != 0) = true := by simpa using he
        generalize x.p.err y.x = er at *
        clear hr0 he
        go_wp2_with (first | refine wpList_load_problem rfl _ rfl w.heap.size rfl x (HX2.out).p ?_ | refine wpList_load_plan rfl _ rfl (w.heap.size + 1) rfl y (HX2.out).q ?_)
        refine (HRUN.out _ (HX2.out.pr hP.out) (HX2.out.qr hQ.out)).mono ?_
        rintro e w3 ⟨tm, htx, rfl, hrt, hb3⟩
        have HTX := Lib.hid htx
        simp only [TrM.v]
        clear htx
        go_upto_region 4 with fail
        obtain ⟨t5, ht5⟩ : ∃ t5, t5 = w3.heap.size := ⟨_, rfl⟩
        obtain ⟨v3, hv3⟩ : ∃ v3, v3 = w3.alloc (.cells #[.slice tm.net.A tm.net.l.length tm.net.c, .slice tm.level.A tm.level.l.length tm.level.c, .slice tm.temp.A tm.temp.l.length tm.temp.c, .int .i64 tm.cost] 40) := ⟨_, rfl⟩
        have HX3 : Hid (PX x y w v3) := by show PX _ _ _ _; rw [hv3]; exact (HX2.out.below hb3).alloc _
        have hT5 : Blk v3 t5 40 #[.slice tm.net.A tm.net.l.length tm.net.c, .slice tm.level.A tm.level.l.length tm.level.c, .slice tm.temp.A tm.temp.l.length tm.temp.c, .int .i64 tm.cost] := by rw [hv3, ht5]; exact Blk.new _ _ _
        have HRT : Hid (RTr v3 tm) := by show RTr _ _; rw [hv3]; exact hrt.below (below_al (Below.refl _ _))
        rw [← hv3, ← ht5]
        clear hv3 ht5 hb3 hrt HX2
        clear hT5
        go_wp2_with fail
        refine (haw.out _).mono ?_
        rintro e w9 ⟨rfl, hb9⟩
        have HX9 := Lib.hid (HX3.out.below hb9)
        clear hb9
        go_wp2_with fail
        go_ret
        exact ⟨rfl, HX9.out.bel⟩
end Go.Proofs.Ytdheockmphdakaa
