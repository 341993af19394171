/-
  The law PlanIdle, walked.
-/
import Derived.Test.YtdheockmphdakaaQP18
import Derived.Test.YtdheockmphdakaaQPP4
namespace Go.Proofs.Ytdheockmphdakaa
open Go.RowKit
attribute [local go_sem ↓] Go.wp_at_zero Go.wp_at_succ

set_option maxRecDepth 100000 in
set_option maxHeartbeats 64000000 in
theorem pidle_law (x : PbM) (w : World) (hP0 : RPb w x) (hL0 : ∀ z ∈ x.loads, z.r.prof.length ≤ maxLen ∧ z.r.name.size ≤ maxLen ∧ -9223372036854775808 ≤ z.r.late ∧ z.r.late ≤ 9223372036854775807) (hc0 : x.loads.length ≤ x.lc) (hm0 : x.buy.l.length ≤ maxLen) :
    Calls Try.prog 5 #[x.v] w fun e w' => e = .returned (.bool true) ∧ Below w.heap.size w w' := by
  have hP := Lib.hid hP0
  have hsm := Lib.hid (fun W (h : RPb W x) => small_any x W h)
  have haw := Lib.hid awake_any
  simp only [PbM.v]
  obtain ⟨W, hW⟩ : ∃ W, W = w.alloc (.cells #[.slice x.buy.A x.buy.l.length x.buy.c, .slice x.sell.A x.sell.l.length x.sell.c, .int .i64 x.fuse, .slice x.solar.A x.solar.l.length x.solar.c, .slice x.demand.A x.demand.l.length x.demand.c, .slice x.outside.A x.outside.l.length x.outside.c, .int .i64 x.bat.cap, .int .i64 x.bat.reserve, .int .i64 x.bat.charge, .int .i64 x.bat.discharge, .int .i64 x.bat.eff, .int .i64 x.gain, .int .i64 x.loss, .int .i64 x.steps, .int .i64 x.power, .slice x.low.A x.low.l.length x.low.c, .slice x.high.A x.high.l.length x.high.c, .slice x.LA x.loads.length x.lc, .int .i64 x.level, .int .i64 x.temp] 31) := ⟨_, rfl⟩
  have hst : Hid (Blk W w.heap.size 31 x.cs ∧ Below w.heap.size w W) := by
    show _ ∧ _
    rw [hW]
    exact ⟨Blk.new _ _ _, (Below.refl _ _).alloc (Nat.le_refl _) _⟩
  have hWH := Lib.hid hW
  clear hW hP0
  cases qs : smallM x
  · rw [qs] at hsm
    go_enter Try.func5, Try.ntmps5
    go_upto_region 1 with fail
    rw [← hWH.out]
    clear hWH
    go_wp2_with (refine wpList_load_problem rfl _ rfl w.heap.size rfl x (hst.out.1) ?_)
    refine (hsm.out _ (hP.out.below hst.out.2)).mono ?_
    rintro e w1 ⟨rfl, hb1⟩
    have HX1 := Lib.hid (hst.out.2.trans (hb1.mono hst.out.2.size))
    clear hb1
    go_wp2_with fail
    refine (haw.out _).mono ?_
    rintro e wz ⟨rfl, hbwz⟩
    have Hwz := Lib.hid (HX1.out.trans (hbwz.mono HX1.out.size))
    clear hbwz
    go_wp2_with fail
    go_ret
    exact ⟨rfl, Hwz.out⟩
  · rw [qs] at hsm
    have hF := fit_of qs hL0 hc0 hm0
    have HF := Lib.hid hF
    have hi := Lib.hid (fun W (h : RPb W x) => pidle_any x W h hF)
    have hck := Lib.hid (fun W (h : RPb W x) => pcheck_any x W h hF)
    clear qs hL0 hc0 hm0 hF
    go_enter Try.func5, Try.ntmps5
    go_upto_region 1 with fail
    rw [← hWH.out]
    clear hWH
    go_wp2_with (refine wpList_load_problem rfl _ rfl w.heap.size rfl x (hst.out.1) ?_)
    refine (hsm.out _ (hP.out.below hst.out.2)).mono ?_
    rintro e w1 ⟨rfl, hb1⟩
    have HX1 : Hid (Blk w1 w.heap.size 31 x.cs ∧ Below w.heap.size w w1) := ⟨hst.out.1.below hb1 hst.out.1.lt, hst.out.2.trans (hb1.mono hst.out.2.size)⟩
    clear hb1 hst
    go_wp2_with (refine wpList_load_problem rfl _ rfl w.heap.size rfl x (HX1.out.1) ?_)
    refine (hi.out _ (hP.out.below HX1.out.2)).mono ?_
    rintro e w2 ⟨y, hy, rfl, hry, hcy, hb2⟩
    simp only [PnM.v]
    go_upto_region 4 with fail
    obtain ⟨t3, ht3⟩ : ∃ t3, t3 = w2.heap.size := ⟨_, rfl⟩
    obtain ⟨v2, hv2⟩ : ∃ v2, v2 = w2.alloc (.cells #[.slice y.charge.A y.charge.l.length y.charge.c, .slice y.heat.A y.heat.l.length y.heat.c, .slice y.start.A y.start.l.length y.start.c] 37) := ⟨_, rfl⟩
    have HA2 : Hid (AX x y w.heap.size t3 w v2) := by
      show AX _ _ _ _ _ _
      rw [hv2, ht3]
      have hbb := HX1.out.2.trans (hb2.mono HX1.out.2.size)
      exact ⟨(HX1.out.1.below hb2 HX1.out.1.lt).alloc _, Blk.new _ _ _, ((hP.out.below HX1.out.2).below hb2).below (below_al (Below.refl _ _)), hry.below (below_al (Below.refl _ _)), hbb.alloc hbb.size _⟩
    rw [← hv2, ← ht3]
    have HY := Lib.hid hy
    have HCY := Lib.hid hcy
    clear hv2 ht3 hb2 hry hy hcy HX1
    by_cases q0 : x.p.chk = 0
    · rw [q0] at hck
      have hyf : y.Fit := by
        refine ⟨HCY.out.1, HCY.out.2.2, ?_, ?_⟩
        · intro s hs
          have e : y.start.l = x.p.loads.map Ld.early := congrArg Pn.start (HY.out.trans (Pb.idle_ok q0))
          rw [e, List.mem_map] at hs
          obtain ⟨z, hz, rfl⟩ := hs
          obtain ⟨i, hi', rfl⟩ := List.mem_iff_getElem.1 hz
          have g := Ld.good (Pb.load_ok (Pb.good q0) hi')
          have g1 := g.e0; have g2 := g.el; have g3 := g.l1; have g4 := g.n1
          omega
        · intro s hs
          have e : y.charge.l = List.replicate x.p.n 0 := congrArg Pn.charge (HY.out.trans (Pb.idle_ok q0))
          rw [e] at hs
          have := List.eq_of_mem_replicate hs
          omega
      have hrun := fun W (h : RPb W x) (h2 : RPn W y) => prun_any x y W h h2 HF.out hyf
      rw [show y.x = x.p.idle from HY.out] at hrun
      have hcs := Pb.idle_err q0
      have HQ := Lib.hid q0
      go_wp2_with (first | refine wpList_load_problem rfl _ rfl w.heap.size rfl x (HA2.out).p ?_ | refine wpList_load_plan rfl _ rfl t3 rfl y (HA2.out).q ?_)
      refine (hck.out _ HA2.out.rp).mono ?_
      rintro e w3 ⟨rfl, hb3⟩
      have HA3 := Lib.hid (HA2.out.below hb3)
      clear hb3 HA2
      rcases hcs with he | he
      · rw [he] at hrun
        have HRUN := Lib.hid hrun
        have hlv := Pb.idle_trace q0 he
        have HN := Lib.hid (Pb.nbd (Pb.good q0))
        clear hrun hyf q0
        go_wp2_with (first | refine wpList_load_problem rfl _ rfl w.heap.size rfl x (HA3.out).p ?_ | refine wpList_load_plan rfl _ rfl t3 rfl y (HA3.out).q ?_)
        refine (HRUN.out _ HA3.out.rp HA3.out.rq).mono ?_
        rintro e w4 ⟨tm, htx, rfl, hrt, hb4⟩
        have HLE := Lib.hid ((congrArg Tr.level htx).trans hlv)
        clear htx hlv
        simp only [TrM.v]
        go_upto_region 7 with fail
        obtain ⟨t4, ht4⟩ : ∃ t4, t4 = w4.heap.size := ⟨_, rfl⟩
        obtain ⟨v4, hv4⟩ : ∃ v4, v4 = w4.alloc (.cells #[.slice tm.net.A tm.net.l.length tm.net.c, .slice tm.level.A tm.level.l.length tm.level.c, .slice tm.temp.A tm.temp.l.length tm.temp.c, .int .i64 tm.cost] 40) := ⟨_, rfl⟩
        have HA4 : Hid (AX x y w.heap.size t3 w v4) := by show AX _ _ _ _ _ _; rw [hv4]; exact (HA3.out.below hb4).alloc _
        have hT4 : Blk v4 t4 40 #[.slice tm.net.A tm.net.l.length tm.net.c, .slice tm.level.A tm.level.l.length tm.level.c, .slice tm.temp.A tm.temp.l.length tm.temp.c, .int .i64 tm.cost] := by rw [hv4, ht4]; exact Blk.new _ _ _
        have HRT : Hid (RTr v4 tm) := by show RTr _ _; rw [hv4]; exact hrt.below (below_al (Below.refl _ _))
        rw [← hv4, ← ht4]
        have hll : tm.level.l = List.replicate x.p.n x.p.level := HLE.out
        have hlen : tm.level.l.length = x.p.n := by rw [hll, List.length_replicate]
        have HLL := Lib.hid (fun k (hk : k < tm.level.l.length) => show tm.level.l[k] = x.level by
          have : tm.level.l[k] = (List.replicate x.p.n x.p.level)[k]'(by rw [List.length_replicate]; omega) := by simp only [hll]
          rw [this, List.getElem_replicate]; rfl)
        have hn0 : 0 < tm.level.l.length := by rw [hlen]; exact HN.out.1
        have hn1 : tm.level.l.length ≤ 96 := by rw [hlen]; exact HN.out.2
        have z1 := hT4.cell 1
        simp at z1
        have c18 := HA4.out.p
        obtain ⟨-, -, -, -, -, -, -, -, -, -, -, -, -, -, -, -, -, -, k18, -⟩ := PbC.of_blk HA4.out.p
        clear hv4 ht4 hb4 hrt hll hT4 hlen c18 HN
        have HRL := Lib.hid HRT.out.level
        generalize tm.level.l = LV at *
        generalize tm.level.A = LA at *
        go_wp2_with fail
        go_loopw [39] (fun s39 wr => ∃ k : Nat, k ≤ LV.length ∧ s39 = .int .i64 k ∧ v4 = wr)
          (fun s39 _ => LV.length - (intOf s39).toNat)
        case atStart => exact ⟨0, by omega, rfl, rfl⟩
        case round =>
          obtain ⟨k, hk, rfl, rfl⟩ := hrel
          by_cases hlt : k < LV.length
          · have hr1 := HRL.out
            obtain ⟨b, of, hAe, hb, y0⟩ := hr1.at' hlt
            rw [HLL.out k hlt] at y0
            subst hAe
            have hne : (x.level != x.level) = false := by simp
            have i1 : (0 : Int) ≤ (k : Int) := by omega
            have i2 : (k : Int) < (LV.length : Int) := by omega
            go_wp2_with fail
            go_roundw
            case rel => exact ⟨k + 1, by omega, by go_num, trivial⟩
            case measure => simp [intOf]; omega
          · have hpos : (0 : Int) < (LV.length : Int) := by omega
            go_wp2_with fail
            refine (haw.out _).mono ?_
            rintro e wz ⟨rfl, hbwz⟩
            have Hwz := Lib.hid (HA4.out.bel.trans (hbwz.mono HA4.out.bel.size))
            clear hbwz
            go_wp2_with fail
            go_ret
            exact ⟨rfl, Hwz.out⟩
      · rw [he] at hrun
        have HRUN := Lib.hid hrun
        clear hrun hyf q0
        go_wp2_with (first | refine wpList_load_problem rfl _ rfl w.heap.size rfl x (HA3.out).p ?_ | refine wpList_load_plan rfl _ rfl t3 rfl y (HA3.out).q ?_)
        refine (HRUN.out _ HA3.out.rp HA3.out.rq).mono ?_
        rintro e w4 ⟨tm, htx, rfl, hrt, hb4⟩
        have HA4 := Lib.hid ((HA3.out.below hb4).alloc (.cells #[.slice tm.net.A tm.net.l.length tm.net.c, .slice tm.level.A tm.level.l.length tm.level.c, .slice tm.temp.A tm.temp.l.length tm.temp.c, .int .i64 tm.cost] 40))
        simp only [TrM.v]
        clear hb4 hrt htx
        go_wp2_with fail
        refine (haw.out _).mono ?_
        rintro e wz ⟨rfl, hbwz⟩
        have Hwz := Lib.hid (HA4.out.bel.trans (hbwz.mono HA4.out.bel.size))
        clear hbwz
        go_wp2_with fail
        go_ret
        exact ⟨rfl, Hwz.out⟩
    · have hn : (x.p.chk != 0) = true := by simpa using q0
      have hid : x.p.idle = Pn.zero := by unfold Pb.idle; rw [if_pos q0]
      have hyz := HY.out.trans hid
      have l1 : y.charge.l.length < 1000000000 := by rw [show y.charge.l = [] from congrArg Pn.charge hyz]; decide
      have l2 : y.heat.l.length < 1000000000 := by rw [show y.heat.l = [] from congrArg Pn.heat hyz]; decide
      have l3 : y.start.l.length < 1000000000 := by rw [show y.start.l = [] from congrArg Pn.start hyz]; decide
      have HS := Lib.hid (fun W (h : RPn W y) => sameplan_true y PnM.zero W h (RPn.zero W) hyz l1 l2 l3)
      generalize x.p.chk = ck at *
      clear q0 hid hyz l1 l2 l3
      go_wp2_with (first | refine wpList_load_problem rfl _ rfl w.heap.size rfl x (HA2.out).p ?_ | refine wpList_load_plan rfl _ rfl t3 rfl y (HA2.out).q ?_)
      refine (hck.out _ HA2.out.rp).mono ?_
      rintro e w3 ⟨rfl, hb3⟩
      have HA3 := Lib.hid (HA2.out.below hb3)
      clear hb3
      go_wp2_with (first | refine wpList_load_problem rfl _ rfl w.heap.size rfl x (HA3.out).p ?_ | refine wpList_load_plan rfl _ rfl t3 rfl y (HA3.out).q ?_)
      refine (HS.out _ HA3.out.rq).mono ?_
      rintro e w4 ⟨rfl, hb4⟩
      have HA4 := Lib.hid (HA3.out.below hb4)
      clear hb4
      go_wp2_with fail
      refine (haw.out _).mono ?_
      rintro e wz ⟨rfl, hbwz⟩
      have Hwz := Lib.hid (HA4.out.bel.trans (hbwz.mono HA4.out.bel.size))
      clear hbwz
      go_wp2_with fail
      go_ret
      exact ⟨rfl, Hwz.out⟩
end Go.Proofs.Ytdheockmphdakaa
