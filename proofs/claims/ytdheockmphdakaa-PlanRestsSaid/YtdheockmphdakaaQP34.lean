/-
  The law PlanRests, walked.
-/
import Derived.Test.YtdheockmphdakaaQP18
import Derived.Test.YtdheockmphdakaaQP33
namespace Go.Proofs.Ytdheockmphdakaa
open Go.RowKit
attribute [local go_sem ↓] Go.wp_at_zero Go.wp_at_succ

set_option maxRecDepth 100000 in
set_option maxHeartbeats 64000000 in
theorem prests_law (x : PbM) (y : PnM) (k : Int) (w : World) (hP0 : RPb w x) (hL0 : ∀ z ∈ x.loads, z.r.prof.length ≤ maxLen ∧ z.r.name.size ≤ maxLen ∧ -9223372036854775808 ≤ z.r.late ∧ z.r.late ≤ 9223372036854775807) (hc0 : x.loads.length ≤ x.lc) (hm0 : x.buy.l.length ≤ maxLen) (hC0 : x.Cap) (hQ0 : RPn w y) (hG0 : y.Fit) :
    Calls Try.prog 8 #[x.v, y.v, .int .i64 k] w fun e w' => e = .returned (.bool true) ∧ Below w.heap.size w w' := by
  have hC := Lib.hid hC0
  clear hC0
  have hP := Lib.hid hP0
  have hQ := Lib.hid hQ0
  have hst0 := PX.start x y w
  have hsm := Lib.hid (fun W (h : RPb W x) => small_any x W h)
  have hbr := Lib.hid (fun W (h : RPn W y) => brief_any y W h)
  have haw := Lib.hid awake_any
  simp only [PbM.v, PnM.v]
  obtain ⟨W, hW⟩ : ∃ W, W = (w.alloc (.cells #[.slice x.buy.A x.buy.l.length x.buy.c, .slice x.sell.A x.sell.l.length x.sell.c, .int .i64 x.fuse, .slice x.solar.A x.solar.l.length x.solar.c, .slice x.demand.A x.demand.l.length x.demand.c, .slice x.outside.A x.outside.l.length x.outside.c, .int .i64 x.bat.cap, .int .i64 x.bat.reserve, .int .i64 x.bat.charge, .int .i64 x.bat.discharge, .int .i64 x.bat.eff, .int .i64 x.gain, .int .i64 x.loss, .int .i64 x.steps, .int .i64 x.power, .slice x.low.A x.low.l.length x.low.c, .slice x.high.A x.high.l.length x.high.c, .slice x.LA x.loads.length x.lc, .int .i64 x.level, .int .i64 x.temp] 31)).alloc (.cells #[.slice y.charge.A y.charge.l.length y.charge.c, .slice y.heat.A y.heat.l.length y.heat.c, .slice y.start.A y.start.l.length y.start.c] 37) := ⟨_, rfl⟩
  rw [show (w.alloc (.cells x.cs 31)).alloc (.cells y.cs 37) = W from hW.symm] at hst0
  have hst := Lib.hid hst0
  have hWH := Lib.hid hW
  clear hst0 hW hP0 hQ0
  cases qs : smallM x
  · rw [qs] at hsm
    go_enter Try.func8, Try.ntmps8
    go_upto_region 1 with fail
    rw [← hWH.out]
    clear hWH
    go_wp2_with (first | refine wpList_load_problem rfl _ rfl w.heap.size rfl x (hst.out).p ?_ | refine wpList_load_plan rfl _ rfl (w.heap.size + 1) rfl y (hst.out).q ?_)
    refine (hsm.out _ (hst.out.pr hP.out)).mono ?_
    rintro e w1 ⟨rfl, hb1⟩
    have HX1 := Lib.hid (hst.out.below hb1)
    clear hb1
    go_wp2_with fail
    refine (haw.out _).mono ?_
    rintro e w2 ⟨rfl, hb2⟩
    have HX2 := Lib.hid (HX1.out.below hb2)
    clear hb2
    go_wp2_with fail
    go_ret
    exact ⟨rfl, HX2.out.bel⟩
  · cases qb : briefM y
    · rw [qs] at hsm
      rw [qb] at hbr
      go_enter Try.func8, Try.ntmps8
      go_upto_region 1 with fail
      rw [← hWH.out]
      clear hWH
      go_wp2_with (first | refine wpList_load_problem rfl _ rfl w.heap.size rfl x (hst.out).p ?_ | refine wpList_load_plan rfl _ rfl (w.heap.size + 1) rfl y (hst.out).q ?_)
      refine (hsm.out _ (hst.out.pr hP.out)).mono ?_
      rintro e w1 ⟨rfl, hb1⟩
      have HX1 := Lib.hid (hst.out.below hb1)
      clear hb1 hst
      obtain ⟨q0, q1, q2⟩ := HX1.out.qc
      go_wp2_with fail
      refine (hbr.out _ (HX1.out.qr hQ.out)).mono ?_
      rintro e w2 ⟨rfl, hb2⟩
      have HX2 := Lib.hid (HX1.out.below hb2)
      clear q0 q1 q2
      clear hb2
      go_wp2_with fail
      refine (haw.out _).mono ?_
      rintro e w3 ⟨rfl, hb3⟩
      have HX3 := Lib.hid (HX2.out.below hb3)
      clear hb3
      go_wp2_with fail
      go_ret
      exact ⟨rfl, HX3.out.bel⟩
    · have HSM := Lib.hid qs
      have HBR := Lib.hid qb
      rw [qs] at hsm
      rw [qb] at hbr
      have hF := Lib.hid (fit_of qs hL0 hc0 hm0)
      have hG := Lib.hid hG0
      clear qs qb hL0 hc0 hm0 hG0
      go_enter Try.func8, Try.ntmps8
      go_upto_region 1 with fail
      rw [← hWH.out]
      clear hWH
      go_wp2_with (first | refine wpList_load_problem rfl _ rfl w.heap.size rfl x (hst.out).p ?_ | refine wpList_load_plan rfl _ rfl (w.heap.size + 1) rfl y (hst.out).q ?_)
      refine (hsm.out _ (hst.out.pr hP.out)).mono ?_
      rintro e w1 ⟨rfl, hb1⟩
      have HX1 := Lib.hid (hst.out.below hb1)
      clear hb1 hst
      obtain ⟨q0, q1, q2⟩ := HX1.out.qc
      go_wp2_with fail
      refine (hbr.out _ (HX1.out.qr hQ.out)).mono ?_
      rintro e w2 ⟨rfl, hb2⟩
      have HX2 := Lib.hid (HX1.out.below hb2)
      clear q0 q1 q2
      clear hb2 HX1 hsm hbr
      have hr1 := Lib.hid (fun W (h : RPb W x) (h2 : RPn W y) => prest_any x y k W h h2 hF.out hG.out hC.out)
      have hr2 := Lib.hid (fun W (h : RPb W x) (h2 : RPn W y) => rrest_any x y k W h h2 hF.out hG.out hC.out)
      have hi1 := Lib.hid (fun W (h : RPb W x) => pidle_any x W h hF.out)
      have hi2 := Lib.hid (fun W (h : RPb W x) => ridle_any x W h hF.out)
      have hSh := Lib.hid (PbM.short HSM.out)
      have hShR := Lib.hid ((PbM.short HSM.out).restR y.x k)
      generalize x.p.restR y.x k = q at *
      generalize x.p.restE y.x k = er at *
      go_wp2_with (first | refine wpList_load_problem rfl _ rfl w.heap.size rfl x (HX2.out).p ?_ | refine wpList_load_plan rfl _ rfl (w.heap.size + 1) rfl y (HX2.out).q ?_)
      refine (hr1.out _ (HX2.out.pr hP.out) (HX2.out.qr hQ.out)).mono ?_
      rintro e w3 ⟨m1, hxm1, rfl, hrm1, hcm1, hbm1⟩
      go_wp2_with (refine wpList_store_blk rfl 31 _ _ rfl w3.heap.size rfl m1.cs rfl (by kernel_rfl) (PbM.cs_one _) (Blk.new w3 _ _) rfl ?_)
      intro v3 hBm1 hgm1
      have hsm1 : Below w3.heap.size w3 v3 := ((Below.refl w3.heap.size w3).alloc (Nat.le_refl _) (.cells #[.slice none 0 0, .slice none 0 0, .int .i64 0, .slice none 0 0, .slice none 0 0, .slice none 0 0, .int .i64 0, .int .i64 0, .int .i64 0, .int .i64 0, .int .i64 0, .int .i64 0, .int .i64 0, .int .i64 0, .int .i64 0, .slice none 0 0, .slice none 0 0, .slice none 0 0, .int .i64 0, .int .i64 0] 31)).grown hgm1 (by simp) (fun k e => by injection e with e; omega)
      obtain ⟨t7, ht⟩ : ∃ t, t = w3.heap.size := ⟨_, rfl⟩
      rw [← ht] at hBm1
      go_upto_region 4 with fail
      rw [← ht]
      have HX3 : Hid (PX x y w v3) := (HX2.out.below hbm1).below hsm1
      have HM1 : Hid (RPb v3 m1) := hrm1.below hsm1
      have HT7 : Hid (Blk v3 t7 31 m1.cs) := hBm1
      have HE1 := Lib.hid hxm1
      clear ht hBm1 hgm1 hsm1 hrm1 hcm1 hbm1 hxm1 HX2
      go_wp2_with (first | refine wpList_load_problem rfl _ rfl w.heap.size rfl x (HX3.out).p ?_ | refine wpList_load_plan rfl _ rfl (w.heap.size + 1) rfl y (HX3.out).q ?_)
      refine (hr2.out _ (HX3.out.pr hP.out) (HX3.out.qr hQ.out)).mono ?_
      rintro e w4 ⟨m2, hxm2, rfl, hrm2, hcm2, hbm2⟩
      go_wp2_with (refine wpList_store_blk rfl 31 _ _ rfl w4.heap.size rfl m2.cs rfl (by kernel_rfl) (PbM.cs_one _) (Blk.new w4 _ _) rfl ?_)
      intro v4 hBm2 hgm2
      have hsm2 : Below w4.heap.size w4 v4 := ((Below.refl w4.heap.size w4).alloc (Nat.le_refl _) (.cells #[.slice none 0 0, .slice none 0 0, .int .i64 0, .slice none 0 0, .slice none 0 0, .slice none 0 0, .int .i64 0, .int .i64 0, .int .i64 0, .int .i64 0, .int .i64 0, .int .i64 0, .int .i64 0, .int .i64 0, .int .i64 0, .slice none 0 0, .slice none 0 0, .slice none 0 0, .int .i64 0, .int .i64 0] 31)).grown hgm2 (by simp) (fun k e => by injection e with e; omega)
      obtain ⟨t9, ht⟩ : ∃ t, t = w4.heap.size := ⟨_, rfl⟩
      rw [← ht] at hBm2
      go_upto_region 5 with fail
      rw [← ht]
      have HX4 : Hid (PX x y w v4) := (HX3.out.below hbm2).below hsm2
      have HM1b : Hid (RPb v4 m1) := (HM1.out.below hbm2).below hsm2
      have HM2 : Hid (RPb v4 m2) := hrm2.below hsm2
      have HT7b : Hid (Blk v4 t7 31 m1.cs) := by
        have h := HT7.out.below hbm2 HT7.out.lt
        exact h.below hsm2 h.lt
      have HT9 : Hid (Blk v4 t9 31 m2.cs) := hBm2
      have HE2 := Lib.hid hxm2
      clear ht hBm2 hgm2 hsm2 hrm2 hcm2 hbm2 hxm2 HX3 HM1 HT7
      have HK2 : Hid (∀ W', Below v4.heap.size v4 W' → Below v4.heap.size v4 W' ∧ Blk W' w.heap.size 31 x.cs ∧ Blk W' t7 31 m1.cs ∧ Blk W' t9 31 m2.cs) := fun W' hb => ⟨hb, HX4.out.p.below hb HX4.out.p.lt, HT7b.out.below hb HT7b.out.lt, HT9.out.below hb HT9.out.lt⟩
      have HRP : Hid (∀ W', Below v4.heap.size v4 W' → RPb W' x) := fun W' hb => (HX4.out.pr hP.out).below hb
      have HR1 : Hid (∀ W', Below v4.heap.size v4 W' → RPb W' m1) := fun W' hb => HM1b.out.below hb
      have HR2 : Hid (∀ W', Below v4.heap.size v4 W' → RPb W' m2) := fun W' hb => HM2.out.below hb
      have e1 : (er == er) = true := by simp
      go_wp2_with fail
      refine wp_region_held_drew (S := (fun w' => Below v4.heap.size v4 w' ∧ Blk w' w.heap.size 31 x.cs ∧ Blk w' t7 31 m1.cs ∧ Blk w' t9 31 m2.cs)) (by kernel_rfl) (HK2.out _ (Below.drew (Below.refl _ _))) (fun hHeld => ?_)
      refine wpAnyH_take (i := 0) (v := .agg x.cs) rfl (by kernel_rfl) (by kernel_rfl) (by kernel_rfl) (fun _ _ _ h => h) (yieldsIf_load_blk (by rfl) 31 (by kernel_rfl) (by kernel_rfl) _ rfl w.heap.size rfl (fun _ h => h.2.1)) (by assumption) ?_
      (try simp only [List.getElem_toArray, List.getElem_cons_zero, Act.put, List.setIfInBounds_toArray, List.set_cons_zero, List.set_cons_succ])
      refine wpAnyH_take (i := 2) (v := .agg x.cs) rfl (by kernel_rfl) (by kernel_rfl) (by kernel_rfl) (fun _ _ _ h => h) (yieldsIf_load_blk (by rfl) 31 (by kernel_rfl) (by kernel_rfl) _ rfl w.heap.size rfl (fun _ h => h.2.1)) (by assumption) ?_
      (try simp only [List.getElem_toArray, List.getElem_cons_zero, List.getElem_cons_succ, Act.put, List.setIfInBounds_toArray, List.set_cons_zero, List.set_cons_succ])
      refine wpAnyH_ready (rs := [1]) (by kernel_rfl) (by simp) ?_
      refine AllReadyH.cons rfl (fun K hK => ?_) AllReadyH.nil
      have HKK := Lib.hid hK
      clear hK
      go_simp
      (go_at_call 20; refine (hi1.out _ (HRP.out _ hHeld.1)).mono ?_; rintro e' w5 ⟨mi1, hxi1, rfl, hri1, -, hb5⟩)
      go_wp2_with fail
      refine HKK.out _ _ (by first | exact HK2.out _ (below_al hHeld.1) | exact HK2.out _ hHeld.1 | exact HK2.out _ (below_tr hHeld.1 (by assumption))) (fun hH2 => ?_)
      clear HKK K
      replace hHeld := hH2
      clear hH2
      (try simp only [List.getElem_toArray, List.getElem_cons_zero, List.getElem_cons_succ, Act.put, List.setIfInBounds_toArray, List.set_cons_zero, List.set_cons_succ])
      refine wpAnyH_ready (rs := [3]) (by kernel_rfl) (by simp) ?_
      refine AllReadyH.cons rfl (fun K hK => ?_) AllReadyH.nil
      have HKK := Lib.hid hK
      clear hK
      go_simp
      (go_at_call 29; refine (hi2.out _ (HRP.out _ hHeld.1)).mono ?_; rintro e' w6 ⟨mi2, hxi2, rfl, hri2, -, hb6⟩)
      go_wp2_with fail
      refine HKK.out _ _ (by first | exact HK2.out _ (below_al hHeld.1) | exact HK2.out _ hHeld.1 | exact HK2.out _ (below_tr hHeld.1 (by assumption))) (fun hH2 => ?_)
      clear HKK K
      replace hHeld := hH2
      clear hH2
      (try simp only [List.getElem_toArray, List.getElem_cons_zero, List.getElem_cons_succ, Act.put, List.setIfInBounds_toArray, List.set_cons_zero, List.set_cons_succ])
      have HI := Lib.hid (And.intro (hri1.below hb6) hri2)
      have HXI := Lib.hid (And.intro hxi1 hxi2)
      clear hri1 hri2 hxi1 hxi2
      refine wpAnyH_ready (rs := [4]) (by kernel_rfl) (by simp) ?_
      refine AllReadyH.cons rfl (fun K hK => ?_) AllReadyH.nil
      have HKK := Lib.hid hK
      clear hK
      go_simp
      (go_at_call 21; refine (sameidle_short mi1 mi2 _ HI.out.1 HI.out.2 HXI.out.1 HXI.out.2 hSh.out).mono ?_; rintro e' w7 ⟨rfl, hb7⟩)
      go_wp2_with fail
      refine HKK.out _ _ (by first | exact HK2.out _ (below_al hHeld.1) | exact HK2.out _ hHeld.1 | exact HK2.out _ (below_tr hHeld.1 (by assumption))) (fun hH2 => ?_)
      clear HKK K
      replace hHeld := hH2
      clear hH2
      (try simp only [List.getElem_toArray, List.getElem_cons_zero, List.getElem_cons_succ, Act.put, List.setIfInBounds_toArray, List.set_cons_zero, List.set_cons_succ])
      refine wpAnyH_take (i := 5) (v := ?_) rfl (by kernel_rfl) (by kernel_rfl) (by kernel_rfl) (fun _ _ _ h => h) (Or.inl ⟨by rfl, ?_⟩) (by assumption) ?_
      rotate_left
      · (intro w' hSw; (try dsimp only at hSw); go_simp; try with_reducible rfl)
      (try simp only [List.getElem_toArray, List.getElem_cons_zero, List.getElem_cons_succ, Act.put, List.setIfInBounds_toArray, List.set_cons_zero, List.set_cons_succ])
      refine wpAnyH_take (i := 6) (v := .agg m1.cs) rfl (by kernel_rfl) (by kernel_rfl) (by kernel_rfl) (fun _ _ _ h => h) (yieldsIf_load_blk (by rfl) 31 (by kernel_rfl) (by kernel_rfl) _ rfl t7 rfl (fun _ h => h.2.2.1)) (by assumption) ?_
      (try simp only [List.getElem_toArray, List.getElem_cons_zero, List.getElem_cons_succ, Act.put, List.setIfInBounds_toArray, List.set_cons_zero, List.set_cons_succ])
      refine wpAnyH_take (i := 7) (v := .agg m2.cs) rfl (by kernel_rfl) (by kernel_rfl) (by kernel_rfl) (fun _ _ _ h => h) (yieldsIf_load_blk (by rfl) 31 (by kernel_rfl) (by kernel_rfl) _ rfl t9 rfl (fun _ h => h.2.2.2)) (by assumption) ?_
      (try simp only [List.getElem_toArray, List.getElem_cons_zero, List.getElem_cons_succ, Act.put, List.setIfInBounds_toArray, List.set_cons_zero, List.set_cons_succ])
      refine wpAnyH_ready (rs := [8]) (by kernel_rfl) (by simp) ?_
      refine AllReadyH.cons rfl (fun K hK => ?_) AllReadyH.nil
      have HKK := Lib.hid hK
      clear hK
      go_simp
      (go_at_call 30; refine (probsame_short m1 m2 _ (HR1.out _ hHeld.1) (HR2.out _ hHeld.1) HE1.out HE2.out hShR.out).mono ?_; rintro e' w8 ⟨rfl, hb8⟩)
      go_wp2_with fail
      refine HKK.out _ _ (by first | exact HK2.out _ (below_al hHeld.1) | exact HK2.out _ hHeld.1 | exact HK2.out _ (below_tr hHeld.1 (by assumption))) (fun hH2 => ?_)
      clear HKK K
      replace hHeld := hH2
      clear hH2
      (try simp only [List.getElem_toArray, List.getElem_cons_zero, List.getElem_cons_succ, Act.put, List.setIfInBounds_toArray, List.set_cons_zero, List.set_cons_succ])
      refine wpAnyH_take (i := 9) (v := ?_) rfl (by kernel_rfl) (by kernel_rfl) (by kernel_rfl) (fun _ _ _ h => h) (Or.inl ⟨by rfl, ?_⟩) (by assumption) ?_
      rotate_left
      · (intro w' hSw; (try dsimp only at hSw); go_simp; try with_reducible rfl)
      (try simp only [List.getElem_toArray, List.getElem_cons_zero, List.getElem_cons_succ, Act.put, List.setIfInBounds_toArray, List.set_cons_zero, List.set_cons_succ])
      refine wpAnyH_take (i := 10) (v := ?_) rfl (by kernel_rfl) (by kernel_rfl) (by kernel_rfl) (fun _ _ _ h => h) (Or.inl ⟨by rfl, ?_⟩) (by assumption) ?_
      rotate_left
      · (intro w' hSw; (try dsimp only at hSw); go_simp; try with_reducible rfl)
      (try simp only [List.getElem_toArray, List.getElem_cons_zero, List.getElem_cons_succ, Act.put, List.setIfInBounds_toArray, List.set_cons_zero, List.set_cons_succ])
      refine wpAnyH_take (i := 11) (v := ?_) rfl (by kernel_rfl) (by kernel_rfl) (by kernel_rfl) (fun _ _ _ h => h) (Or.inl ⟨by rfl, ?_⟩) (by assumption) ?_
      rotate_left
      · (intro w' hSw; (try dsimp only at hSw); go_simp; try with_reducible rfl)
      (try simp only [List.getElem_toArray, List.getElem_cons_zero, List.getElem_cons_succ, Act.put, List.setIfInBounds_toArray, List.set_cons_zero, List.set_cons_succ])
      refine wpAnyH_take (i := 12) (v := ?_) rfl (by kernel_rfl) (by kernel_rfl) (by kernel_rfl) (fun _ _ _ h => h) (Or.inl ⟨by rfl, ?_⟩) (by assumption) ?_
      rotate_left
      · (intro w' hSw; (try dsimp only at hSw); go_simp; try with_reducible rfl)
      (try simp only [List.getElem_toArray, List.getElem_cons_zero, List.getElem_cons_succ, Act.put, List.setIfInBounds_toArray, List.set_cons_zero, List.set_cons_succ])
      refine wpAnyH_take (i := 13) (v := ?_) rfl (by kernel_rfl) (by kernel_rfl) (by kernel_rfl) (fun _ _ _ h => h) (Or.inl ⟨by rfl, ?_⟩) (by assumption) ?_
      rotate_left
      · (intro w' hSw; (try dsimp only at hSw); go_simp; try with_reducible rfl)
      (try simp only [List.getElem_toArray, List.getElem_cons_zero, List.getElem_cons_succ, Act.put, List.setIfInBounds_toArray, List.set_cons_zero, List.set_cons_succ])
      refine wpAnyH_take (i := 14) (v := ?_) rfl (by kernel_rfl) (by kernel_rfl) (by kernel_rfl) (fun _ _ _ h => h) (Or.inl ⟨by rfl, ?_⟩) (by assumption) ?_
      rotate_left
      · (intro w' hSw; (try dsimp only at hSw); go_simp; try with_reducible rfl)
      (try simp only [List.getElem_toArray, List.getElem_cons_zero, List.getElem_cons_succ, Act.put, List.setIfInBounds_toArray, List.set_cons_zero, List.set_cons_succ])
      refine wpAnyH_take (i := 15) (v := ?_) rfl (by kernel_rfl) (by kernel_rfl) (by kernel_rfl) (fun _ _ _ h => h) (Or.inl ⟨by rfl, ?_⟩) (by assumption) ?_
      rotate_left
      · (intro w' hSw; (try dsimp only at hSw); go_simp; try with_reducible rfl)
      (try simp only [List.getElem_toArray, List.getElem_cons_zero, List.getElem_cons_succ, Act.put, List.setIfInBounds_toArray, List.set_cons_zero, List.set_cons_succ])
      refine wpAnyH_ready (rs := [16]) (by kernel_rfl) (by simp) ?_
      refine AllReadyH.cons rfl (fun K hK => ?_) AllReadyH.nil
      have HKK := Lib.hid hK
      clear hK
      go_simp
      (go_at_call 11; refine (haw.out _).mono ?_; rintro e' w9 ⟨rfl, hb9⟩)
      go_wp2_with fail
      refine HKK.out _ _ (by first | exact HK2.out _ (below_al hHeld.1) | exact HK2.out _ hHeld.1 | exact HK2.out _ (below_tr hHeld.1 (by assumption))) (fun hH2 => ?_)
      clear HKK K
      replace hHeld := hH2
      clear hH2
      (try simp only [List.getElem_toArray, List.getElem_cons_zero, List.getElem_cons_succ, Act.put, List.setIfInBounds_toArray, List.set_cons_zero, List.set_cons_succ])
      refine wpAnyH_take (i := 17) (v := ?_) rfl (by kernel_rfl) (by kernel_rfl) (by kernel_rfl) (fun _ _ _ h => h) (Or.inl ⟨by rfl, ?_⟩) (by assumption) ?_
      rotate_left
      · (intro w' hSw; (try dsimp only at hSw); go_simp; try with_reducible rfl)
      (try simp only [List.getElem_toArray, List.getElem_cons_zero, List.getElem_cons_succ, Act.put, List.setIfInBounds_toArray, List.set_cons_zero, List.set_cons_succ])
      refine wpAnyH_take (i := 18) (v := ?_) rfl (by kernel_rfl) (by kernel_rfl) (by kernel_rfl) (fun _ _ _ h => h) (Or.inl ⟨by rfl, ?_⟩) (by assumption) ?_
      rotate_left
      · (intro w' hSw; (try dsimp only at hSw); go_simp; try with_reducible rfl)
      (try simp only [List.getElem_toArray, List.getElem_cons_zero, List.getElem_cons_succ, Act.put, List.setIfInBounds_toArray, List.set_cons_zero, List.set_cons_succ])
      refine wpAnyH_done (by kernel_rfl) ?_ _
      go_wp2_with fail
      go_ret
      exact ⟨by simp, HX4.out.bel.trans (hHeld.1.mono HX4.out.bel.size)⟩
end Go.Proofs.Ytdheockmphdakaa
