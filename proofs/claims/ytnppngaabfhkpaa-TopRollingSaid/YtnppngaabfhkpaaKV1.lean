/-
  The walks of the top laws, part 1: the guard and the example.
-/
import Derived.Test.YtnppngaabfhkpaaKOP6
namespace Go.Proofs.Ytnppngaabfhkpaa
open Go.RowKit
attribute [local go_sem ↓] Go.wp_at_zero Go.wp_at_succ

/-- Small enough to be looked at. -/
def PbM.little (x : PbM) : Bool := decide ((x.buy.l.length : Int) ≤ 4) && (decide ((x.loads.length : Int) ≤ 1) && (decide (x.bat.cap ≤ 3) && decide (x.steps ≤ 2)))
set_option maxRecDepth 100000 in
set_option maxHeartbeats 16000000 in
theorem little_any (x : PbM) (w : World) :
    Calls Try.prog 16 #[x.v] w fun e w' => e = .returned (.bool x.little) ∧ Below w.heap.size w w' := by
  have hst0 := PB.start x w
  simp only [PbM.v]
  obtain ⟨W, hW⟩ : ∃ W, W = w.alloc (.cells #[.slice x.buy.A x.buy.l.length x.buy.c, .slice x.sell.A x.sell.l.length x.sell.c, .int .i64 x.fuse, .slice x.solar.A x.solar.l.length x.solar.c, .slice x.demand.A x.demand.l.length x.demand.c, .slice x.outside.A x.outside.l.length x.outside.c, .int .i64 x.bat.cap, .int .i64 x.bat.reserve, .int .i64 x.bat.charge, .int .i64 x.bat.discharge, .int .i64 x.bat.eff, .int .i64 x.gain, .int .i64 x.loss, .int .i64 x.steps, .int .i64 x.power, .slice x.low.A x.low.l.length x.low.c, .slice x.high.A x.high.l.length x.high.c, .slice x.LA x.loads.length x.lc, .int .i64 x.level, .int .i64 x.temp] 31) := ⟨_, rfl⟩
  rw [show w.alloc (.cells x.cs 31) = W from hW.symm] at hst0
  have hst := Lib.hid hst0
  have c0 := hst0.p.cell 0
  have c6 := hst0.p.cell 6
  have c13 := hst0.p.cell 13
  have c17 := hst0.p.cell 17
  simp [PbM.cs] at c0 c6 c13 c17
  have hWH := Lib.hid hW
  have HL : Hid (x.little = (decide ((x.buy.l.length : Int) ≤ 4) && (decide ((x.loads.length : Int) ≤ 1) && (decide (x.bat.cap ≤ 3) && decide (x.steps ≤ 2))))) := (rfl : _ = _)
  clear hst0 hW
  go_enter Try.func16, Try.ntmps16
  go_upto_region 1 with fail
  rw [← hWH.out]
  clear hWH
  by_cases h0 : (x.buy.l.length : Int) ≤ 4
  · by_cases h1 : (x.loads.length : Int) ≤ 1
    · by_cases h2 : x.bat.cap ≤ 3
      · by_cases h3 : x.steps ≤ 2
        · go_wp2_with fail
          go_ret
          exact ⟨by rw [HL.out, decide_eq_true h0, decide_eq_true h1, decide_eq_true h2, decide_eq_true h3]; rfl, hst.out.bel⟩
        · go_wp2_with fail
          go_ret
          exact ⟨by rw [HL.out, decide_eq_true h0, decide_eq_true h1, decide_eq_true h2, decide_eq_false (show ¬ (x.steps ≤ 2) by omega)]; rfl, hst.out.bel⟩
      · go_wp2_with fail
        go_ret
        exact ⟨by rw [HL.out, decide_eq_true h0, decide_eq_true h1, decide_eq_false (show ¬ (x.bat.cap ≤ 3) by omega)]; rfl, hst.out.bel⟩
    · go_wp2_with fail
      go_ret
      exact ⟨by rw [HL.out, decide_eq_true h0, decide_eq_false (show ¬ ((x.loads.length : Int) ≤ 1) by omega)]; rfl, hst.out.bel⟩
  · go_wp2_with fail
    go_ret
    exact ⟨by rw [HL.out, decide_eq_false (show ¬ ((x.buy.l.length : Int) ≤ 4) by omega)]; rfl, hst.out.bel⟩

def frM (b : Nat) : PbM := ⟨⟨some ⟨b, 0, none⟩, 2, [3, 1]⟩, ⟨some ⟨b + 1, 0, none⟩, 2, [0, 0]⟩, 5, ⟨some ⟨b + 1 + 1, 0, none⟩, 2, [0, 0]⟩, ⟨some ⟨b + 1 + 1 + 1, 0, none⟩, 2, [1, 0]⟩, ⟨some ⟨b + 1 + 1 + 1 + 1, 0, none⟩, 2, [200, 200]⟩, ⟨1, 0, 1, 1, 1000⟩, 0, 0, 0, 0, ⟨some ⟨b + 1 + 1 + 1 + 1 + 1, 0, none⟩, 2, [0, 0]⟩, ⟨some ⟨b + 1 + 1 + 1 + 1 + 1 + 1, 0, none⟩, 2, [500, 500]⟩, none, 0, [], 0, 200⟩
def frP : Pb := ⟨⟨[3, 1], [0, 0], 5⟩, [0, 0], [1, 0], [200, 200], ⟨1, 0, 1, 1, 1000⟩, ⟨0, 0, 0, 0, [0, 0], [500, 500]⟩, [], 0, 200⟩
theorem frM_p (b : Nat) : (frM b).p = frP := rfl
theorem frM_fit (b : Nat) : (frM b).Fit := ⟨by simp [frM], by simp [frM], by simp [frM], by simp [frM, maxLen], by simp [frM]⟩
theorem fr_1 : frP.bestE = 0 := by decide +kernel
theorem fr_2 : frP.best.charge = [0, 0] := by decide +kernel
theorem fr_3 : frP.oc = 3 := by decide +kernel

set_option maxRecDepth 100000 in
set_option maxHeartbeats 64000000 in
theorem frugal_any (w : World) : Calls Try.prog 18 #[] w fun e w' => e = .returned (.bool true) ∧ Below w.heap.size w w' := by
  obtain ⟨m, hm⟩ : ∃ m, m = frM w.heap.size := ⟨_, rfl⟩
  have hcs : m.cs = (frM w.heap.size).cs := by rw [hm]
  have hmf : m.Fit := by rw [hm]; exact frM_fit _
  have hbe1 := fun W (h : RPb W m) => best_any m W h hmf
  have hco1 := fun W (h : RPb W m) => ocost_any m W h hmf
  rw [hm, frM_p, fr_1, ← hm] at hbe1
  rw [hm, frM_p, fr_1, fr_3, ← hm] at hco1
  have HBE1 := Lib.hid hbe1
  have HCO1 := Lib.hid hco1
  have HCS := Lib.hid hcs
  have HM := Lib.hid hm
  obtain ⟨W, hW⟩ : ∃ W, W = (((((((w).alloc (.cells #[.int .i64 3, .int .i64 1] 3)).alloc (.cells #[.int .i64 0, .int .i64 0] 3)).alloc (.cells #[.int .i64 0, .int .i64 0] 3)).alloc (.cells #[.int .i64 1, .int .i64 0] 3)).alloc (.cells #[.int .i64 200, .int .i64 200] 3)).alloc (.cells #[.int .i64 0, .int .i64 0] 3)).alloc (.cells #[.int .i64 500, .int .i64 500] 3) := ⟨_, rfl⟩
  have hr : RPb W m ∧ Below w.heap.size w W ∧ W.heap.size = w.heap.size + 1 + 1 + 1 + 1 + 1 + 1 + 1 := by
    rw [hm, hW]
    have r0 : RInts ((w).alloc (.cells #[.int .i64 3, .int .i64 1] 3)) (some ⟨w.heap.size, 0, none⟩) [3, 1] := by
      have h := rints_lit (w) #[.int .i64 3, .int .i64 1] 3 (l := [3, 1]) rfl
      simpa using h
    have r1 : RInts (((w).alloc (.cells #[.int .i64 3, .int .i64 1] 3)).alloc (.cells #[.int .i64 0, .int .i64 0] 3)) (some ⟨w.heap.size + 1, 0, none⟩) [0, 0] := by
      have h := rints_lit ((w).alloc (.cells #[.int .i64 3, .int .i64 1] 3)) #[.int .i64 0, .int .i64 0] 3 (l := [0, 0]) rfl
      simpa using h
    have r2 : RInts ((((w).alloc (.cells #[.int .i64 3, .int .i64 1] 3)).alloc (.cells #[.int .i64 0, .int .i64 0] 3)).alloc (.cells #[.int .i64 0, .int .i64 0] 3)) (some ⟨w.heap.size + 1 + 1, 0, none⟩) [0, 0] := by
      have h := rints_lit (((w).alloc (.cells #[.int .i64 3, .int .i64 1] 3)).alloc (.cells #[.int .i64 0, .int .i64 0] 3)) #[.int .i64 0, .int .i64 0] 3 (l := [0, 0]) rfl
      simpa using h
    have r3 : RInts (((((w).alloc (.cells #[.int .i64 3, .int .i64 1] 3)).alloc (.cells #[.int .i64 0, .int .i64 0] 3)).alloc (.cells #[.int .i64 0, .int .i64 0] 3)).alloc (.cells #[.int .i64 1, .int .i64 0] 3)) (some ⟨w.heap.size + 1 + 1 + 1, 0, none⟩) [1, 0] := by
      have h := rints_lit ((((w).alloc (.cells #[.int .i64 3, .int .i64 1] 3)).alloc (.cells #[.int .i64 0, .int .i64 0] 3)).alloc (.cells #[.int .i64 0, .int .i64 0] 3)) #[.int .i64 1, .int .i64 0] 3 (l := [1, 0]) rfl
      simpa using h
    have r4 : RInts ((((((w).alloc (.cells #[.int .i64 3, .int .i64 1] 3)).alloc (.cells #[.int .i64 0, .int .i64 0] 3)).alloc (.cells #[.int .i64 0, .int .i64 0] 3)).alloc (.cells #[.int .i64 1, .int .i64 0] 3)).alloc (.cells #[.int .i64 200, .int .i64 200] 3)) (some ⟨w.heap.size + 1 + 1 + 1 + 1, 0, none⟩) [200, 200] := by
      have h := rints_lit (((((w).alloc (.cells #[.int .i64 3, .int .i64 1] 3)).alloc (.cells #[.int .i64 0, .int .i64 0] 3)).alloc (.cells #[.int .i64 0, .int .i64 0] 3)).alloc (.cells #[.int .i64 1, .int .i64 0] 3)) #[.int .i64 200, .int .i64 200] 3 (l := [200, 200]) rfl
      simpa using h
    have r5 : RInts (((((((w).alloc (.cells #[.int .i64 3, .int .i64 1] 3)).alloc (.cells #[.int .i64 0, .int .i64 0] 3)).alloc (.cells #[.int .i64 0, .int .i64 0] 3)).alloc (.cells #[.int .i64 1, .int .i64 0] 3)).alloc (.cells #[.int .i64 200, .int .i64 200] 3)).alloc (.cells #[.int .i64 0, .int .i64 0] 3)) (some ⟨w.heap.size + 1 + 1 + 1 + 1 + 1, 0, none⟩) [0, 0] := by
      have h := rints_lit ((((((w).alloc (.cells #[.int .i64 3, .int .i64 1] 3)).alloc (.cells #[.int .i64 0, .int .i64 0] 3)).alloc (.cells #[.int .i64 0, .int .i64 0] 3)).alloc (.cells #[.int .i64 1, .int .i64 0] 3)).alloc (.cells #[.int .i64 200, .int .i64 200] 3)) #[.int .i64 0, .int .i64 0] 3 (l := [0, 0]) rfl
      simpa using h
    have r6 : RInts ((((((((w).alloc (.cells #[.int .i64 3, .int .i64 1] 3)).alloc (.cells #[.int .i64 0, .int .i64 0] 3)).alloc (.cells #[.int .i64 0, .int .i64 0] 3)).alloc (.cells #[.int .i64 1, .int .i64 0] 3)).alloc (.cells #[.int .i64 200, .int .i64 200] 3)).alloc (.cells #[.int .i64 0, .int .i64 0] 3)).alloc (.cells #[.int .i64 500, .int .i64 500] 3)) (some ⟨w.heap.size + 1 + 1 + 1 + 1 + 1 + 1, 0, none⟩) [500, 500] := by
      have h := rints_lit (((((((w).alloc (.cells #[.int .i64 3, .int .i64 1] 3)).alloc (.cells #[.int .i64 0, .int .i64 0] 3)).alloc (.cells #[.int .i64 0, .int .i64 0] 3)).alloc (.cells #[.int .i64 1, .int .i64 0] 3)).alloc (.cells #[.int .i64 200, .int .i64 200] 3)).alloc (.cells #[.int .i64 0, .int .i64 0] 3)) #[.int .i64 500, .int .i64 500] 3 (l := [500, 500]) rfl
      simpa using h
    refine ⟨⟨((((((r0).alloc _).alloc _).alloc _).alloc _).alloc _).alloc _, (((((r1).alloc _).alloc _).alloc _).alloc _).alloc _, ((((r2).alloc _).alloc _).alloc _).alloc _, (((r3).alloc _).alloc _).alloc _, ((r4).alloc _).alloc _, (r5).alloc _, r6, RLoads.nil _⟩, ?_, by simp⟩
    exact (((((((Below.refl w.heap.size w).alloc (by omega) _).alloc (by simp; try omega) _).alloc (by simp; try omega) _).alloc (by simp; try omega) _).alloc (by simp; try omega) _).alloc (by simp; try omega) _).alloc (by simp; try omega) _
  have HR := Lib.hid hr
  have HW := Lib.hid hW
  clear hr hW hcs hmf hbe1 hco1 hm
  go_enter Try.func18, Try.ntmps18
  go_upto_region 1 with fail
  go_wp2_with (refine wpList_plain rfl (fun K hK => ?_); have HK := Lib.hid hK; clear hK)
  refine HK.out _ _ ?_
  clear HK
  go_wp2_with (refine wpList_plain rfl (fun K hK => ?_); have HK := Lib.hid hK; clear hK)
  refine HK.out _ _ ?_
  clear HK
  go_wp2_with (refine wpList_plain rfl (fun K hK => ?_); have HK := Lib.hid hK; clear hK)
  refine HK.out _ _ ?_
  clear HK
  go_wp2_with (refine wpList_plain rfl (fun K hK => ?_); have HK := Lib.hid hK; clear hK)
  refine HK.out _ _ ?_
  clear HK
  go_wp2_with (refine wpList_plain rfl (fun K hK => ?_); have HK := Lib.hid hK; clear hK)
  refine HK.out _ _ ?_
  clear HK
  go_wp2_with (refine wpList_plain rfl (fun K hK => ?_); have HK := Lib.hid hK; clear hK)
  refine HK.out _ _ ?_
  clear HK
  go_wp2_with (refine wpList_plain rfl (fun K hK => ?_); have HK := Lib.hid hK; clear hK)
  refine HK.out _ _ ?_
  clear HK
  go_wp2_with (refine wpList_plain rfl (fun K hK => ?_); have HK := Lib.hid hK; clear hK)
  refine HK.out _ _ ?_
  clear HK
  go_wp2_with (refine wpList_plain rfl (fun K hK => ?_); have HK := Lib.hid hK; clear hK)
  refine HK.out _ _ ?_
  clear HK
  go_wp2_with (refine wpList_plain rfl (fun K hK => ?_); have HK := Lib.hid hK; clear hK)
  refine HK.out _ _ ?_
  clear HK
  go_wp2_with (refine wpList_plain rfl (fun K hK => ?_); have HK := Lib.hid hK; clear hK)
  refine HK.out _ _ ?_
  clear HK
  go_wp2_with (refine wpList_plain rfl (fun K hK => ?_); have HK := Lib.hid hK; clear hK)
  refine HK.out _ _ ?_
  clear HK
  rw [← HW.out]
  (try rw [← HR.out.2.2])
  refine wpList_store_blk rfl 31 _ _ rfl W.heap.size rfl m.cs (by rw [HCS.out]; rfl) (by kernel_rfl) (PbM.cs_one _) (Blk.new W _ _) rfl ?_
  intro w2 hB2 hg2
  have hs2 : Below W.heap.size W w2 := ((Below.refl W.heap.size W).alloc (Nat.le_refl _) (.cells #[.slice none 0 0, .slice none 0 0, .int .i64 0, .slice none 0 0, .slice none 0 0, .slice none 0 0, .int .i64 0, .int .i64 0, .int .i64 0, .int .i64 0, .int .i64 0, .int .i64 0, .int .i64 0, .int .i64 0, .int .i64 0, .slice none 0 0, .slice none 0 0, .slice none 0 0, .int .i64 0, .int .i64 0] 31)).grown hg2 (by simp) (fun k e => by injection e with e; omega)
  obtain ⟨t1, ht⟩ : ∃ t, t = W.heap.size := ⟨_, rfl⟩
  have HV2 := Lib.hid (lv_store HR.out.1 HR.out.2.1 hs2 hB2)
  rw [← ht] at HV2
  have HT := Lib.hid ht
  clear hs2 hB2 hg2 ht HR HW HCS
  go_upto_region 2 with fail
  rw [← HT.out]
  clear HT
  go_wp2_with (refine wpList_load_problem rfl _ rfl t1 rfl m HV2.out.p ?_)
  refine (HCO1.out _ HV2.out.r).mono ?_
  rintro e w3 ⟨rfl, hb3⟩
  have HV3 := Lib.hid (HV2.out.below hb3)
  clear hb3 HV2 HCO1
  go_upto_region 3 with fail
  go_wp2_with (refine wpList_load_problem rfl _ rfl t1 rfl m HV3.out.p ?_)
  refine (HBE1.out _ HV3.out.r).mono ?_
  rintro e w4 ⟨x, hx, rfl, hrx, hfx, _, hb4⟩
  have HV4 := Lib.hid (HV3.out.below hb4)
  clear hb4 HV3 HBE1
  go_wp2_with (refine wpList_store_blk rfl 33 _ _ rfl w4.heap.size rfl x.cs rfl (by kernel_rfl) (PnM.cs_one _) (Blk.new w4 _ _) rfl ?_)
  intro w5 hBw5 hgw5
  have hsw5 : Below w4.heap.size w4 w5 := ((Below.refl w4.heap.size w4).alloc (Nat.le_refl _) (.cells #[.slice none 0 0, .slice none 0 0, .slice none 0 0] 33)).grown hgw5 (by simp) (fun k e => by injection e with e; omega)
  clear hgw5
  obtain ⟨t4, ht⟩ : ∃ t, t = w4.heap.size := ⟨_, rfl⟩
  have HV5 := Lib.hid (HV4.out.below hsw5)
  have HY5 := Lib.hid (ly_store hrx hsw5 hBw5)
  rw [← ht] at HY5
  have hcl : x.charge.l = [0, 0] := by
    have h1 := congrArg Pn.charge hx
    rw [fr_2] at h1
    exact h1
  have HT := Lib.hid ht
  clear hrx hsw5 hBw5 ht hx hfx HV4
  go_upto_region 4 with fail
  rw [← HT.out]
  clear HT
  have hq := HY5.out.r.charge
  have c0 := HY5.out.p.cell 0
  simp [PnM.cs] at c0
  rw [hcl] at hq c0
  obtain ⟨b0, o0, hA, _, e0⟩ := hq.at' (k := 0) (by decide)
  obtain ⟨b1, o1, hA1, _, e1⟩ := hq.at' (k := 1) (by decide)
  rw [hA] at hA1
  injection hA1 with hA1
  injection hA1 with q1 q2
  subst q1 q2
  rw [hA] at c0
  simp at e0 e1 c0
  clear hq hcl hA
  go_wp2_with fail
  go_ret
  exact ⟨by simp, HV5.out.bel⟩
end Go.Proofs.Ytnppngaabfhkpaa
