/-
  The law PlanChecks, walked.
-/
import Derived.Test.YtdheockmphdakaaQP18
namespace Go.Proofs.Ytdheockmphdakaa
open Go.RowKit
attribute [local go_sem ↓] Go.wp_at_zero Go.wp_at_succ

set_option maxRecDepth 100000 in
set_option maxHeartbeats 64000000 in
theorem pchecks_law (x : PbM) (w : World) (hP0 : RPb w x) (hL0 : ∀ z ∈ x.loads, z.r.prof.length ≤ maxLen ∧ z.r.name.size ≤ maxLen ∧ -9223372036854775808 ≤ z.r.late ∧ z.r.late ≤ 9223372036854775807) (hc0 : x.loads.length ≤ x.lc) (hm0 : x.buy.l.length ≤ maxLen) :
    Calls Try.prog 3 #[x.v] w fun e w' => e = .returned (.bool true) ∧ Below w.heap.size w w' := by
  have hP := Lib.hid hP0
  have hsm := Lib.hid (fun W (h : RPb W x) => small_any x W h)
  have haw := Lib.hid awake_any
  simp only [PbM.v]
  obtain ⟨W, hW⟩ : ∃ W, W = w.alloc (.cells #[.slice x.buy.A x.buy.l.length x.buy.c, .slice x.sell.A x.sell.l.length x.sell.c, .int .i64 x.fuse, .slice x.solar.A x.solar.l.length x.solar.c, .slice x.demand.A x.demand.l.length x.demand.c, .slice x.outside.A x.outside.l.length x.outside.c, .int .i64 x.bat.cap, .int .i64 x.bat.reserve, .int .i64 x.bat.charge, .int .i64 x.bat.discharge, .int .i64 x.bat.eff, .int .i64 x.gain, .int .i64 x.loss, .int .i64 x.steps, .int .i64 x.power, .slice x.low.A x.low.l.length x.low.c, .slice x.high.A x.high.l.length x.high.c, .slice x.LA x.loads.length x.lc, .int .i64 x.level, .int .i64 x.temp] 31) := ⟨_, rfl⟩
  have hst : Hid (Blk W w.heap.size 31 x.cs ∧ Below w.heap.size w W) := by
    show _ ∧ _
    rw [hW]
    exact ⟨Blk.new _ _ _, (Below.refl _ _).alloc (Nat.le_refl _) _⟩
  have hWH := Lib.hid hW
  clear hW hP0
  cases qs : smallM x
  · rw [qs] at hsm
    go_enter Try.func3, Try.ntmps3
    go_upto_region 1 with fail
    rw [← hWH.out]
    clear hWH
    go_wp2_with (refine wpList_load_problem rfl _ rfl w.heap.size rfl x (hst.out.1) ?_)
    refine (hsm.out _ (hP.out.below hst.out.2)).mono ?_
    rintro e w1 ⟨rfl, hb1⟩
    have HX1 := Lib.hid (hst.out.2.trans (hb1.mono hst.out.2.size))
    clear hb1
    go_wp2_with fail
    refine (haw.out _).mono ?_
    rintro e w2 ⟨rfl, hb2⟩
    have HX2 := Lib.hid (HX1.out.trans (hb2.mono HX1.out.size))
    clear hb2
    go_wp2_with fail
    go_ret
    exact ⟨rfl, HX2.out⟩
  · rw [qs] at hsm
    have hF := fit_of qs hL0 hc0 hm0
    have hc1 := Lib.hid (fun W (h : RPb W x) => pcheck_any x W h hF)
    have hc2 := Lib.hid (fun W (h : RPb W x) => rpcheck_any x W h hF)
    generalize x.p.chk = ck at *
    clear qs hL0 hc0 hm0 hF
    go_enter Try.func3, Try.ntmps3
    go_upto_region 1 with fail
    rw [← hWH.out]
    clear hWH
    go_wp2_with (refine wpList_load_problem rfl _ rfl w.heap.size rfl x (hst.out.1) ?_)
    refine (hsm.out _ (hP.out.below hst.out.2)).mono ?_
    rintro e w1 ⟨rfl, hb1⟩
    have HX1 : Hid (Blk w1 w.heap.size 31 x.cs ∧ Below w.heap.size w w1) := ⟨hst.out.1.below hb1 hst.out.1.lt, hst.out.2.trans (hb1.mono hst.out.2.size)⟩
    clear hb1 hst
    have HK2 : Hid (∀ W', Below w1.heap.size w1 W' → Below w1.heap.size w1 W' ∧ Blk W' w.heap.size 31 x.cs) := fun W' hb => ⟨hb, HX1.out.1.below hb HX1.out.1.lt⟩
    have HRP : Hid (∀ W', Below w1.heap.size w1 W' → RPb W' x) := fun W' hb => (hP.out.below HX1.out.2).below hb
    have e1 : (ck == ck) = true := by simp
    go_wp2_with fail
    refine wp_region_held_drew (S := (fun w' => Below w1.heap.size w1 w' ∧ Blk w' w.heap.size 31 x.cs)) (by kernel_rfl) (HK2.out _ (Below.drew (Below.refl _ _))) (fun hHeld => ?_)
    refine wpAnyH_take (i := 0) (v := .agg x.cs) rfl (by kernel_rfl) (by kernel_rfl) (by kernel_rfl) (fun _ _ _ h => h) (yieldsIf_load_blk (by rfl) 31 (by kernel_rfl) (by kernel_rfl) _ rfl w.heap.size rfl (fun _ h => h.2)) (by assumption) ?_
    (try simp only [List.getElem_toArray, List.getElem_cons_zero, Act.put, List.setIfInBounds_toArray, List.set_cons_zero, List.set_cons_succ])
    refine wpAnyH_take (i := 2) (v := .agg x.cs) rfl (by kernel_rfl) (by kernel_rfl) (by kernel_rfl) (fun _ _ _ h => h) (yieldsIf_load_blk (by rfl) 31 (by kernel_rfl) (by kernel_rfl) _ rfl w.heap.size rfl (fun _ h => h.2)) (by assumption) ?_
    (try simp only [List.getElem_toArray, List.getElem_cons_zero, List.getElem_cons_succ, Act.put, List.setIfInBounds_toArray, List.set_cons_zero, List.set_cons_succ])
    refine wpAnyH_ready (rs := [1]) (by kernel_rfl) (by simp) ?_
    refine AllReadyH.cons rfl (fun K hK => ?_) AllReadyH.nil
    have HKK := Lib.hid hK
    clear hK
    go_simp
    (go_at_call 12; refine (hc1.out _ (HRP.out _ hHeld.1)).mono ?_; rintro e' w6 ⟨rfl, hb6⟩)
    go_wp2_with fail
    refine HKK.out _ _ (by first | exact HK2.out _ (below_al hHeld.1) | exact HK2.out _ hHeld.1 | exact HK2.out _ (below_tr hHeld.1 (by assumption))) (fun hH2 => ?_)
    clear HKK K
    replace hHeld := hH2
    clear hH2
    (try simp only [List.getElem_toArray, List.getElem_cons_zero, List.getElem_cons_succ, Act.put, List.setIfInBounds_toArray, List.set_cons_zero, List.set_cons_succ])
    refine wpAnyH_ready (rs := [3]) (by kernel_rfl) (by simp) ?_
    refine AllReadyH.cons rfl (fun K hK => ?_) AllReadyH.nil
    have HKK := Lib.hid hK
    clear hK
    go_simp
    (go_at_call 13; refine (hc2.out _ (HRP.out _ hHeld.1)).mono ?_; rintro e' w7 ⟨rfl, hb7⟩)
    go_wp2_with fail
    refine HKK.out _ _ (by first | exact HK2.out _ (below_al hHeld.1) | exact HK2.out _ hHeld.1 | exact HK2.out _ (below_tr hHeld.1 (by assumption))) (fun hH2 => ?_)
    clear HKK K
    replace hHeld := hH2
    clear hH2
    (try simp only [List.getElem_toArray, List.getElem_cons_zero, List.getElem_cons_succ, Act.put, List.setIfInBounds_toArray, List.set_cons_zero, List.set_cons_succ])
    refine wpAnyH_take (i := 4) (v := ?_) rfl (by kernel_rfl) (by kernel_rfl) (by kernel_rfl) (fun _ _ _ h => h) (Or.inl ⟨by rfl, ?_⟩) (by assumption) ?_
    rotate_left
    · (intro w' hSw; (try dsimp only at hSw); go_simp; try with_reducible rfl)
    (try simp only [List.getElem_toArray, List.getElem_cons_zero, List.getElem_cons_succ, Act.put, List.setIfInBounds_toArray, List.set_cons_zero, List.set_cons_succ])
    refine wpAnyH_take (i := 5) (v := ?_) rfl (by kernel_rfl) (by kernel_rfl) (by kernel_rfl) (fun _ _ _ h => h) (Or.inl ⟨by rfl, ?_⟩) (by assumption) ?_
    rotate_left
    · (intro w' hSw; (try dsimp only at hSw); go_simp; try with_reducible rfl)
    (try simp only [List.getElem_toArray, List.getElem_cons_zero, List.getElem_cons_succ, Act.put, List.setIfInBounds_toArray, List.set_cons_zero, List.set_cons_succ])
    refine wpAnyH_ready (rs := [6]) (by kernel_rfl) (by simp) ?_
    refine AllReadyH.cons rfl (fun K hK => ?_) AllReadyH.nil
    have HKK := Lib.hid hK
    clear hK
    go_simp
    (go_at_call 11; refine (haw.out _).mono ?_; rintro e' w8 ⟨rfl, hb8⟩)
    go_wp2_with fail
    refine HKK.out _ _ (by first | exact HK2.out _ (below_al hHeld.1) | exact HK2.out _ hHeld.1 | exact HK2.out _ (below_tr hHeld.1 (by assumption))) (fun hH2 => ?_)
    clear HKK K
    replace hHeld := hH2
    clear hH2
    (try simp only [List.getElem_toArray, List.getElem_cons_zero, List.getElem_cons_succ, Act.put, List.setIfInBounds_toArray, List.set_cons_zero, List.set_cons_succ])
    refine wpAnyH_take (i := 7) (v := ?_) rfl (by kernel_rfl) (by kernel_rfl) (by kernel_rfl) (fun _ _ _ h => h) (Or.inl ⟨by rfl, ?_⟩) (by assumption) ?_
    rotate_left
    · (intro w' hSw; (try dsimp only at hSw); go_simp; try with_reducible rfl)
    (try simp only [List.getElem_toArray, List.getElem_cons_zero, List.getElem_cons_succ, Act.put, List.setIfInBounds_toArray, List.set_cons_zero, List.set_cons_succ])
    refine wpAnyH_take (i := 8) (v := ?_) rfl (by kernel_rfl) (by kernel_rfl) (by kernel_rfl) (fun _ _ _ h => h) (Or.inl ⟨by rfl, ?_⟩) (by assumption) ?_
    rotate_left
    · (intro w' hSw; (try dsimp only at hSw); go_simp; try with_reducible rfl)
    (try simp only [List.getElem_toArray, List.getElem_cons_zero, List.getElem_cons_succ, Act.put, List.setIfInBounds_toArray, List.set_cons_zero, List.set_cons_succ])
    refine wpAnyH_done (by kernel_rfl) ?_ _
    go_wp2_with fail
    go_ret
    exact ⟨by simp, HX1.out.2.trans (hHeld.1.mono HX1.out.2.size)⟩
end Go.Proofs.Ytdheockmphdakaa
