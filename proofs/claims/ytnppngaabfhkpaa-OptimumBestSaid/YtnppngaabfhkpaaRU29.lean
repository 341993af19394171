/-
  The law OptimumBest, walked.
-/
import Derived.Test.YtnppngaabfhkpaaRU27
import Derived.Test.YtnppngaabfhkpaaRU20
namespace Go.Proofs.Ytnppngaabfhkpaa
open Go.RowKit
attribute [local go_sem ↓] Go.wp_at_zero Go.wp_at_succ

theorem Pb.best_none0 {p : Pb} (h : p.bestE ≠ 0) : p.best = Pn.zero := by
  by_cases hc : p.chk = 0
  · cases hl : p.lim
    · exact (Pb.best_lim hc hl).1
    · obtain ⟨h1, h2⟩ := Pb.best_run hc hl
      rw [h1]
      refine Pb.search_none ?_
      rw [h2] at h
      split at h
      · assumption
      · exact absurd rfl h
  · exact (Pb.best_chk hc).1
theorem Pb.best_len (p : Pb) : p.best.charge.length ≤ 96 ∧ p.best.heat.length ≤ 96 ∧ p.best.start.length ≤ 4 := by
  by_cases h : p.bestE = 0
  · obtain ⟨hc, _, hb, _, _⟩ := Pb.best_top h
    obtain ⟨e1, e2, e3, _⟩ := Pb.feasible hb
    have g := Pb.good hc
    have h1 := (Pb.nbd g).2
    have h2 := Pb.loads4 g
    omega
  · rw [Pb.best_none0 h]
    simp [Pn.zero]

set_option maxRecDepth 100000 in
set_option maxHeartbeats 16000000 in
theorem ofew_any (x : PbM) (w : World) (hP0 : RPb w x) (hF0 : x.Fit) (hld : x.loads.length ≤ 1000) :
    Calls Try.prog 24 #[x.v] w (GuardOut True w) := by
  have hP := Lib.hid hP0
  have hst0 := PB.start x w
  simp only [PbM.v]
  obtain ⟨W, hW⟩ : ∃ W, W = w.alloc (.cells #[.slice x.buy.A x.buy.l.length x.buy.c, .slice x.sell.A x.sell.l.length x.sell.c, .int .i64 x.fuse, .slice x.solar.A x.solar.l.length x.solar.c, .slice x.demand.A x.demand.l.length x.demand.c, .slice x.outside.A x.outside.l.length x.outside.c, .int .i64 x.bat.cap, .int .i64 x.bat.reserve, .int .i64 x.bat.charge, .int .i64 x.bat.discharge, .int .i64 x.bat.eff, .int .i64 x.gain, .int .i64 x.loss, .int .i64 x.steps, .int .i64 x.power, .slice x.low.A x.low.l.length x.low.c, .slice x.high.A x.high.l.length x.high.c, .slice x.LA x.loads.length x.lc, .int .i64 x.level, .int .i64 x.temp] 31) := ⟨_, rfl⟩
  rw [show w.alloc (.cells x.cs 31) = W from hW.symm] at hst0
  have hst := Lib.hid hst0
  have HN := Lib.hid hF0.names
  have hWH := Lib.hid hW
  clear hst0 hW hP0 hF0
  go_enter Try.func24, Try.ntmps24
  go_upto_region 1 with fail
  rw [← hWH.out]
  clear hWH
  go_wp2_with fail
  go_loopw [3, 4] (fun s3 s4 wr => ∃ (k : Nat) (n : Int), k ≤ x.loads.length ∧ s3 = .int .i64 n ∧ s4 = .int .i64 k ∧ Hid (PB x w wr))
    (fun _ s4 _ => x.loads.length - (intOf s4).toNat)
  case atStart => exact ⟨0, 1, by omega, rfl, rfl, hst.out⟩
  case round =>
    clear hst
    obtain ⟨k, n, hk, rfl, rfl, hX⟩ := hrel
    obtain ⟨wo, hwo⟩ : ∃ wo : World, wo = wr := ⟨_, rfl⟩
    subst hwo
    have c0 := hX.out.p.cell 0
    have c17 := hX.out.p.cell 17
    simp [PbM.cs] at c0 c17
    by_cases hlt : k < x.loads.length
    · obtain ⟨bL, oL, hAe, _, y0, y1, y2, y3⟩ := (hX.out.pr hP.out).loads.at' hlt
      have HPF := Lib.hid ((hX.out.pr hP.out).loads.prof hlt)
      have hst := fun W (q : RInts W x.loads[k].A x.loads[k].r.prof) => rlstarts_any x.loads[k].r x.loads[k].A x.loads[k].c x.buy.l.length W q (HN.out _ (List.getElem_mem hlt))
      have hsl := starts_len x.loads[k].r x.buy.l.length
      have i1 : (0 : Int) ≤ (k : Int) := by omega
      have i2 : (k : Int) < (x.loads.length : Int) := by omega
      simp only [Ld.v] at hst
      generalize x.loads[k] = X at *
      generalize X.r.starts x.buy.l.length = L at *
      have HST := Lib.hid hst
      have HSL := Lib.hid hsl
      clear hst hsl
      rw [hAe] at c17
      clear hAe
      go_upto_region 5 with fail
      refine wp_region_held_drew (S := (fun w' => w'.cell? ⟨w.heap.size, 17, none⟩ = some (.slice (some ⟨bL, oL, none⟩) x.loads.length x.lc) ∧ w'.cell? ⟨w.heap.size, 0, none⟩ = some (.slice x.buy.A x.buy.l.length x.buy.c) ∧ w'.cell? ⟨bL, oL + k * 4, none⟩ = some (.string X.r.name) ∧ w'.cell? ⟨bL, oL + k * 4 + 1, none⟩ = some (.slice X.A X.r.prof.length X.c) ∧ w'.cell? ⟨bL, oL + k * 4 + 2, none⟩ = some (.int .i64 X.r.early) ∧ w'.cell? ⟨bL, oL + k * 4 + 3, none⟩ = some (.int .i64 X.r.late))) (by kernel_rfl) ⟨c17, c0, y0, y1, y2, y3⟩ (fun hHeld => ?_)
      refine wpAnyH_take (i := 0) (v := ?_) rfl (by kernel_rfl) (by kernel_rfl) (by kernel_rfl) (fun _ _ _ h => h) (Or.inl ⟨by rfl, ?_⟩) (by assumption) ?_
      rotate_left
      · (intro w' hSw; (try dsimp only at hSw); go_simp; try with_reducible rfl)
      (try simp only [List.getElem_toArray, List.getElem_cons_zero, Act.put, List.setIfInBounds_toArray, List.set_cons_zero, List.set_cons_succ])
      refine wpAnyH_take (i := 1) (v := ?_) rfl (by kernel_rfl) (by kernel_rfl) (by kernel_rfl) (fun _ _ _ h => h) (Or.inl ⟨by rfl, ?_⟩) (by assumption) ?_
      rotate_left
      · (intro w' hSw; (try dsimp only at hSw); go_simp; try with_reducible rfl)
      (try simp only [List.getElem_toArray, List.getElem_cons_zero, List.getElem_cons_succ, Act.put, List.setIfInBounds_toArray, List.set_cons_zero, List.set_cons_succ])
      refine wpAnyH_take (i := 2) (v := ?_) rfl (by kernel_rfl) (by kernel_rfl) (by kernel_rfl) (fun _ _ _ h => h) (Or.inl ⟨by rfl, ?_⟩) (by assumption) ?_
      rotate_left
      · (intro w' hSw; (try dsimp only at hSw); go_simp; try with_reducible rfl)
      (try simp only [List.getElem_toArray, List.getElem_cons_zero, List.getElem_cons_succ, Act.put, List.setIfInBounds_toArray, List.set_cons_zero, List.set_cons_succ])
      refine wpAnyH_take (i := 3) (v := ?_) rfl (by kernel_rfl) (by kernel_rfl) (by kernel_rfl) (fun _ _ _ h => h) (Or.inl ⟨by rfl, ?_⟩) (by assumption) ?_
      rotate_left
      · (intro w' hSw; (try dsimp only at hSw); go_simp; try with_reducible rfl)
      (try simp only [List.getElem_toArray, List.getElem_cons_zero, List.getElem_cons_succ, Act.put, List.setIfInBounds_toArray, List.set_cons_zero, List.set_cons_succ])
      refine wpAnyH_take (i := 4) (v := ?_) rfl (by kernel_rfl) (by kernel_rfl) (by kernel_rfl) (fun _ _ _ h => h) (Or.inl ⟨by rfl, ?_⟩) (by assumption) ?_
      rotate_left
      · (intro w' hSw; (try dsimp only at hSw); go_simp; try with_reducible rfl)
      (try simp only [List.getElem_toArray, List.getElem_cons_zero, List.getElem_cons_succ, Act.put, List.setIfInBounds_toArray, List.set_cons_zero, List.set_cons_succ])
      refine wpAnyH_take (i := 5) (v := ?_) rfl (by kernel_rfl) (by kernel_rfl) (by kernel_rfl) (fun _ _ _ h => h) (Or.inl ⟨by rfl, ?_⟩) (by assumption) ?_
      rotate_left
      · (intro w' hSw; (try dsimp only at hSw); go_simp; try with_reducible rfl)
      (try simp only [List.getElem_toArray, List.getElem_cons_zero, List.getElem_cons_succ, Act.put, List.setIfInBounds_toArray, List.set_cons_zero, List.set_cons_succ])
      refine wpAnyH_take (i := 6) (v := ?_) rfl (by kernel_rfl) (by kernel_rfl) (by kernel_rfl) (fun _ _ _ h => h) (Or.inl ⟨by rfl, ?_⟩) (by assumption) ?_
      rotate_left
      · (intro w' hSw; (try dsimp only at hSw); go_simp; try with_reducible rfl)
      (try simp only [List.getElem_toArray, List.getElem_cons_zero, List.getElem_cons_succ, Act.put, List.setIfInBounds_toArray, List.set_cons_zero, List.set_cons_succ])
      refine wpAnyH_take (i := 7) (v := ?_) rfl (by kernel_rfl) (by kernel_rfl) (by kernel_rfl) (fun _ _ _ h => h) (Or.inl ⟨by rfl, ?_⟩) (by assumption) ?_
      rotate_left
      · (intro w' hSw; (try dsimp only at hSw); go_simp; try with_reducible rfl)
      (try simp only [List.getElem_toArray, List.getElem_cons_zero, List.getElem_cons_succ, Act.put, List.setIfInBounds_toArray, List.set_cons_zero, List.set_cons_succ])
      refine wpAnyH_take (i := 8) (v := ?_) rfl (by kernel_rfl) (by kernel_rfl) (by kernel_rfl) (fun _ _ _ h => h) (Or.inl ⟨by rfl, ?_⟩) (by assumption) ?_
      rotate_left
      · (intro w' hSw; (try dsimp only at hSw); go_simp; try with_reducible rfl)
      (try simp only [List.getElem_toArray, List.getElem_cons_zero, List.getElem_cons_succ, Act.put, List.setIfInBounds_toArray, List.set_cons_zero, List.set_cons_succ])
      refine wpAnyH_take (i := 9) (v := ?_) rfl (by kernel_rfl) (by kernel_rfl) (by kernel_rfl) (fun _ _ _ h => h) (Or.inl ⟨by rfl, ?_⟩) (by assumption) ?_
      rotate_left
      · (intro w' hSw; (try dsimp only at hSw); go_simp; try with_reducible rfl)
      (try simp only [List.getElem_toArray, List.getElem_cons_zero, List.getElem_cons_succ, Act.put, List.setIfInBounds_toArray, List.set_cons_zero, List.set_cons_succ])
      refine wpAnyH_ready (rs := [10]) (by kernel_rfl) (by simp) ?_
      refine (AllReadyH.cons rfl (fun K hK => ?_) AllReadyH.nil)
      have HKK := Lib.hid hK
      clear hK
      go_simp
      refine (HST.out _ (HPF.out.below (Below.drew (Below.refl _ _)))).mono ?_
      rintro e' w3 ⟨AL, cL, rfl, hrl, hfl, hb3⟩
      have hBw3 : Below wo.heap.size wo w3 := below_tr (Below.drew (Below.refl _ _)) hb3
      go_wp2_with fail
      refine HKK.out _ _ (⟨cell_below c17 hBw3, cell_below c0 hBw3, cell_below y0 hBw3, cell_below y1 hBw3, cell_below y2 hBw3, cell_below y3 hBw3⟩) (fun hH2 => ?_)
      clear HKK K
      replace hHeld := hH2
      clear hH2
      (try simp only [List.getElem_toArray, List.getElem_cons_zero, List.getElem_cons_succ, Act.put, List.setIfInBounds_toArray, List.set_cons_zero, List.set_cons_succ])
      refine wpAnyH_take (i := 11) (v := ?_) rfl (by kernel_rfl) (by kernel_rfl) (by kernel_rfl) (fun _ _ _ h => h) (Or.inl ⟨by rfl, ?_⟩) (by assumption) ?_
      rotate_left
      · (intro w' hSw; (try dsimp only at hSw); go_simp; try with_reducible rfl)
      (try simp only [List.getElem_toArray, List.getElem_cons_zero, List.getElem_cons_succ, Act.put, List.setIfInBounds_toArray, List.set_cons_zero, List.set_cons_succ])
      refine wpAnyH_take (i := 12) (v := ?_) rfl (by kernel_rfl) (by kernel_rfl) (by kernel_rfl) (fun _ _ _ h => h) (Or.inl ⟨by rfl, ?_⟩) (by assumption) ?_
      rotate_left
      · (intro w' hSw; (try dsimp only at hSw); go_simp; try with_reducible rfl)
      (try simp only [List.getElem_toArray, List.getElem_cons_zero, List.getElem_cons_succ, Act.put, List.setIfInBounds_toArray, List.set_cons_zero, List.set_cons_succ])
      refine wpAnyH_take (i := 13) (v := ?_) rfl (by kernel_rfl) (by kernel_rfl) (by kernel_rfl) (fun _ _ _ h => h) (Or.inl ⟨by rfl, ?_⟩) (by assumption) ?_
      rotate_left
      · (intro w' hSw; (try dsimp only at hSw); go_simp; try with_reducible rfl)
      (try simp only [List.getElem_toArray, List.getElem_cons_zero, List.getElem_cons_succ, Act.put, List.setIfInBounds_toArray, List.set_cons_zero, List.set_cons_succ])
      refine wpAnyH_take (i := 14) (v := ?_) rfl (by kernel_rfl) (by kernel_rfl) (by kernel_rfl) (fun _ _ _ h => h) (Or.inl ⟨by rfl, ?_⟩) (by assumption) ?_
      rotate_left
      · (intro w' hSw; (try dsimp only at hSw); go_simp; try with_reducible rfl)
      (try simp only [List.getElem_toArray, List.getElem_cons_zero, List.getElem_cons_succ, Act.put, List.setIfInBounds_toArray, List.set_cons_zero, List.set_cons_succ])
      refine wpAnyH_done (by kernel_rfl) ?_ _
      clear c0 c17 y0 y1 y2 y3 hHeld
      go_wp2_with fail
      go_roundw
      case rel => exact ⟨k + 1, _, by omega, rfl, by go_num, hX.out.below hBw3⟩
      case measure => simp [intOf]; omega
    · go_wp2_with fail
      go_ret
      exact ⟨_, rfl, fun _ => trivial, hX.out.bel⟩

set_option maxRecDepth 100000 in
set_option maxHeartbeats 16000000 in
theorem osame_any (m1 m2 : PnM) (w : World) (h1 : RPn w m1) (h2 : RPn w m2) (he : m1.x = m2.x) (hc : m1.x.charge.length ≤ 96) (hh : m1.x.heat.length ≤ 96) (hs : m1.x.start.length ≤ 4) :
    Calls Try.prog 28 #[m1.v, m2.v] w fun e w' => e = .returned (.bool true) ∧ Below w.heap.size w w' := by
  have H1 := Lib.hid h1
  have H2 := Lib.hid h2
  have hc1 := fun W (q1 : RInts W m1.charge.A m1.charge.l) (q2 : RInts W m2.charge.A m2.charge.l) => same_true (c := m1.charge.c) (d := m2.charge.c) m1.charge.l m2.charge.l (w := W) rfl rfl q1 q2 (by have : m1.charge.l.length ≤ 96 := hc; omega) (congrArg Pn.charge he)
  have hc2 := fun W (q1 : RInts W m1.heat.A m1.heat.l) (q2 : RInts W m2.heat.A m2.heat.l) => same_true (c := m1.heat.c) (d := m2.heat.c) m1.heat.l m2.heat.l (w := W) rfl rfl q1 q2 (by have : m1.heat.l.length ≤ 96 := hh; omega) (congrArg Pn.heat he)
  have hc3 := fun W (q1 : RInts W m1.start.A m1.start.l) (q2 : RInts W m2.start.A m2.start.l) => same_true (c := m1.start.c) (d := m2.start.c) m1.start.l m2.start.l (w := W) rfl rfl q1 q2 (by have : m1.start.l.length ≤ 4 := hs; omega) (congrArg Pn.start he)
  have HC1 := Lib.hid hc1
  have HC2 := Lib.hid hc2
  have HC3 := Lib.hid hc3
  obtain ⟨q1, q2, _, q4⟩ := two_boxes (w := w) (cs := m1.cs) (t := 33) (cs2 := m2.cs) (t2 := 33) (Below.refl _ _)
  simp only [PnM.v]
  obtain ⟨W, hW⟩ : ∃ W, W = (w.alloc (.cells #[.slice m1.charge.A m1.charge.l.length m1.charge.c, .slice m1.heat.A m1.heat.l.length m1.heat.c, .slice m1.start.A m1.start.l.length m1.start.c] 33)).alloc (.cells #[.slice m2.charge.A m2.charge.l.length m2.charge.c, .slice m2.heat.A m2.heat.l.length m2.heat.c, .slice m2.start.A m2.start.l.length m2.start.c] 33) := ⟨_, rfl⟩
  rw [show (w.alloc (.cells m1.cs 33)).alloc (.cells m2.cs 33) = W from hW.symm] at q1 q2 q4
  have HQ1 := Lib.hid q1
  have HQ2 := Lib.hid q2
  have HB := Lib.hid q4
  have hWH := Lib.hid hW
  clear hW h1 h2 he hc hh hs hc1 hc2 hc3 q1 q2 q4
  go_enter Try.func28, Try.ntmps28
  go_upto_region 1 with fail
  rw [← hWH.out]
  clear hWH
  have a0 := HQ1.out.cell 0
  have a1 := HQ1.out.cell 1
  have a2 := HQ1.out.cell 2
  have b0 := HQ2.out.cell 0
  have b1 := HQ2.out.cell 1
  have b2 := HQ2.out.cell 2
  simp [PnM.cs] at a0 a1 a2 b0 b1 b2
  go_wp2_with fail
  refine (HC1.out _ (H1.out.below HB.out).charge (H2.out.below HB.out).charge).mono ?_
  rintro e w1 ⟨rfl, hb1⟩
  have HB1 := Lib.hid (HB.out.trans (hb1.mono HB.out.size))
  have a1 := cell_below a1 hb1
  have a2 := cell_below a2 hb1
  have b1 := cell_below b1 hb1
  have b2 := cell_below b2 hb1
  clear hb1
  go_wp2_with fail
  refine (HC2.out _ (H1.out.below HB1.out).heat (H2.out.below HB1.out).heat).mono ?_
  rintro e w2 ⟨rfl, hb2⟩
  have HB2 := Lib.hid (HB1.out.trans (hb2.mono HB1.out.size))
  have a2 := cell_below a2 hb2
  have b2 := cell_below b2 hb2
  clear hb2
  go_wp2_with fail
  refine (HC3.out _ (H1.out.below HB2.out).start (H2.out.below HB2.out).start).mono ?_
  rintro e w3 ⟨rfl, hb3⟩
  have HB3 := Lib.hid (HB2.out.trans (hb3.mono HB2.out.size))
  clear hb3
  go_wp2_with fail
  go_ret
  exact ⟨rfl, HB3.out⟩

set_option maxRecDepth 100000 in
set_option maxHeartbeats 64000000 in
theorem obest_law (x : PbM) (w : World) (hP0 : RPb w x) (hL0 : ∀ z ∈ x.loads, z.r.prof.length ≤ maxLen ∧ z.r.name.size ≤ maxLen ∧ -9223372036854775808 ≤ z.r.late ∧ z.r.late ≤ 9223372036854775807) (hc0 : x.loads.length ≤ x.lc) (hm0 : x.buy.l.length ≤ maxLen) :
    Calls Try.prog 5 #[x.v] w fun e w' => e = .returned (.bool true) ∧ Below w.heap.size w w' := by
  have hF0 : x.Fit := ⟨fun y h => (hL0 y h).2.1, fun y h => (hL0 y h).1, hc0, hm0, fun y h => (hL0 y h).2.2⟩
  have hP := Lib.hid hP0
  have hlv := Lib.hid lives_any
  have hgr := Lib.hid (great_any x 3 12)
  have hfw := Lib.hid (fun (l : x.loads.length ≤ 1000) W (h : RPb W x) => ofew_any x W h hF0 l)
  have hck0 := fun W (h : RPb W x) => rpcheck_any x W h hF0
  have hbe := fun W (h : RPb W x) => best_any x W h hF0
  have hrb := fun W (h : RPb W x) => rbest_any x W h hF0
  have hco := fun W (h : RPb W x) => ocost_any x W h hF0
  have hsm := fun (m1 m2 : PnM) W (h1 : RPn W m1) (h2 : RPn W m2) (e1 : m1.x = x.p.best) (e2 : m2.x = x.p.best) => osame_any m1 m2 W h1 h2 (e1.trans e2.symm) (by rw [e1]; exact (Pb.best_len x.p).1) (by rw [e1]; exact (Pb.best_len x.p).2.1) (by rw [e1]; exact (Pb.best_len x.p).2.2)
  have hru := fun (m : PnM) W (h : RPb W x) (h2 : RPn W m) (f : m.Fit) (hm : m.x = x.p.best) => (by have h := rrun_any x m W h h2 hF0 f; rw [hm] at h; exact h : Calls Try.prog 29 #[x.v, m.v] W (RunOut (x.p.trace x.p.best) (x.p.err x.p.best) W))
  have hoc : (x.p.bestE = 0 → x.p.oc = (x.p.trace x.p.best).cost) ∧ (x.p.bestE ≠ 0 → x.p.oc = 0) := ⟨fun h => by unfold Pb.oc; rw [if_pos h], fun h => by unfold Pb.oc; rw [if_neg h]⟩
  have hst0 := PB.start x w
  simp only [PbM.v]
  obtain ⟨W, hW⟩ : ∃ W, W = w.alloc (.cells #[.slice x.buy.A x.buy.l.length x.buy.c, .slice x.sell.A x.sell.l.length x.sell.c, .int .i64 x.fuse, .slice x.solar.A x.solar.l.length x.solar.c, .slice x.demand.A x.demand.l.length x.demand.c, .slice x.outside.A x.outside.l.length x.outside.c, .int .i64 x.bat.cap, .int .i64 x.bat.reserve, .int .i64 x.bat.charge, .int .i64 x.bat.discharge, .int .i64 x.bat.eff, .int .i64 x.gain, .int .i64 x.loss, .int .i64 x.steps, .int .i64 x.power, .slice x.low.A x.low.l.length x.low.c, .slice x.high.A x.high.l.length x.high.c, .slice x.LA x.loads.length x.lc, .int .i64 x.level, .int .i64 x.temp] 31) := ⟨_, rfl⟩
  rw [show w.alloc (.cells x.cs 31) = W from hW.symm] at hst0
  have hst := Lib.hid hst0
  have hWH := Lib.hid hW
  generalize x.p.bestE = be at *
  generalize x.p.oc = oc at *
  generalize x.p.chk = ck at *
  generalize x.p.trace x.p.best = tb at *
  generalize x.p.err x.p.best = eb at *
  generalize x.p.best = bp at *
  have HCK := Lib.hid hck0
  have HBE := Lib.hid hbe
  have HRB := Lib.hid hrb
  have HCO := Lib.hid hco
  have HSM := Lib.hid hsm
  have HRU := Lib.hid hru
  have HOC := Lib.hid hoc
  have c0 := hst0.p.cell 0
  have c17 := hst0.p.cell 17
  simp [PbM.cs] at c0 c17
  clear hst0 hW hP0 hL0 hc0 hm0 hF0 hck0 hbe hrb hco hsm hru hoc
  go_enter Try.func5, Try.ntmps5
  go_upto_region 1 with fail
  rw [← hWH.out]
  clear hWH
  by_cases h1 : (200 : Int) < (x.buy.l.length : Int)
  · go_wp2_with fail
    refine (hlv.out _).mono ?_
    rintro e wl ⟨rfl, hbl⟩
    go_wp2_with fail
    go_ret
    exact ⟨rfl, hst.out.bel.trans (hbl.mono hst.out.bel.size)⟩
  · by_cases h2 : (20 : Int) < (x.loads.length : Int)
    · go_wp2_with fail
      refine (hlv.out _).mono ?_
      rintro e wl ⟨rfl, hbl⟩
      go_wp2_with fail
      go_ret
      exact ⟨rfl, hst.out.bel.trans (hbl.mono hst.out.bel.size)⟩
    · go_wp2_with (refine wpList_load_problemG (by rfl) _ rfl w.heap.size rfl x hst.out.p ?_)
      refine (hgr.out _).mono ?_
      rintro e w1 ⟨g1, rfl, _, hb1⟩
      have HX1 := Lib.hid (hst.out.below hb1)
      have hl20 : x.loads.length ≤ 1000 := by omega
      clear hb1 hst hgr h1 h2
      cases g1
      · go_wp2_with (refine wpList_load_problemG (by rfl) _ rfl w.heap.size rfl x HX1.out.p ?_)
        refine (hfw.out hl20 _ (HX1.out.pr hP.out)).mono ?_
        rintro e w2 ⟨g2, rfl, _, hb2⟩
        have HX2 := Lib.hid (HX1.out.below hb2)
        clear hb2 HX1 hfw hl20
        cases g2
        · go_wp2_with (refine wpList_load_problemG (by rfl) _ rfl w.heap.size rfl x HX2.out.p ?_)
          refine (HCK.out _ (HX2.out.pr hP.out)).mono ?_
          rintro e w3 ⟨rfl, hb3⟩
          have HX2b := Lib.hid (HX2.out.below hb3)
          clear hb3 HX2 HCK
          by_cases hk : ck = 0
          · have e0 : (ck == 0) = true := by simp [hk]
            clear hk
            go_wp2_with fail
            refine (hlv.out _).mono ?_
            rintro e wl ⟨rfl, hbl⟩
            go_wp2_with fail
            go_ret
            exact ⟨rfl, HX2b.out.bel.trans (hbl.mono HX2b.out.bel.size)⟩
          · have e0 : (ck == 0) = false := by simp [hk]
            clear hk
            have HX3 := HX2b
            clear c0 c17
            go_upto_region 3 with fail
            go_wp2_with (refine wpList_load_problemG (by rfl) _ rfl w.heap.size rfl x HX3.out.p ?_)
            refine (HBE.out _ (HX3.out.pr hP.out)).mono ?_
            rintro e w5 ⟨m1, hm1, rfl, hr1, hf1, _, hb5⟩
            have HX5 := Lib.hid (HX3.out.below hb5)
            clear hb5 HX3
            go_wp2_with (refine wpList_store_blk rfl 33 _ _ rfl w5.heap.size rfl m1.cs rfl (by kernel_rfl) (PnM.cs_one _) (Blk.new w5 _ _) rfl ?_)
            intro w6 hB6 hg6
            have hs6 : Below w5.heap.size w5 w6 := ((Below.refl w5.heap.size w5).alloc (Nat.le_refl _) (.cells #[.slice none 0 0, .slice none 0 0, .slice none 0 0] 33)).grown hg6 (by simp) (fun k e => by injection e with e; omega)
            obtain ⟨t3, ht⟩ : ∃ t, t = w5.heap.size := ⟨_, rfl⟩
            have HX6 := Lib.hid (HX5.out.below hs6)
            have HY6 := Lib.hid (ly_store hr1 hs6 hB6)
            rw [← ht] at HY6
            have HM1 := Lib.hid hm1
            have HT := Lib.hid ht
            clear hg6 hs6 hB6 hr1 hf1 hm1 ht HX5
            go_upto_region 4 with fail
            rw [← HT.out]
            clear HT
            go_wp2_with (refine wpList_load_problemG (by rfl) _ rfl w.heap.size rfl x HX6.out.p ?_)
            refine (HRB.out _ (HX6.out.pr hP.out)).mono ?_
            rintro e w7 ⟨m2, hm2, rfl, hr2, hf2, hb7⟩
            have HX7 := Lib.hid (HX6.out.below hb7)
            have HY7 := Lib.hid (HY6.out.below hb7)
            clear hb7 HX6 HY6
            go_wp2_with (refine wpList_store_blk rfl 33 _ _ rfl w7.heap.size rfl m2.cs rfl (by kernel_rfl) (PnM.cs_one _) (Blk.new w7 _ _) rfl ?_)
            intro w8 hB8 hg8
            have hs8 : Below w7.heap.size w7 w8 := ((Below.refl w7.heap.size w7).alloc (Nat.le_refl _) (.cells #[.slice none 0 0, .slice none 0 0, .slice none 0 0] 33)).grown hg8 (by simp) (fun k e => by injection e with e; omega)
            obtain ⟨t5, ht⟩ : ∃ t, t = w7.heap.size := ⟨_, rfl⟩
            have HX8 := Lib.hid (HX7.out.below hs8)
            have HY8 := Lib.hid (HY7.out.below hs8)
            have HZ8 := Lib.hid (ly_store hr2 hs8 hB8)
            rw [← ht] at HZ8
            have HM2 := Lib.hid hm2
            have HF2 := Lib.hid hf2
            have HT := Lib.hid ht
            clear hg8 hs8 hB8 hr2 hf2 hm2 ht HX7 HY7
            go_upto_region 5 with fail
            rw [← HT.out]
            clear HT
            go_wp2_with (refine wpList_load_problemG (by rfl) _ rfl w.heap.size rfl x HX8.out.p ?_)
            refine (HCO.out _ (HX8.out.pr hP.out)).mono ?_
            rintro e w9 ⟨rfl, hb9⟩
            have HX9 := Lib.hid (HX8.out.below hb9)
            have HY9 := Lib.hid (HY8.out.below hb9)
            have HZ9 := Lib.hid (HZ8.out.below hb9)
            clear hb9 HX8 HY8 HZ8
            have e1 : (be != be) = false := by simp
            go_upto_region 6 with fail
            go_wp2_with (first | refine wpList_load_planG (by rfl) _ rfl t3 rfl m1 HY9.out.p ?_ | refine wpList_load_planG (by rfl) _ rfl t5 rfl m2 HZ9.out.p ?_)
            refine (HSM.out m1 m2 _ HY9.out.r HZ9.out.r HM1.out HM2.out).mono ?_
            rintro e w10 ⟨rfl, hb10⟩
            have HX10 := Lib.hid (HX9.out.below hb10)
            have HY10 := Lib.hid (HY9.out.below hb10)
            have HZ10 := Lib.hid (HZ9.out.below hb10)
            clear hb10 HX9 HY9 HZ9 e1
            have e2 : ((be == 0) != (be == 0)) = false := by simp
            go_upto_region 8 with fail
            clear e2
            go_wp2_with (first | refine wpList_load_problemG (by rfl) _ rfl w.heap.size rfl x HX10.out.p ?_ | refine wpList_load_planG (by rfl) _ rfl t5 rfl m2 HZ10.out.p ?_)
            refine (HRU.out m2 _ (HX10.out.pr hP.out) HZ10.out.r HF2.out HM2.out).mono ?_
            rintro e w11 ⟨m, htx, rfl, hrt, hbt⟩
            have hmc : m.cost = tb.cost := congrArg Tr.cost htx
            have HMC := Lib.hid hmc
            simp only [TrM.v]
            clear htx hmc hrt
            go_upto_region 9 with fail
            obtain ⟨t9, ht⟩ : ∃ t, t = w11.heap.size := ⟨_, rfl⟩
            obtain ⟨v, hv⟩ : ∃ v, v = w11.alloc (.cells #[.slice m.net.A m.net.l.length m.net.c, .slice m.level.A m.level.l.length m.level.c, .slice m.temp.A m.temp.l.length m.temp.c, .int .i64 m.cost] 47) := ⟨_, rfl⟩
            have HX11 : Hid (PB x w v) := by show PB _ _ _; rw [hv]; exact (HX10.out.below hbt).below (below_al (Below.refl _ _))
            have HT11 : Hid (Blk v t9 47 #[.slice m.net.A m.net.l.length m.net.c, .slice m.level.A m.level.l.length m.level.c, .slice m.temp.A m.temp.l.length m.temp.c, .int .i64 m.cost]) := by show Blk _ _ _ _; rw [hv, ht]; exact Blk.new _ _ _
            rw [← hv, ← ht]
            clear hv ht hbt HX10 HY10 HZ10
            by_cases h0 : be = 0
            · have e3 : (be == 0) = true := by simp [h0]
              have e4 : oc = m.cost := by rw [HMC.out]; exact HOC.out.1 h0
              have e5 : (oc == m.cost) = true := by rw [e4]; simp
              have z3 := HT11.out.cell 3
              simp at z3
              have HE4 := Lib.hid e4
              clear h0 e4
              go_wp2_with fail
              refine (hlv.out _).mono ?_
              rintro e wl ⟨rfl, hbl⟩
              go_wp2_with fail
              go_ret
              exact ⟨rfl, HX11.out.bel.trans (hbl.mono HX11.out.bel.size)⟩
            · have e3 : (be == 0) = false := by simp [h0]
              obtain rfl : oc = 0 := HOC.out.2 h0
              clear h0
              go_wp2_with fail
              refine (hlv.out _).mono ?_
              rintro e wl ⟨rfl, hbl⟩
              go_wp2_with fail
              go_ret
              exact ⟨rfl, HX11.out.bel.trans (hbl.mono HX11.out.bel.size)⟩
        · have HX3 := HX2
          clear c0 c17
          go_upto_region 3 with fail
          go_wp2_with (refine wpList_load_problemG (by rfl) _ rfl w.heap.size rfl x HX3.out.p ?_)
          refine (HBE.out _ (HX3.out.pr hP.out)).mono ?_
          rintro e w5 ⟨m1, hm1, rfl, hr1, hf1, _, hb5⟩
          have HX5 := Lib.hid (HX3.out.below hb5)
          clear hb5 HX3
          go_wp2_with (refine wpList_store_blk rfl 33 _ _ rfl w5.heap.size rfl m1.cs rfl (by kernel_rfl) (PnM.cs_one _) (Blk.new w5 _ _) rfl ?_)
          intro w6 hB6 hg6
          have hs6 : Below w5.heap.size w5 w6 := ((Below.refl w5.heap.size w5).alloc (Nat.le_refl _) (.cells #[.slice none 0 0, .slice none 0 0, .slice none 0 0] 33)).grown hg6 (by simp) (fun k e => by injection e with e; omega)
          obtain ⟨t3, ht⟩ : ∃ t, t = w5.heap.size := ⟨_, rfl⟩
          have HX6 := Lib.hid (HX5.out.below hs6)
          have HY6 := Lib.hid (ly_store hr1 hs6 hB6)
          rw [← ht] at HY6
          have HM1 := Lib.hid hm1
          have HT := Lib.hid ht
          clear hg6 hs6 hB6 hr1 hf1 hm1 ht HX5
          go_upto_region 4 with fail
          rw [← HT.out]
          clear HT
          go_wp2_with (refine wpList_load_problemG (by rfl) _ rfl w.heap.size rfl x HX6.out.p ?_)
          refine (HRB.out _ (HX6.out.pr hP.out)).mono ?_
          rintro e w7 ⟨m2, hm2, rfl, hr2, hf2, hb7⟩
          have HX7 := Lib.hid (HX6.out.below hb7)
          have HY7 := Lib.hid (HY6.out.below hb7)
          clear hb7 HX6 HY6
          go_wp2_with (refine wpList_store_blk rfl 33 _ _ rfl w7.heap.size rfl m2.cs rfl (by kernel_rfl) (PnM.cs_one _) (Blk.new w7 _ _) rfl ?_)
          intro w8 hB8 hg8
          have hs8 : Below w7.heap.size w7 w8 := ((Below.refl w7.heap.size w7).alloc (Nat.le_refl _) (.cells #[.slice none 0 0, .slice none 0 0, .slice none 0 0] 33)).grown hg8 (by simp) (fun k e => by injection e with e; omega)
          obtain ⟨t5, ht⟩ : ∃ t, t = w7.heap.size := ⟨_, rfl⟩
          have HX8 := Lib.hid (HX7.out.below hs8)
          have HY8 := Lib.hid (HY7.out.below hs8)
          have HZ8 := Lib.hid (ly_store hr2 hs8 hB8)
          rw [← ht] at HZ8
          have HM2 := Lib.hid hm2
          have HF2 := Lib.hid hf2
          have HT := Lib.hid ht
          clear hg8 hs8 hB8 hr2 hf2 hm2 ht HX7 HY7
          go_upto_region 5 with fail
          rw [← HT.out]
          clear HT
          go_wp2_with (refine wpList_load_problemG (by rfl) _ rfl w.heap.size rfl x HX8.out.p ?_)
          refine (HCO.out _ (HX8.out.pr hP.out)).mono ?_
          rintro e w9 ⟨rfl, hb9⟩
          have HX9 := Lib.hid (HX8.out.below hb9)
          have HY9 := Lib.hid (HY8.out.below hb9)
          have HZ9 := Lib.hid (HZ8.out.below hb9)
          clear hb9 HX8 HY8 HZ8
          have e1 : (be != be) = false := by simp
          go_upto_region 6 with fail
          go_wp2_with (first | refine wpList_load_planG (by rfl) _ rfl t3 rfl m1 HY9.out.p ?_ | refine wpList_load_planG (by rfl) _ rfl t5 rfl m2 HZ9.out.p ?_)
          refine (HSM.out m1 m2 _ HY9.out.r HZ9.out.r HM1.out HM2.out).mono ?_
          rintro e w10 ⟨rfl, hb10⟩
          have HX10 := Lib.hid (HX9.out.below hb10)
          have HY10 := Lib.hid (HY9.out.below hb10)
          have HZ10 := Lib.hid (HZ9.out.below hb10)
          clear hb10 HX9 HY9 HZ9 e1
          have e2 : ((be == 0) != (be == 0)) = false := by simp
          go_upto_region 8 with fail
          clear e2
          go_wp2_with (first | refine wpList_load_problemG (by rfl) _ rfl w.heap.size rfl x HX10.out.p ?_ | refine wpList_load_planG (by rfl) _ rfl t5 rfl m2 HZ10.out.p ?_)
          refine (HRU.out m2 _ (HX10.out.pr hP.out) HZ10.out.r HF2.out HM2.out).mono ?_
          rintro e w11 ⟨m, htx, rfl, hrt, hbt⟩
          have hmc : m.cost = tb.cost := congrArg Tr.cost htx
          have HMC := Lib.hid hmc
          simp only [TrM.v]
          clear htx hmc hrt
          go_upto_region 9 with fail
          obtain ⟨t9, ht⟩ : ∃ t, t = w11.heap.size := ⟨_, rfl⟩
          obtain ⟨v, hv⟩ : ∃ v, v = w11.alloc (.cells #[.slice m.net.A m.net.l.length m.net.c, .slice m.level.A m.level.l.length m.level.c, .slice m.temp.A m.temp.l.length m.temp.c, .int .i64 m.cost] 47) := ⟨_, rfl⟩
          have HX11 : Hid (PB x w v) := by show PB _ _ _; rw [hv]; exact (HX10.out.below hbt).below (below_al (Below.refl _ _))
          have HT11 : Hid (Blk v t9 47 #[.slice m.net.A m.net.l.length m.net.c, .slice m.level.A m.level.l.length m.level.c, .slice m.temp.A m.temp.l.length m.temp.c, .int .i64 m.cost]) := by show Blk _ _ _ _; rw [hv, ht]; exact Blk.new _ _ _
          rw [← hv, ← ht]
          clear hv ht hbt HX10 HY10 HZ10
          by_cases h0 : be = 0
          · have e3 : (be == 0) = true := by simp [h0]
            have e4 : oc = m.cost := by rw [HMC.out]; exact HOC.out.1 h0
            have e5 : (oc == m.cost) = true := by rw [e4]; simp
            have z3 := HT11.out.cell 3
            simp at z3
            have HE4 := Lib.hid e4
            clear h0 e4
            go_wp2_with fail
            refine (hlv.out _).mono ?_
            rintro e wl ⟨rfl, hbl⟩
            go_wp2_with fail
            go_ret
            exact ⟨rfl, HX11.out.bel.trans (hbl.mono HX11.out.bel.size)⟩
          · have e3 : (be == 0) = false := by simp [h0]
            obtain rfl : oc = 0 := HOC.out.2 h0
            clear h0
            go_wp2_with fail
            refine (hlv.out _).mono ?_
            rintro e wl ⟨rfl, hbl⟩
            go_wp2_with fail
            go_ret
            exact ⟨rfl, HX11.out.bel.trans (hbl.mono HX11.out.bel.size)⟩
      · go_wp2_with (refine wpList_load_problemG (by rfl) _ rfl w.heap.size rfl x HX1.out.p ?_)
        refine (HCK.out _ (HX1.out.pr hP.out)).mono ?_
        rintro e w3 ⟨rfl, hb3⟩
        have HX2b := Lib.hid (HX1.out.below hb3)
        clear hb3 HX1 HCK
        by_cases hk : ck = 0
        · have e0 : (ck == 0) = true := by simp [hk]
          clear hk
          go_wp2_with fail
          refine (hlv.out _).mono ?_
          rintro e wl ⟨rfl, hbl⟩
          go_wp2_with fail
          go_ret
          exact ⟨rfl, HX2b.out.bel.trans (hbl.mono HX2b.out.bel.size)⟩
        · have e0 : (ck == 0) = false := by simp [hk]
          clear hk
          have HX3 := HX2b
          clear c0 c17
          go_upto_region 3 with fail
          go_wp2_with (refine wpList_load_problemG (by rfl) _ rfl w.heap.size rfl x HX3.out.p ?_)
          refine (HBE.out _ (HX3.out.pr hP.out)).mono ?_
          rintro e w5 ⟨m1, hm1, rfl, hr1, hf1, _, hb5⟩
          have HX5 := Lib.hid (HX3.out.below hb5)
          clear hb5 HX3
          go_wp2_with (refine wpList_store_blk rfl 33 _ _ rfl w5.heap.size rfl m1.cs rfl (by kernel_rfl) (PnM.cs_one _) (Blk.new w5 _ _) rfl ?_)
          intro w6 hB6 hg6
          have hs6 : Below w5.heap.size w5 w6 := ((Below.refl w5.heap.size w5).alloc (Nat.le_refl _) (.cells #[.slice none 0 0, .slice none 0 0, .slice none 0 0] 33)).grown hg6 (by simp) (fun k e => by injection e with e; omega)
          obtain ⟨t3, ht⟩ : ∃ t, t = w5.heap.size := ⟨_, rfl⟩
          have HX6 := Lib.hid (HX5.out.below hs6)
          have HY6 := Lib.hid (ly_store hr1 hs6 hB6)
          rw [← ht] at HY6
          have HM1 := Lib.hid hm1
          have HT := Lib.hid ht
          clear hg6 hs6 hB6 hr1 hf1 hm1 ht HX5
          go_upto_region 4 with fail
          rw [← HT.out]
          clear HT
          go_wp2_with (refine wpList_load_problemG (by rfl) _ rfl w.heap.size rfl x HX6.out.p ?_)
          refine (HRB.out _ (HX6.out.pr hP.out)).mono ?_
          rintro e w7 ⟨m2, hm2, rfl, hr2, hf2, hb7⟩
          have HX7 := Lib.hid (HX6.out.below hb7)
          have HY7 := Lib.hid (HY6.out.below hb7)
          clear hb7 HX6 HY6
          go_wp2_with (refine wpList_store_blk rfl 33 _ _ rfl w7.heap.size rfl m2.cs rfl (by kernel_rfl) (PnM.cs_one _) (Blk.new w7 _ _) rfl ?_)
          intro w8 hB8 hg8
          have hs8 : Below w7.heap.size w7 w8 := ((Below.refl w7.heap.size w7).alloc (Nat.le_refl _) (.cells #[.slice none 0 0, .slice none 0 0, .slice none 0 0] 33)).grown hg8 (by simp) (fun k e => by injection e with e; omega)
          obtain ⟨t5, ht⟩ : ∃ t, t = w7.heap.size := ⟨_, rfl⟩
          have HX8 := Lib.hid (HX7.out.below hs8)
          have HY8 := Lib.hid (HY7.out.below hs8)
          have HZ8 := Lib.hid (ly_store hr2 hs8 hB8)
          rw [← ht] at HZ8
          have HM2 := Lib.hid hm2
          have HF2 := Lib.hid hf2
          have HT := Lib.hid ht
          clear hg8 hs8 hB8 hr2 hf2 hm2 ht HX7 HY7
          go_upto_region 5 with fail
          rw [← HT.out]
          clear HT
          go_wp2_with (refine wpList_load_problemG (by rfl) _ rfl w.heap.size rfl x HX8.out.p ?_)
          refine (HCO.out _ (HX8.out.pr hP.out)).mono ?_
          rintro e w9 ⟨rfl, hb9⟩
          have HX9 := Lib.hid (HX8.out.below hb9)
          have HY9 := Lib.hid (HY8.out.below hb9)
          have HZ9 := Lib.hid (HZ8.out.below hb9)
          clear hb9 HX8 HY8 HZ8
          have e1 : (be != be) = false := by simp
          go_upto_region 6 with fail
          go_wp2_with (first | refine wpList_load_planG (by rfl) _ rfl t3 rfl m1 HY9.out.p ?_ | refine wpList_load_planG (by rfl) _ rfl t5 rfl m2 HZ9.out.p ?_)
          refine (HSM.out m1 m2 _ HY9.out.r HZ9.out.r HM1.out HM2.out).mono ?_
          rintro e w10 ⟨rfl, hb10⟩
          have HX10 := Lib.hid (HX9.out.below hb10)
          have HY10 := Lib.hid (HY9.out.below hb10)
          have HZ10 := Lib.hid (HZ9.out.below hb10)
          clear hb10 HX9 HY9 HZ9 e1
          have e2 : ((be == 0) != (be == 0)) = false := by simp
          go_upto_region 8 with fail
          clear e2
          go_wp2_with (first | refine wpList_load_problemG (by rfl) _ rfl w.heap.size rfl x HX10.out.p ?_ | refine wpList_load_planG (by rfl) _ rfl t5 rfl m2 HZ10.out.p ?_)
          refine (HRU.out m2 _ (HX10.out.pr hP.out) HZ10.out.r HF2.out HM2.out).mono ?_
          rintro e w11 ⟨m, htx, rfl, hrt, hbt⟩
          have hmc : m.cost = tb.cost := congrArg Tr.cost htx
          have HMC := Lib.hid hmc
          simp only [TrM.v]
          clear htx hmc hrt
          go_upto_region 9 with fail
          obtain ⟨t9, ht⟩ : ∃ t, t = w11.heap.size := ⟨_, rfl⟩
          obtain ⟨v, hv⟩ : ∃ v, v = w11.alloc (.cells #[.slice m.net.A m.net.l.length m.net.c, .slice m.level.A m.level.l.length m.level.c, .slice m.temp.A m.temp.l.length m.temp.c, .int .i64 m.cost] 47) := ⟨_, rfl⟩
          have HX11 : Hid (PB x w v) := by show PB _ _ _; rw [hv]; exact (HX10.out.below hbt).below (below_al (Below.refl _ _))
          have HT11 : Hid (Blk v t9 47 #[.slice m.net.A m.net.l.length m.net.c, .slice m.level.A m.level.l.length m.level.c, .slice m.temp.A m.temp.l.length m.temp.c, .int .i64 m.cost]) := by show Blk _ _ _ _; rw [hv, ht]; exact Blk.new _ _ _
          rw [← hv, ← ht]
          clear hv ht hbt HX10 HY10 HZ10
          by_cases h0 : be = 0
          · have e3 : (be == 0) = true := by simp [h0]
            have e4 : oc = m.cost := by rw [HMC.out]; exact HOC.out.1 h0
            have e5 : (oc == m.cost) = true := by rw [e4]; simp
            have z3 := HT11.out.cell 3
            simp at z3
            have HE4 := Lib.hid e4
            clear h0 e4
            go_wp2_with fail
            refine (hlv.out _).mono ?_
            rintro e wl ⟨rfl, hbl⟩
            go_wp2_with fail
            go_ret
            exact ⟨rfl, HX11.out.bel.trans (hbl.mono HX11.out.bel.size)⟩
          · have e3 : (be == 0) = false := by simp [h0]
            obtain rfl : oc = 0 := HOC.out.2 h0
            clear h0
            go_wp2_with fail
            refine (hlv.out _).mono ?_
            rintro e wl ⟨rfl, hbl⟩
            go_wp2_with fail
            go_ret
            exact ⟨rfl, HX11.out.bel.trans (hbl.mono HX11.out.bel.size)⟩
end Go.Proofs.Ytnppngaabfhkpaa
