/-
  The law OptimumFeasible, walked.
-/
import Derived.Test.YtnppngaabfhkpaaQU20
namespace Go.Proofs.Ytnppngaabfhkpaa
open Go.RowKit
attribute [local go_sem ↓] Go.wp_at_zero Go.wp_at_succ

theorem Pb.lim_no {p : Pb} (h : 20 < p.bat.cap ∨ 8 < p.room.steps) : p.lim = false := by
  cases h2 : p.lim
  · rfl
  · unfold Pb.lim at h2
    simp only [Bool.and_eq_true, decide_eq_true_iff] at h2
    omega
theorem Pb.lim_yes {p : Pb} (h1 : p.n ≤ 24) (h2 : p.bat.cap ≤ 20) (h3 : p.room.steps ≤ 8) (h4 : p.loads.length ≤ 2) : p.lim = true := by
  unfold Pb.lim
  simp only [Bool.and_eq_true, decide_eq_true_iff]
  exact ⟨h1, h2, h3, h4⟩

set_option maxRecDepth 100000 in
set_option maxHeartbeats 64000000 in
theorem ofeasible_law (x : PbM) (y : PnM) (w : World) (hP0 : RPb w x) (hL0 : ∀ z ∈ x.loads, z.r.prof.length ≤ maxLen ∧ z.r.name.size ≤ maxLen ∧ -9223372036854775808 ≤ z.r.late ∧ z.r.late ≤ 9223372036854775807) (hc0 : x.loads.length ≤ x.lc) (hm0 : x.buy.l.length ≤ maxLen) (hQ0 : RPn w y) (hG0 : y.Fit) :
    Calls Try.prog 7 #[x.v, y.v] w fun e w' => e = .returned (.bool true) ∧ Below w.heap.size w w' := by
  have hF0 : x.Fit := ⟨fun y h => (hL0 y h).2.1, fun y h => (hL0 y h).1, hc0, hm0, fun y h => (hL0 y h).2.2⟩
  have hP := Lib.hid hP0
  have hQ := Lib.hid hQ0
  have hlv := Lib.hid lives_any
  have hwd := Lib.hid wide_any
  have hgr := Lib.hid (great_any x 6 30)
  have hck0 := fun W (h : RPb W x) => rpcheck_any x W h hF0
  have hru := fun W (h : RPb W x) (h2 : RPn W y) => rrun_any x y W h h2 hF0 hG0
  have hbe := fun W (h : RPb W x) => best_any x W h hF0
  have hco := fun W (h : RPb W x) => ocost_any x W h hF0
  have hbd := fun W (h : RPb W x) => bound_any x W h hF0
  have hr2 := fun (m : PnM) W (h : RPb W x) (h2 : RPn W m) (f : m.Fit) (hm : m.x = x.p.best) => (by have h := rrun_any x m W h h2 hF0 f; rw [hm] at h; exact h : Calls Try.prog 29 #[x.v, m.v] W (RunOut (x.p.trace x.p.best) (x.p.err x.p.best) W))
  have hbt := fun (l : x.loads.length ≤ 1000) (m : PnM) W (h : RPb W x) (h2 : RPn W y) (h3 : RPn W m) (f : m.Fit) (hm : m.x = x.p.best) => (by have h := rbetter_any x y m W h h2 h3 hF0 hG0 f l; rw [hm] at h; exact h : Calls Try.prog 33 #[x.v, y.v, m.v] W (fun e w' => e = .returned (.bool (x.p.better y.x x.p.best)) ∧ Below W.heap.size W w'))
  have hst0 := PX.start x y w
  simp only [PbM.v, PnM.v]
  obtain ⟨W, hW⟩ : ∃ W, W = (w.alloc (.cells #[.slice x.buy.A x.buy.l.length x.buy.c, .slice x.sell.A x.sell.l.length x.sell.c, .int .i64 x.fuse, .slice x.solar.A x.solar.l.length x.solar.c, .slice x.demand.A x.demand.l.length x.demand.c, .slice x.outside.A x.outside.l.length x.outside.c, .int .i64 x.bat.cap, .int .i64 x.bat.reserve, .int .i64 x.bat.charge, .int .i64 x.bat.discharge, .int .i64 x.bat.eff, .int .i64 x.gain, .int .i64 x.loss, .int .i64 x.steps, .int .i64 x.power, .slice x.low.A x.low.l.length x.low.c, .slice x.high.A x.high.l.length x.high.c, .slice x.LA x.loads.length x.lc, .int .i64 x.level, .int .i64 x.temp] 31)).alloc (.cells #[.slice y.charge.A y.charge.l.length y.charge.c, .slice y.heat.A y.heat.l.length y.heat.c, .slice y.start.A y.start.l.length y.start.c] 33) := ⟨_, rfl⟩
  rw [show (w.alloc (.cells x.cs 31)).alloc (.cells y.cs 33) = W from hW.symm] at hst0
  have hst := Lib.hid hst0
  have hWH := Lib.hid hW
  clear hst0 hW hP0 hQ0 hL0 hc0 hm0 hF0
  by_cases hc : x.p.chk = 0
  · have hf3 : (20 < x.bat.cap ∨ 8 < x.steps) → x.p.bestE = 3 := fun h => (Pb.best_lim hc (Pb.lim_no h)).2
    have hfy : ¬ (20 < x.bat.cap ∨ 8 < x.steps) → (x.buy.l.length : Int) ≤ 6 → (x.loads.length : Int) ≤ 2 → x.p.bestE = 0 ∨ x.p.bestE = 20 := fun h h1 h2 =>
      Pb.bestE_cases hc (Pb.lim_yes (show x.buy.l.length ≤ 24 by omega) (show x.bat.cap ≤ 20 by omega) (show x.steps ≤ 8 by omega) (by show (x.loads.map _).length ≤ 2; rw [List.length_map]; omega))
    have hf20 : x.p.bestE = 20 → x.p.err y.x ≠ 0 := fun h => Pb.best_none h hc _
    have hf0 : x.p.bestE = 0 → x.p.err x.p.best = 0 ∧ x.p.oc = (x.p.trace x.p.best).cost ∧ x.p.bound ≤ x.p.oc ∧ x.p.better y.x x.p.best = false := fun h => by
      have h1 := (Pb.best_top h).2.2.1
      have h2 : x.p.oc = (x.p.trace x.p.best).cost := by unfold Pb.oc; rw [if_pos h]
      exact ⟨h1, h2, by rw [h2]; exact Pb.bound_le h1, Pb.best_better h _⟩
    rw [hc] at hck0
    generalize x.p.bestE = be at *
    generalize x.p.err y.x = er at *
    generalize x.p.trace y.x = tr at *
    generalize x.p.oc = oc at *
    generalize x.p.bound = bd at *
    generalize x.p.better y.x x.p.best = bb at *
    generalize x.p.best = bp at *
    generalize x.p.err bp = eb at *
    generalize x.p.trace bp = tb at *
    have HCK := Lib.hid hck0
    have HRU := Lib.hid hru
    have HBE := Lib.hid hbe
    have HCO := Lib.hid hco
    have HBD := Lib.hid hbd
    have HR2 := Lib.hid hr2
    have HBT := Lib.hid hbt
    have HF3 := Lib.hid hf3
    have HFY := Lib.hid hfy
    have HF20 := Lib.hid hf20
    have HF0 := Lib.hid hf0
    clear hck0 hru hbe hco hbd hr2 hbt hf3 hfy hf20 hf0 hc
    go_enter Try.func7, Try.ntmps7
    go_upto_region 1 with fail
    rw [← hWH.out]
    clear hWH
    go_wp2_with (first | refine wpList_load_problemG (by rfl) _ rfl w.heap.size rfl x hst.out.p ?_ | refine wpList_load_planG (by rfl) _ rfl (w.heap.size + 1) rfl y hst.out.q ?_)
    refine (hgr.out _).mono ?_
    rintro e w1 ⟨g1, rfl, hgn, hb1⟩
    have HX1 := Lib.hid (hst.out.below hb1)
    have HGN := Lib.hid hgn
    clear hb1 hst hgr hgn
    cases g1
    rotate_left
    · go_wp2_with fail
      refine (hlv.out _).mono ?_
      rintro e wl ⟨rfl, hbl⟩
      go_wp2_with fail
      go_ret
      exact ⟨rfl, HX1.out.bel.trans (hbl.mono HX1.out.bel.size)⟩
    go_wp2_with (first | refine wpList_load_problemG (by rfl) _ rfl w.heap.size rfl x HX1.out.p ?_ | refine wpList_load_planG (by rfl) _ rfl (w.heap.size + 1) rfl y HX1.out.q ?_)
    refine (hwd.out y _).mono ?_
    rintro e w2 ⟨g2, rfl, _, hb2⟩
    have HX2 := Lib.hid (HX1.out.below hb2)
    clear hb2 HX1 hwd
    cases g2
    rotate_left
    · go_wp2_with fail
      refine (hlv.out _).mono ?_
      rintro e wl ⟨rfl, hbl⟩
      go_wp2_with fail
      go_ret
      exact ⟨rfl, HX2.out.bel.trans (hbl.mono HX2.out.bel.size)⟩
    go_wp2_with (first | refine wpList_load_problemG (by rfl) _ rfl w.heap.size rfl x HX2.out.p ?_ | refine wpList_load_planG (by rfl) _ rfl (w.heap.size + 1) rfl y HX2.out.q ?_)
    refine (HCK.out _ (HX2.out.pr hP.out)).mono ?_
    rintro e w3 ⟨rfl, hb3⟩
    have HX3 := Lib.hid (HX2.out.below hb3)
    clear hb3 HX2 HCK
    go_upto_region 3 with fail
    go_wp2_with (first | refine wpList_load_problemG (by rfl) _ rfl w.heap.size rfl x HX3.out.p ?_ | refine wpList_load_planG (by rfl) _ rfl (w.heap.size + 1) rfl y HX3.out.q ?_)
    refine (HRU.out _ (HX3.out.pr hP.out) (HX3.out.qr hQ.out)).mono ?_
    rintro e w4 ⟨m, -, rfl, -, hbt⟩
    simp only [TrM.v]
    go_upto_region 4 with fail
    obtain ⟨v, hv⟩ : ∃ v, v = w4.alloc (.cells #[.slice m.net.A m.net.l.length m.net.c, .slice m.level.A m.level.l.length m.level.c, .slice m.temp.A m.temp.l.length m.temp.c, .int .i64 m.cost] 47) := ⟨_, rfl⟩
    have HX4 : Hid (PX x y w v) := by show PX _ _ _ _; rw [hv]; exact (HX3.out.below hbt).alloc _
    rw [← hv]
    clear hv hbt HX3 HRU
    go_wp2_with (first | refine wpList_load_problemG (by rfl) _ rfl w.heap.size rfl x HX4.out.p ?_ | refine wpList_load_planG (by rfl) _ rfl (w.heap.size + 1) rfl y HX4.out.q ?_)
    refine (HBE.out _ (HX4.out.pr hP.out)).mono ?_
    rintro e w5 ⟨m2, hmx, rfl, hrm, hmf, _, hb5⟩
    have HX5 := Lib.hid (HX4.out.below hb5)
    clear hb5 HX4 HBE
    go_wp2_with (refine wpList_store_blk rfl 33 _ _ rfl w5.heap.size rfl m2.cs rfl (by kernel_rfl) (PnM.cs_one _) (Blk.new w5 _ _) rfl ?_)
    intro w6 hB6 hg6
    have hs6 : Below w5.heap.size w5 w6 := ((Below.refl w5.heap.size w5).alloc (Nat.le_refl _) (.cells #[.slice none 0 0, .slice none 0 0, .slice none 0 0] 33)).grown hg6 (by simp) (fun k e => by injection e with e; omega)
    obtain ⟨t7, ht⟩ : ∃ t, t = w5.heap.size := ⟨_, rfl⟩
    have HX6 := Lib.hid (HX5.out.below hs6)
    have HY6 := Lib.hid (ly_store hrm hs6 hB6)
    rw [← ht] at HY6
    have HMX := Lib.hid hmx
    have HMF := Lib.hid hmf
    have HT := Lib.hid ht
    clear hg6 hs6 hB6 hrm hmf hmx ht HX5
    go_upto_region 5 with fail
    rw [← HT.out]
    have k6 := HX6.out.p.cell 6
    have k13 := HX6.out.p.cell 13
    simp [PbM.cs] at k6 k13
    by_cases h1 : (20 : Int) < x.bat.cap
    · obtain rfl := HF3.out (.inl h1)
      go_wp2_with fail
      refine (hlv.out _).mono ?_
      rintro e wl ⟨rfl, hbl⟩
      go_wp2_with fail
      go_ret
      exact ⟨rfl, HX6.out.bel.trans (hbl.mono HX6.out.bel.size)⟩
    · by_cases h2 : (8 : Int) < x.steps
      · obtain rfl := HF3.out (.inr h2)
        go_wp2_with fail
        refine (hlv.out _).mono ?_
        rintro e wl ⟨rfl, hbl⟩
        go_wp2_with fail
        go_ret
        exact ⟨rfl, HX6.out.bel.trans (hbl.mono HX6.out.bel.size)⟩
      · have hgn := HGN.out (by first | trivial | rfl)
        rcases HFY.out (by omega) hgn.1 hgn.2 with rfl | rfl
        rotate_left
        · have q1 : (er != 0) = true := by have := HF20.out rfl; simp [this]
          go_wp2_with fail
          refine (hlv.out _).mono ?_
          rintro e wl ⟨rfl, hbl⟩
          go_wp2_with fail
          go_ret
          exact ⟨rfl, HX6.out.bel.trans (hbl.mono HX6.out.bel.size)⟩
        · obtain ⟨f1, f2, f3, f4⟩ := HF0.out rfl
          have HBT2 := Lib.hid (HBT.out (by have := hgn.2; omega))
          have HF2 := Lib.hid f2
          have HF3b := Lib.hid f3
          clear HBT hgn
          subst f1 f4
          clear f2 f3
          go_upto_region 9 with fail
          clear k6 k13 h1 h2
          go_wp2_with (first | refine wpList_load_problemG (by rfl) _ rfl w.heap.size rfl x HX6.out.p ?_ | refine wpList_load_planG (by rfl) _ rfl (w.heap.size + 1) rfl y HX6.out.q ?_ | refine wpList_load_planG (by rfl) _ rfl t7 rfl m2 HY6.out.p ?_)
          refine (HR2.out m2 _ (HX6.out.pr hP.out) HY6.out.r HMF.out HMX.out).mono ?_
          rintro e w7 ⟨m, htx, rfl, hrt, hbt⟩
          have hmc : m.cost = oc := by rw [HF2.out]; exact congrArg Tr.cost htx
          have HMC := Lib.hid hmc
          simp only [TrM.v]
          clear htx hmc
          go_upto_region 10 with fail
          obtain ⟨t, ht⟩ : ∃ t, t = w7.heap.size := ⟨_, rfl⟩
          obtain ⟨v7, hv⟩ : ∃ v, v = w7.alloc (.cells #[.slice m.net.A m.net.l.length m.net.c, .slice m.level.A m.level.l.length m.level.c, .slice m.temp.A m.temp.l.length m.temp.c, .int .i64 m.cost] 47) := ⟨_, rfl⟩
          have HX7 : Hid (PX x y w v7) := by show PX _ _ _ _; rw [hv]; exact (HX6.out.below hbt).alloc _
          have HY7 : Hid (LY m2 t7 v7) := by show LY _ _ _; rw [hv]; exact (HY6.out.below hbt).below (below_al (Below.refl _ _))
          have HT7 : Hid (Blk v7 t 47 #[.slice m.net.A m.net.l.length m.net.c, .slice m.level.A m.level.l.length m.level.c, .slice m.temp.A m.temp.l.length m.temp.c, .int .i64 m.cost]) := by show Blk _ _ _ _; rw [hv, ht]; exact Blk.new _ _ _
          rw [← hv, ← ht]
          clear hv ht hbt hrt HX6 HY6
          go_wp2_with (first | refine wpList_load_problemG (by rfl) _ rfl w.heap.size rfl x HX7.out.p ?_ | refine wpList_load_planG (by rfl) _ rfl (w.heap.size + 1) rfl y HX7.out.q ?_)
          refine (HCO.out _ (HX7.out.pr hP.out)).mono ?_
          rintro e w8 ⟨rfl, hb8⟩
          have HX8 := Lib.hid (HX7.out.below hb8)
          have HY8 := Lib.hid (HY7.out.below hb8)
          have HT8 := Lib.hid (HT7.out.below hb8 HT7.out.lt)
          clear hb8 HX7 HY7 HT7
          go_upto_region 11 with fail
          have z3 := HT8.out.cell 3
          simp at z3
          rw [HMC.out] at z3
          have e1 : (oc == oc) = true := by simp
          go_wp2_with (first | refine wpList_load_problemG (by rfl) _ rfl w.heap.size rfl x HX8.out.p ?_ | refine wpList_load_planG (by rfl) _ rfl (w.heap.size + 1) rfl y HX8.out.q ?_ | refine wpList_load_planG (by rfl) _ rfl t7 rfl m2 HY8.out.p ?_)
          refine (HBD.out _ (HX8.out.pr hP.out)).mono ?_
          rintro e w9 ⟨rfl, hb9⟩
          have HX9 := Lib.hid (HX8.out.below hb9)
          have HY9 := Lib.hid (HY8.out.below hb9)
          have e2 := HF3b.out
          clear hb9 HX8 HY8 HT8 z3 e1
          go_wp2_with (first | refine wpList_load_problemG (by rfl) _ rfl w.heap.size rfl x HX9.out.p ?_ | refine wpList_load_planG (by rfl) _ rfl (w.heap.size + 1) rfl y HX9.out.q ?_ | refine wpList_load_planG (by rfl) _ rfl t7 rfl m2 HY9.out.p ?_)
          refine (HBT2.out m2 _ (HX9.out.pr hP.out) (HX9.out.qr hQ.out) HY9.out.r HMF.out HMX.out).mono ?_
          rintro e w10 ⟨rfl, hb10⟩
          have HX10 := Lib.hid (HX9.out.below hb10)
          clear hb10 HX9 HY9
          go_wp2_with fail
          refine (hlv.out _).mono ?_
          rintro e wl ⟨rfl, hbl⟩
          go_wp2_with fail
          go_ret
          exact ⟨rfl, HX10.out.bel.trans (hbl.mono HX10.out.bel.size)⟩
  · have hn : (x.p.chk != 0) = true := by simp [hc]
    generalize x.p.chk = ck at *
    have hck := Lib.hid hck0
    clear hck0 hc hru hbe hco hbd hr2 hbt
    go_enter Try.func7, Try.ntmps7
    go_upto_region 1 with fail
    rw [← hWH.out]
    clear hWH
    go_wp2_with (first | refine wpList_load_problemG (by rfl) _ rfl w.heap.size rfl x hst.out.p ?_ | refine wpList_load_planG (by rfl) _ rfl (w.heap.size + 1) rfl y hst.out.q ?_)
    refine (hgr.out _).mono ?_
    rintro e w1 ⟨g1, rfl, _, hb1⟩
    have HX1 := Lib.hid (hst.out.below hb1)
    clear hb1 hst hgr
    cases g1
    rotate_left
    · go_wp2_with fail
      refine (hlv.out _).mono ?_
      rintro e wl ⟨rfl, hbl⟩
      go_wp2_with fail
      go_ret
      exact ⟨rfl, HX1.out.bel.trans (hbl.mono HX1.out.bel.size)⟩
    go_wp2_with (first | refine wpList_load_problemG (by rfl) _ rfl w.heap.size rfl x HX1.out.p ?_ | refine wpList_load_planG (by rfl) _ rfl (w.heap.size + 1) rfl y HX1.out.q ?_)
    refine (hwd.out y _).mono ?_
    rintro e w2 ⟨g2, rfl, _, hb2⟩
    have HX2 := Lib.hid (HX1.out.below hb2)
    clear hb2 HX1 hwd
    cases g2
    rotate_left
    · go_wp2_with fail
      refine (hlv.out _).mono ?_
      rintro e wl ⟨rfl, hbl⟩
      go_wp2_with fail
      go_ret
      exact ⟨rfl, HX2.out.bel.trans (hbl.mono HX2.out.bel.size)⟩
    go_wp2_with (first | refine wpList_load_problemG (by rfl) _ rfl w.heap.size rfl x HX2.out.p ?_ | refine wpList_load_planG (by rfl) _ rfl (w.heap.size + 1) rfl y HX2.out.q ?_)
    refine (hck.out _ (HX2.out.pr hP.out)).mono ?_
    rintro e w3 ⟨rfl, hb3⟩
    have HX3 := Lib.hid (HX2.out.below hb3)
    clear hb3 HX2 hck
    go_wp2_with fail
    refine (hlv.out _).mono ?_
    rintro e wl ⟨rfl, hbl⟩
    go_wp2_with fail
    go_ret
    exact ⟨rfl, HX3.out.bel.trans (hbl.mono HX3.out.bel.size)⟩
end Go.Proofs.Ytnppngaabfhkpaa
