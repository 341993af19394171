/-
  The walks of the top laws, part 2: within.
-/
import Derived.Test.YtnppngaabfhkpaaKOP6
import Derived.Test.YtnppngaabfhkpaaKOP7
namespace Go.Proofs.Ytnppngaabfhkpaa
open Go.RowKit
attribute [local go_sem ↓] Go.wp_at_zero Go.wp_at_succ

theorem RInts.atD {w : World} {A : Option Addr} {l : List Int} {k : Nat} (h : RInts w A l) (hk : k < l.length) : ∃ b o, A = some ⟨b, o, Option.none⟩ ∧ w.cell? ⟨b, o + k, Option.none⟩ = some (.int .i64 (l.getD k 0)) := by
  obtain ⟨b, o, h1, _, h2⟩ := h.at' hk
  exact ⟨b, o, h1, by rw [h2, getD_eq hk]⟩
theorem mulB {a b A B : Int} (h0 : -A ≤ a) (h1 : a ≤ A) (g0 : 0 ≤ b) (g1 : b ≤ B) (hA : 0 ≤ A) : -(A * B) ≤ a * b ∧ a * b ≤ A * B := by
  have k1 : a * b ≤ A * b := Int.mul_le_mul_of_nonneg_right h1 g0
  have k2 : A * b ≤ A * B := Int.mul_le_mul_of_nonneg_left g1 hA
  have k3 : -A * b ≤ a * b := Int.mul_le_mul_of_nonneg_right h0 g0
  rw [Int.neg_mul] at k3
  omega
theorem win_fit {x : PbM} {y : PnM} (g : x.p.Good) {k : Nat} (hk : k < x.loads.length) (hs : k < y.start.l.length) :
    x.loads[k].r.Good x.p.n ∧ ((y.start.l[k] < x.loads[k].r.early ∨ x.loads[k].r.late - (x.loads[k].r.prof.length : Int) < y.start.l[k]) → x.p.err y.x ≠ 0) ∧
    (¬ (y.start.l[k] < x.loads[k].r.early ∨ x.loads[k].r.late - (x.loads[k].r.prof.length : Int) < y.start.l[k]) → (x.p.loads.getD k Ld.zero).fit (y.x.start.getD k 0) x.p.n = true) := by
  have hl : x.p.loads.length = x.loads.length := by simp [PbM.p]
  have hk2 : k < x.p.loads.length := by omega
  have e : x.p.loads[k] = x.loads[k].r := by simp [PbM.p]
  have hc := Pb.load_ok g hk2
  rw [e] at hc
  have e1 : x.p.loads.getD k Ld.zero = x.loads[k].r := by rw [← e]; simp [List.getD, hk2]
  have e2 : y.x.start.getD k 0 = y.start.l[k] := by show y.start.l.getD k 0 = _; simp [List.getD, hs]
  have hf : (x.p.loads.getD k Ld.zero).fit (y.x.start.getD k 0) x.p.n = (decide (x.loads[k].r.early ≤ y.start.l[k]) && decide (y.start.l[k] ≤ x.loads[k].r.late - (x.loads[k].r.prof.length : Int))) := by
    rw [e1, e2]; unfold Ld.fit; rw [decide_eq_true hc, Bool.true_and]
  refine ⟨Ld.good hc, fun h => Pb.fits_ne hk2 ?_, fun h => ?_⟩
  · rw [hf, Bool.and_eq_false_iff, decide_eq_false_iff_not, decide_eq_false_iff_not]; omega
  · rw [hf, Bool.and_eq_true, decide_eq_true_iff, decide_eq_true_iff]; omega
theorem win_nofit {x : PbM} {y : PnM} (g : x.p.Good) {k : Nat} (hk : k < x.loads.length) (hs : k < y.start.l.length) (h : y.start.l[k] < x.loads[k].r.early ∨ x.loads[k].r.late - (x.loads[k].r.prof.length : Int) < y.start.l[k]) (hf : (x.p.loads.getD k Ld.zero).fit (y.x.start.getD k 0) x.p.n = true) : False := by
  have hk2 : k < x.p.loads.length := by simp [PbM.p]; exact hk
  have e : x.p.loads[k] = x.loads[k].r := by simp [PbM.p]
  have hc := Pb.load_ok g hk2
  rw [e] at hc
  have e1 : x.p.loads.getD k Ld.zero = x.loads[k].r := by rw [← e]; simp [List.getD, hk2]
  have e2 : y.x.start.getD k 0 = y.start.l[k] := by show y.start.l.getD k 0 = _; simp [List.getD, hs]
  rw [e1, e2] at hf
  unfold Ld.fit at hf
  rw [decide_eq_true hc, Bool.true_and, Bool.and_eq_true, decide_eq_true_iff, decide_eq_true_iff] at hf
  omega
theorem win_use_at {x : PbM} {y : PnM} {k : Nat} (hk : k < x.loads.length) (hs : k < y.start.l.length) (i : Int) :
    useTo x.p.loads y.x.start i (k + 1) = useTo x.p.loads y.x.start i k + x.loads[k].r.use y.start.l[k] i := by
  have hk2 : k < x.p.loads.length := by simp [PbM.p]; exact hk
  rw [useTo_succ hk2 (show k < y.x.start.length from hs)]
  have e : x.p.loads[k] = x.loads[k].r := by simp [PbM.p]
  rw [e]
  rfl

set_option maxRecDepth 100000 in
set_option maxHeartbeats 64000000 in
theorem topwithin_any (x : PbM) (y : PnM) (w : World) (hP0 : RPb w x) (hQ0 : RPn w y) (hc : x.p.chk = 0) :
    Calls Try.prog 20 #[x.v, y.v] w fun e w' => e = .returned (.tuple #[.int .i64 (x.p.win y.x), .bool (x.p.err y.x == 0)]) ∧ Below w.heap.size w w' := by
  have hP := Lib.hid hP0
  have hQ := Lib.hid hQ0
  have hgd := Pb.good hc
  have gt := Tf.good hgd.t
  have gb := (Pb.bat_good hgd).2
  have hrm := Pb.room_ok hgd
  have gr := Rm.good hrm.1
  have HNO := Lib.hid (fun (h : x.p.err y.x ≠ 0) => Pb.win_no h)
  have HYES := Lib.hid (fun (h : x.p.err y.x = 0) => Pb.win_yes h)
  have n1 : x.sell.l.length = x.buy.l.length := gt.len
  have n2 : x.solar.l.length = x.buy.l.length := hgd.lens.1
  have n3 : x.demand.l.length = x.buy.l.length := hgd.lens.2.1
  have n4 : x.outside.l.length = x.buy.l.length := hgd.lens.2.2
  have n5 : x.low.l.length = x.buy.l.length := hrm.2.1
  have n6 : x.high.l.length = x.buy.l.length := hrm.2.2.1
  have n7 : x.p.loads.length = x.loads.length := by simp [PbM.p]
  have n8 : x.buy.l.length ≤ 96 := gt.n1
  have n9 : x.loads.length ≤ 4 := by have := Pb.loads4 hgd; omega
  have b1 : x.bat.cap ≤ 40 := gb.cap1
  have b2 : 0 ≤ x.bat.charge ∧ x.bat.charge ≤ 40 := ⟨gb.ch0, gb.ch1⟩
  have b3 : 0 ≤ x.bat.discharge ∧ x.bat.discharge ≤ 40 := ⟨gb.di0, gb.di1⟩
  have b4 : 500 ≤ x.bat.eff ∧ x.bat.eff ≤ 1000 := ⟨gb.ef0, gb.ef1⟩
  have b5 : 0 ≤ x.gain ∧ x.gain ≤ 100 := ⟨gr.g0, gr.g1⟩
  have b6 : 0 ≤ x.loss ∧ x.loss ≤ 1000 := ⟨gr.l0, gr.l1⟩
  have b7 : 0 ≤ x.steps ∧ x.steps ≤ 40 := ⟨gr.s0, gr.s1⟩
  have b8 : 0 ≤ x.power ∧ x.power ≤ 1000 := ⟨gr.p0, gr.p1⟩
  have b9 : 1 ≤ x.fuse ∧ x.fuse ≤ 1000 := ⟨gt.f0, gt.f1⟩
  have HB := Lib.hid (And.intro b1 (And.intro b2 (And.intro b3 (And.intro b4 (And.intro b5 (And.intro b6 (And.intro b7 (And.intro b8 b9))))))))
  have HN := Lib.hid (And.intro n1 (And.intro n2 (And.intro n3 (And.intro n4 (And.intro n5 (And.intro n6 (And.intro n7 (And.intro n8 n9))))))))
  have e10 : ¬ x.bat.eff < 1 := by omega
  have q3 : ((x.sell.l.length : Int) != (x.buy.l.length : Int)) = false := by rw [bne_eq_false_iff_eq]; omega
  have q4 : ((x.solar.l.length : Int) != (x.buy.l.length : Int)) = false := by rw [bne_eq_false_iff_eq]; omega
  have q5 : ((x.demand.l.length : Int) != (x.buy.l.length : Int)) = false := by rw [bne_eq_false_iff_eq]; omega
  have q6 : ((x.outside.l.length : Int) != (x.buy.l.length : Int)) = false := by rw [bne_eq_false_iff_eq]; omega
  have q7 : ((x.low.l.length : Int) != (x.buy.l.length : Int)) = false := by rw [bne_eq_false_iff_eq]; omega
  have q8 : ((x.high.l.length : Int) != (x.buy.l.length : Int)) = false := by rw [bne_eq_false_iff_eq]; omega
  have HGD := Lib.hid hgd
  have HGT := Lib.hid gt
  have hst0 := PX.start x y w
  simp only [PbM.v, PnM.v]
  obtain ⟨W, hW⟩ : ∃ W, W = (w.alloc (.cells #[.slice x.buy.A x.buy.l.length x.buy.c, .slice x.sell.A x.sell.l.length x.sell.c, .int .i64 x.fuse, .slice x.solar.A x.solar.l.length x.solar.c, .slice x.demand.A x.demand.l.length x.demand.c, .slice x.outside.A x.outside.l.length x.outside.c, .int .i64 x.bat.cap, .int .i64 x.bat.reserve, .int .i64 x.bat.charge, .int .i64 x.bat.discharge, .int .i64 x.bat.eff, .int .i64 x.gain, .int .i64 x.loss, .int .i64 x.steps, .int .i64 x.power, .slice x.low.A x.low.l.length x.low.c, .slice x.high.A x.high.l.length x.high.c, .slice x.LA x.loads.length x.lc, .int .i64 x.level, .int .i64 x.temp] 31)).alloc (.cells #[.slice y.charge.A y.charge.l.length y.charge.c, .slice y.heat.A y.heat.l.length y.heat.c, .slice y.start.A y.start.l.length y.start.c] 33) := ⟨_, rfl⟩
  rw [show (w.alloc (.cells x.cs 31)).alloc (.cells y.cs 33) = W from hW.symm] at hst0
  have hst := Lib.hid hst0
  have hWH := Lib.hid hW
  have N8 := n8
  have N9 := n9
  clear n7 hst0 hW hP0 hQ0 hc gt gb hrm gr hgd n1 n2 n3 n4 n5 n6 n8 n9 b1 b2 b3 b4 b5 b6 b7 b8 b9
  by_cases z0 : y.charge.l.length = x.buy.l.length
  · have q0 : ((y.charge.l.length : Int) != (x.buy.l.length : Int)) = false := by rw [bne_eq_false_iff_eq]; omega
    have HZ0 := Lib.hid z0
    clear z0
    by_cases z1 : y.heat.l.length = x.buy.l.length
    · have q1 : ((y.heat.l.length : Int) != (x.buy.l.length : Int)) = false := by rw [bne_eq_false_iff_eq]; omega
      have HZ1 := Lib.hid z1
      clear z1
      by_cases z2 : y.start.l.length = x.loads.length
      · have q2 : ((y.start.l.length : Int) != (x.loads.length : Int)) = false := by rw [bne_eq_false_iff_eq]; omega
        have HZ2 := Lib.hid z2
        clear z2
        go_enter Try.func20, Try.ntmps20
        go_upto_region 1 with fail
        rw [← hWH.out]
        clear hWH
        obtain ⟨c0, c1, c2, c3, c4, c5, c6, c7, c8, c9, c10, c11, c12, c13, c14, c15, c16, c17, c18, c19⟩ := hst.out.pc
        obtain ⟨d0, d1, d2⟩ := hst.out.qc
        have hsz : x.p.sized y.x = true := by unfold Pb.sized; rw [decide_eq_true_iff]; exact ⟨HZ0.out, HZ1.out, HZ2.out.trans HN.out.2.2.2.2.2.2.1.symm⟩
        have HSZ := Lib.hid hsz
        clear hsz
        go_upto_region 6 with fail
        clear q0 q1 q2 q3 q4 q5 q6 q7 q8 e10
        go_quiet (fail)
        have HX1 := Lib.hid (hst.out.drewN nq)
        clear c0 c1 c2 c3 c4 c5 c6 c7 c8 c9 c10 c11 c12 c13 c14 c15 c16 c17 c18 c19 d0 d1 d2 hst
        go_wp2_with fail
        go_loopw [10] (fun s10 wr => ∃ k : Nat, k ≤ x.loads.length ∧ s10 = .int .i64 k ∧ Hid (∀ j, j < k → (x.p.loads.getD j Ld.zero).fit (y.x.start.getD j 0) x.p.n = true) ∧ Hid (PX x y w wr))
          (fun s10 _ => x.loads.length - (intOf s10).toNat)
        case atStart => exact ⟨0, by omega, rfl, (show ∀ j, j < 0 → _ from fun j h => absurd h (by omega)), (by first | exact HX1.out | exact HX1.out.drewN _ | exact (HX1.out.drewN _).drewN _ | exact ((HX1.out.drewN _).drewN _).drewN _ | exact (((HX1.out.drewN _).drewN _).drewN _).drewN _)⟩
        case round =>
          obtain ⟨k, hk, rfl, hFK, hPXk⟩ := hrel
          obtain ⟨wo, hwo⟩ : ∃ wo : World, wo = wr := ⟨_, rfl⟩
          subst hwo
          by_cases hlt : k < x.loads.length
          · have z2 := HZ2.out
            have j1 : (0 : Int) ≤ (k : Int) := by omega
            have j2 : (k : Int) < (x.loads.length : Int) := by omega
            have j3 : (k : Int) < (y.start.l.length : Int) := by omega
            have HXo := Lib.hid hPXk.out
            obtain ⟨bl, ol, hLA, _, y0, y1, y2, y3⟩ := (HXo.out.pr hP.out).loads.at' hlt
            obtain ⟨bs, os, hSA, _, s0⟩ := (HXo.out.qr hQ.out).start.at' (show k < y.start.l.length by omega)
            have c17 := HXo.out.p.cell 17
            have d2 := HXo.out.q.cell 2
            simp [PbM.cs] at c17
            simp [PnM.cs] at d2
            rw [hLA] at c17
            rw [hSA] at d2
            have hfit := win_fit (y := y) HGD.out hlt (show k < y.start.l.length by omega)
            have hFK1 : ¬ (y.start.l[k] < x.loads[k].r.early ∨ x.loads[k].r.late - (x.loads[k].r.prof.length : Int) < y.start.l[k]) → ∀ j, j < k + 1 → (x.p.loads.getD j Ld.zero).fit (y.x.start.getD j 0) x.p.n = true := fun h j hj => by
              rcases Nat.lt_or_ge j k with h2 | h2
              · exact hFK.out j h2
              · rw [show j = k by omega]; exact hfit.2.2 h
            generalize x.loads[k] = X at *
            generalize y.start.l[k] = s at *
            have g1 := hfit.1.l1
            have g2 := hfit.1.e0
            have g3 := hfit.1.el
            have g4 := hfit.1.p1
            have g5 := hfit.1.n1
            have a1 : IntKind.i64.wrap (X.r.late - (X.r.prof.length : Int)) = X.r.late - (X.r.prof.length : Int) := IntWalk.i64_in _ (by omega)
            have HE := Lib.hid hfit.2.1
            have HK1 := Lib.hid hFK1
            clear hfit hFK1 g1 g2 g3 g4 g5 hLA hSA hFK y0 z2
            go_upto_region 10 with fail
            have f2' : s < X.r.early ∨ (¬ s < X.r.early ∧ X.r.late - (X.r.prof.length : Int) < s) ∨ (¬ s < X.r.early ∧ ¬ X.r.late - (X.r.prof.length : Int) < s) := by omega
            rcases f2' with f1 | ⟨f1, f2⟩ | ⟨f1, f2⟩
            · have g1 : decide (s < X.r.early) = true := decide_eq_true f1
              go_quiet (fail)
              have HX2 := Lib.hid (HXo.out.drewN nq)
              as_aux_lemma =>
                have Q := Lib.hid (HNO.out (HE.out (.inl f1)))
                go_wp2_with fail
                go_ret2
                exact ⟨by rw [Q.out.1, Q.out.2]; rfl, HX2.out.bel⟩
            · have g1 : decide (s < X.r.early) = false := decide_eq_false f1
              have g2 : decide (X.r.late - (X.r.prof.length : Int) < s) = true := decide_eq_true f2
              go_quiet (fail)
              have HX2 := Lib.hid (HXo.out.drewN nq)
              as_aux_lemma =>
                have Q := Lib.hid (HNO.out (HE.out (.inr f2)))
                go_wp2_with fail
                go_ret2
                exact ⟨by rw [Q.out.1, Q.out.2]; rfl, HX2.out.bel⟩
            · have g1 : decide (s < X.r.early) = false := decide_eq_false f1
              have g2 : decide (X.r.late - (X.r.prof.length : Int) < s) = false := decide_eq_false f2
              go_quiet (fail)
              have HX2 := Lib.hid (HXo.out.drewN nq)
              have HK2 := Lib.hid (HK1.out (by omega))
              clear HK1 HE
              go_wp2_with fail
              go_roundw
              case rel => exact ⟨k + 1, by omega, by go_num, HK2.out, HX2.out⟩
              case measure => simp [intOf]; omega
          · have j2 : ¬ (k : Int) < (x.loads.length : Int) := by omega
            have hft : x.p.fitsTo y.x x.p.loads.length = true := by
              simp only [Pb.fitsTo, List.all_eq_true, List.mem_range]
              intro j hj
              exact hFK.out j (by have := HN.out.2.2.2.2.2.2.1; omega)
            have HFT := Lib.hid hft
            have HXo := Lib.hid hPXk.out
            have c17 := HXo.out.p.cell 17
            simp [PbM.cs] at c17
            clear hft hFK hPXk
            go_wp2_with fail
            clear c17 j2
            as_aux_lemma =>
              go_loopw [11, 7, 8, 9] (fun s11 s7 s8 s9 wr => ∃ i : Nat, i ≤ x.buy.l.length ∧ s11 = .int .i64 i ∧ s7 = .int .i64 (x.p.lv y.x i) ∧ s8 = .int .i64 (x.p.tm y.x i) ∧ s9 = .int .i64 (x.p.costTo y.x i) ∧ Hid (x.p.errTo y.x i = 0 ∧ ∀ j, j < i → 0 ≤ y.x.heat.getD j 0 ∧ y.x.heat.getD j 0 ≤ x.p.room.steps) ∧ Hid (PX x y w wr))
                (fun s11 _ _ _ _ => x.buy.l.length - (intOf s11).toNat)
              case atStart => exact ⟨0, by omega, rfl, rfl, rfl, by rw [Pb.costTo_zero], (show _ ∧ _ from ⟨rfl, fun j h => absurd h (by omega)⟩), HXo.out⟩
              case round =>
                obtain ⟨i, hi, rfl, rfl, rfl, rfl, hET, hPXi⟩ := hrel
                obtain ⟨wi, hwi⟩ : ∃ wo : World, wo = wr := ⟨_, rfl⟩
                subst hwi
                by_cases hlt : i < x.buy.l.length
                · as_aux_lemma =>
                    have j1 : (0 : Int) ≤ (i : Int) := by omega
                    have j2 : (i : Int) < (x.buy.l.length : Int) := by omega
                    obtain ⟨n1, n2, n3, n4, n5, n6, n7, n8, n9⟩ := HN.out
                    have z0 := HZ0.out
                    have z1 := HZ1.out
                    have z2 := HZ2.out
                    have j3 : (i : Int) < (y.charge.l.length : Int) := by omega
                    have j4 : (i : Int) < (y.heat.l.length : Int) := by omega
                    have j5 : (i : Int) < (x.outside.l.length : Int) := by omega
                    have j6 : (i : Int) < (x.demand.l.length : Int) := by omega
                    have j7 : (i : Int) < (x.solar.l.length : Int) := by omega
                    have j8 : (i : Int) < (x.low.l.length : Int) := by omega
                    have j9 : (i : Int) < (x.high.l.length : Int) := by omega
                    have j10 : (i : Int) < (x.sell.l.length : Int) := by omega
                    have HXo := Lib.hid hPXi.out
                    have hWS := Pb.win_slot HGD.out (x := y.x) (show y.start.l.length = _ from z2.trans n7.symm) (show i < x.p.n from hlt) hET.out.1
                    have hl := Pb.lv_bd HGD.out hET.out.1
                    have ht := Pb.tm_bd y.x HGD.out i
                    have hct : -1000000000 * (i : Int) ≤ x.p.costTo y.x i ∧ x.p.costTo y.x i ≤ 1000000000 * (i : Int) := Tf.totalTo_bd HGT.out _ i
                    have hob := allB_getD HGD.out.ou (by omega) (by omega) i
                    have hdb := allB_getD HGD.out.de (by omega) (by omega) i
                    have hsb := allB_getD HGD.out.so (by omega) (by omega) i
                    have hbb := HGT.out.b i
                    have hseb := HGT.out.s i
                    have hee := hET.out.2
                    obtain ⟨bcharge, ocharge, hA0, r0⟩ := (HXo.out.qr hQ.out).charge.atD (k := i) (by omega)
                    have k0 := HXo.out.q.cell 0
                    obtain ⟨bheat, oheat, hA1, r1⟩ := (HXo.out.qr hQ.out).heat.atD (k := i) (by omega)
                    have k1 := HXo.out.q.cell 1
                    obtain ⟨boutside, ooutside, hA2, r2⟩ := (HXo.out.pr hP.out).outside.atD (k := i) (by omega)
                    have k2 := HXo.out.p.cell 5
                    obtain ⟨bdemand, odemand, hA3, r3⟩ := (HXo.out.pr hP.out).demand.atD (k := i) (by omega)
                    have k3 := HXo.out.p.cell 4
                    obtain ⟨bsolar, osolar, hA4, r4⟩ := (HXo.out.pr hP.out).solar.atD (k := i) (by omega)
                    have k4 := HXo.out.p.cell 3
                    obtain ⟨blow, olow, hA5, r5⟩ := (HXo.out.pr hP.out).low.atD (k := i) (by omega)
                    have k5 := HXo.out.p.cell 15
                    obtain ⟨bhigh, ohigh, hA6, r6⟩ := (HXo.out.pr hP.out).high.atD (k := i) (by omega)
                    have k6 := HXo.out.p.cell 16
                    obtain ⟨bbuy, obuy, hA7, r7⟩ := (HXo.out.pr hP.out).buy.atD (k := i) (by omega)
                    have k7 := HXo.out.p.cell 0
                    obtain ⟨bsell, osell, hA8, r8⟩ := (HXo.out.pr hP.out).sell.atD (k := i) (by omega)
                    have k8 := HXo.out.p.cell 1
                    simp [PnM.cs] at k0 k1
                    simp [PbM.cs] at k2 k3 k4 k5 k6 k7 k8
                    rw [hA0] at k0
                    rw [hA1] at k1
                    rw [hA2] at k2
                    rw [hA3] at k3
                    rw [hA4] at k4
                    rw [hA5] at k5
                    rw [hA6] at k6
                    rw [hA7] at k7
                    rw [hA8] at k8
                    obtain ⟨-, -, c2, -, -, -, c6, c7, c8, c9, c10, c11, c12, c13, c14, -, -, c17, -, -⟩ := HXo.out.pc
                    have d2 := HXo.out.q.cell 2
                    simp [PnM.cs] at d2
                    have w1 : y.charge.l.getD i 0 < -x.bat.discharge → x.p.err y.x ≠ 0 := hWS.c0
                    have w2 : x.bat.charge < y.charge.l.getD i 0 → x.p.err y.x ≠ 0 := hWS.c1
                    have w3 : y.heat.l.getD i 0 < 0 → x.p.err y.x ≠ 0 := hWS.h0
                    have w4 : x.steps < y.heat.l.getD i 0 → x.p.err y.x ≠ 0 := hWS.h1
                    have w5 : -x.bat.discharge ≤ y.charge.l.getD i 0 → y.charge.l.getD i 0 ≤ x.bat.charge → (x.bat.cap < x.p.lv y.x i + y.charge.l.getD i 0 ∨ (y.charge.l.getD i 0 < 0 ∧ x.p.lv y.x i + y.charge.l.getD i 0 < x.bat.reserve)) → x.p.err y.x ≠ 0 := hWS.l
                    have w6 : -x.bat.discharge ≤ y.charge.l.getD i 0 → y.charge.l.getD i 0 ≤ x.bat.charge → ¬ (x.bat.cap < x.p.lv y.x i + y.charge.l.getD i 0 ∨ (y.charge.l.getD i 0 < 0 ∧ x.p.lv y.x i + y.charge.l.getD i 0 < x.bat.reserve)) → x.p.lv y.x (i + 1) = x.p.lv y.x i + y.charge.l.getD i 0 ∧ x.p.net y.x i = x.demand.l.getD i 0 + drawnZ x.bat (y.charge.l.getD i 0) + y.heat.l.getD i 0 * x.power + useTo x.p.loads y.x.start i x.p.loads.length - x.solar.l.getD i 0 := hWS.l'
                    have w7 : 0 ≤ y.heat.l.getD i 0 → y.heat.l.getD i 0 ≤ x.steps → wT (rawT x.p.room (x.p.tm y.x i) (x.outside.l.getD i 0) (y.heat.l.getD i 0)) (x.low.l.getD i 0) (x.high.l.getD i 0) = false → x.p.err y.x ≠ 0 := hWS.t
                    have w8 : 0 ≤ y.heat.l.getD i 0 → y.heat.l.getD i 0 ≤ x.steps → wT (rawT x.p.room (x.p.tm y.x i) (x.outside.l.getD i 0) (y.heat.l.getD i 0)) (x.low.l.getD i 0) (x.high.l.getD i 0) = true → x.p.tm y.x (i + 1) = rawT x.p.room (x.p.tm y.x i) (x.outside.l.getD i 0) (y.heat.l.getD i 0) := hWS.t'
                    have w9 : wB (x.p.net y.x i) (-x.fuse) x.fuse = false → x.p.err y.x ≠ 0 := hWS.n
                    have w10 : -x.bat.discharge ≤ y.charge.l.getD i 0 → y.charge.l.getD i 0 ≤ x.bat.charge → ¬ (x.bat.cap < x.p.lv y.x i + y.charge.l.getD i 0 ∨ (y.charge.l.getD i 0 < 0 ∧ x.p.lv y.x i + y.charge.l.getD i 0 < x.bat.reserve)) → 0 ≤ y.heat.l.getD i 0 → y.heat.l.getD i 0 ≤ x.steps → wT (rawT x.p.room (x.p.tm y.x i) (x.outside.l.getD i 0) (y.heat.l.getD i 0)) (x.low.l.getD i 0) (x.high.l.getD i 0) = true → wB (x.p.net y.x i) (-x.fuse) x.fuse = true → x.p.errTo y.x (i + 1) = 0 := hWS.good
                    have w11 : wB (x.p.net y.x i) (-x.fuse) x.fuse = true → x.p.costTo y.x (i + 1) = x.p.costTo y.x i + (if 0 ≤ x.p.net y.x i then x.p.net y.x i * x.buy.l.getD i 0 else x.p.net y.x i * x.sell.l.getD i 0) := hWS.cost
                    have w12 : 0 ≤ y.heat.l.getD i 0 → y.heat.l.getD i 0 ≤ x.steps → ∀ j, j < i + 1 → 0 ≤ y.x.heat.getD j 0 ∧ y.x.heat.getD j 0 ≤ x.p.room.steps := fun h0 h1 j hj => by
                      rcases Nat.lt_or_ge j i with h2 | h2
                      · exact hee j h2
                      · rw [show j = i by omega]; exact ⟨h0, h1⟩
                    have hob : -1000 ≤ x.outside.l.getD i 0 ∧ x.outside.l.getD i 0 ≤ 1000 := hob
                    have hdb : 0 ≤ x.demand.l.getD i 0 ∧ x.demand.l.getD i 0 ≤ 1000 := hdb
                    have hsb : 0 ≤ x.solar.l.getD i 0 ∧ x.solar.l.getD i 0 ≤ 1000 := hsb
                    have hbb : 0 ≤ x.buy.l.getD i 0 ∧ x.buy.l.getD i 0 ≤ 1000000 := hbb
                    have hseb : 0 ≤ x.sell.l.getD i 0 ∧ x.sell.l.getD i 0 ≤ 1000000 := hseb
                    have hl : 0 ≤ x.p.lv y.x i ∧ x.p.lv y.x i ≤ x.bat.cap := hl
                    have hraw : rawT x.p.room (x.p.tm y.x i) (x.outside.l.getD i 0) (y.heat.l.getD i 0) = x.p.tm y.x i + x.gain * y.heat.l.getD i 0 - x.loss * (x.p.tm y.x i - x.outside.l.getD i 0) / 1000 := rfl
                    clear hWS hee hA0 hA1 hA2 hA3 hA4 hA5 hA6 hA7 hA8 hET
                    generalize y.charge.l.getD i 0 = c at *
                    generalize y.heat.l.getD i 0 = h at *
                    generalize x.outside.l.getD i 0 = ot at *
                    generalize x.demand.l.getD i 0 = dm at *
                    generalize x.solar.l.getD i 0 = so at *
                    generalize x.low.l.getD i 0 = lw at *
                    generalize x.high.l.getD i 0 = hg at *
                    obtain ⟨bu, hbu0⟩ : ∃ z, z = x.buy.l.getD i 0 := ⟨_, rfl⟩
                    obtain ⟨se, hse0⟩ : ∃ z, z = x.sell.l.getD i 0 := ⟨_, rfl⟩
                    rw [← hbu0] at w11 hbb r7
                    rw [← hse0] at w11 hseb r8
                    have HGB := Lib.hid hbu0.symm
                    have HGS := Lib.hid hse0.symm
                    clear hbu0 hse0
                    generalize x.p.lv y.x i = lv at *
                    generalize x.p.tm y.x i = tm at *
                    generalize x.p.costTo y.x i = ct at *
                    obtain ⟨lv', hlv'⟩ : ∃ z, z = x.p.lv y.x (i + 1) := ⟨_, rfl⟩
                    obtain ⟨tm', htm'⟩ : ∃ z, z = x.p.tm y.x (i + 1) := ⟨_, rfl⟩
                    obtain ⟨ct', hct'⟩ : ∃ z, z = x.p.costTo y.x (i + 1) := ⟨_, rfl⟩
                    rw [← hlv'] at w6
                    rw [← htm'] at w8
                    rw [← hct'] at w11
                    generalize x.p.net y.x i = nt at *
                    generalize rawT x.p.room tm ot h = rw_ at *
                    obtain ⟨dz, hdz⟩ : ∃ z, z = drawnZ x.bat c := ⟨_, rfl⟩
                    rw [← hdz] at w6
                    obtain ⟨b1, b2, b3, b4, b5, b6, b7, b8, b9⟩ := HB.out
                    have H1 := Lib.hid w1
                    have H2 := Lib.hid w2
                    have H3 := Lib.hid w3
                    have H4 := Lib.hid w4
                    have H5 := Lib.hid w5
                    have H6 := Lib.hid w6
                    have H7 := Lib.hid w7
                    have H8 := Lib.hid w8
                    have H9 := Lib.hid w9
                    have H10 := Lib.hid w10
                    have H11 := Lib.hid w11
                    have H12 := Lib.hid w12
                    have HL := Lib.hid hl
                    have HTM := Lib.hid ht
                    have HCT := Lib.hid hct
                    have HOB := Lib.hid hob
                    have HDB := Lib.hid hdb
                    have HSB := Lib.hid hsb
                    have HBB := Lib.hid hbb
                    have HSE := Lib.hid hseb
                    have HRAW := Lib.hid hraw
                    have HDZ := Lib.hid hdz
                    have HEQ := Lib.hid (And.intro hlv' (And.intro htm' hct'))
                    clear w1 w2 w3 w4 w5 w6 w7 w8 w9 w10 w11 w12 hl ht hct hob hdb hsb hbb hseb hraw hdz hlv' htm' hct' b1 b2 b4 b5 b6 b7 b8 b9 n1 n2 n3 n4 n5 n6 n7 n8 n9 z0 z1 z2
                    go_upto_region 15 with fail
                    go_quiet (fail)
                    have a1 : IntKind.i64.wrap (-x.bat.discharge) = -x.bat.discharge := IntWalk.i64_in _ (by omega)
                    by_cases p1 : c < -x.bat.discharge
                    · as_aux_lemma =>
                        have Q := Lib.hid (HNO.out (H1.out p1))
                        go_wp2_with fail
                        go_ret2
                        exact ⟨by rw [Q.out.1, Q.out.2]; rfl, PX.bel (by first | exact HXo.out | exact HXo.out.drewN _ | exact (HXo.out.drewN _).drewN _ | exact ((HXo.out.drewN _).drewN _).drewN _ | exact (((HXo.out.drewN _).drewN _).drewN _).drewN _)⟩
                    · by_cases p2 : x.bat.charge < c
                      · as_aux_lemma =>
                          have Q := Lib.hid (HNO.out (H2.out p2))
                          go_wp2_with fail
                          go_ret2
                          exact ⟨by rw [Q.out.1, Q.out.2]; rfl, PX.bel (by first | exact HXo.out | exact HXo.out.drewN _ | exact (HXo.out.drewN _).drewN _ | exact ((HXo.out.drewN _).drewN _).drewN _ | exact (((HXo.out.drewN _).drewN _).drewN _).drewN _)⟩
                      · by_cases p3 : h < 0
                        · as_aux_lemma =>
                            have Q := Lib.hid (HNO.out (H3.out p3))
                            go_wp2_with fail
                            go_ret2
                            exact ⟨by rw [Q.out.1, Q.out.2]; rfl, PX.bel (by first | exact HXo.out | exact HXo.out.drewN _ | exact (HXo.out.drewN _).drewN _ | exact ((HXo.out.drewN _).drewN _).drewN _ | exact (((HXo.out.drewN _).drewN _).drewN _).drewN _)⟩
                        · by_cases p4 : x.steps < h
                          · as_aux_lemma =>
                              have Q := Lib.hid (HNO.out (H4.out p4))
                              go_wp2_with fail
                              go_ret2
                              exact ⟨by rw [Q.out.1, Q.out.2]; rfl, PX.bel (by first | exact HXo.out | exact HXo.out.drewN _ | exact (HXo.out.drewN _).drewN _ | exact ((HXo.out.drewN _).drewN _).drewN _ | exact (((HXo.out.drewN _).drewN _).drewN _).drewN _)⟩
                          · as_aux_lemma =>
                              have b1 := HB.out.1
                              have b2 := HB.out.2.1
                              have b4 := HB.out.2.2.2.1
                              have hl := HL.out
                              have a2 : IntKind.i64.wrap (lv + c) = lv + c := IntWalk.i64_in _ (by omega)
                              go_upto_region 19 with fail
                              clear a1
                              by_cases m1 : x.bat.cap < lv + c
                              · as_aux_lemma =>
                                  have Q := Lib.hid (HNO.out (H5.out (by omega) (by omega) (.inl m1)))
                                  go_wp2_with fail
                                  go_ret2
                                  exact ⟨by rw [Q.out.1, Q.out.2]; rfl, PX.bel (by first | exact HXo.out | exact HXo.out.drewN _ | exact (HXo.out.drewN _).drewN _ | exact ((HXo.out.drewN _).drewN _).drewN _ | exact (((HXo.out.drewN _).drewN _).drewN _).drewN _)⟩
                              · have m2' : (c < 0 ∧ lv + c < x.bat.reserve) ∨ ¬ (c < 0 ∧ lv + c < x.bat.reserve) := by omega
                                rcases m2' with m2 | m2
                                · obtain ⟨m2, m3⟩ := m2
                                  as_aux_lemma =>
                                    have Q := Lib.hid (HNO.out (H5.out (by omega) (by omega) (.inr ⟨m2, m3⟩)))
                                    go_wp2_with fail
                                    go_ret2
                                    exact ⟨by rw [Q.out.1, Q.out.2]; rfl, PX.bel (by first | exact HXo.out | exact HXo.out.drewN _ | exact (HXo.out.drewN _).drewN _ | exact ((HXo.out.drewN _).drewN _).drewN _ | exact (((HXo.out.drewN _).drewN _).drewN _).drewN _)⟩
                                · have HM : Hid (¬ (x.bat.cap < lv + c ∨ (c < 0 ∧ lv + c < x.bat.reserve))) := by show ¬ _; omega
                                  have hd : -40 ≤ dz ∧ dz ≤ 81 := by
                                    rw [HDZ.out]
                                    unfold drawnZ
                                    split
                                    · have k1 : 0 ≤ (1000 * c + x.bat.eff - 1) / x.bat.eff := Int.ediv_nonneg (by omega) (by omega)
                                      have k2 : (1000 * c + x.bat.eff - 1) / x.bat.eff < 82 := Int.ediv_lt_of_lt_mul (by omega) (by omega)
                                      omega
                                    · omega
                                  have HD := Lib.hid hd
                                  clear hd
                                  go_cut [193] (fun s193 wx => s193 = .bool false ∧ wi.drewN nq = wx)
                                  case first =>
                                    have g1 : decide (x.bat.cap < lv + c) = false := decide_eq_false m1
                                    by_cases m4 : c < 0
                                    · have m5 : ¬ lv + c < x.bat.reserve := by omega
                                      have g2 : decide (c < 0) = true := decide_eq_true m4
                                      have g3 : decide (lv + c < x.bat.reserve) = false := decide_eq_false m5
                                      clear m2
                                      go_wp2_with fail
                                      go_meet
                                      exact ⟨rfl, rfl⟩
                                    · have g2 : decide (c < 0) = false := decide_eq_false m4
                                      clear m2
                                      go_wp2_with fail
                                      go_meet
                                      exact ⟨rfl, rfl⟩
                                  case rest =>
                                  obtain ⟨rfl, rfl⟩ := hcut
                                  go_upto_if 196 with (fail)
                                  go_cut [14] (fun s14 wx => s14 = .int .i64 dz ∧ wi.drewN nq = wx)
                                  case first =>
                                      by_cases m6 : 0 < c
                                      · have hz : (1000 * c + x.bat.eff - 1) / x.bat.eff = dz := by rw [HDZ.out]; unfold drawnZ; rw [if_pos m6]
                                        obtain ⟨N, hN⟩ : ∃ N, N = 1000 * c + x.bat.eff - 1 := ⟨_, rfl⟩
                                        rw [← hN] at hz
                                        have a3 : IntKind.i64.wrap (1000 * c) = 1000 * c := IntWalk.i64_in _ (by omega)
                                        have a4 : IntKind.i64.wrap (1000 * c + x.bat.eff) = 1000 * c + x.bat.eff := IntWalk.i64_in _ (by omega)
                                        have a5 : IntKind.i64.wrap (1000 * c + x.bat.eff - 1) = N := by rw [hN]; exact IntWalk.i64_in _ (by omega)
                                        have hd := HD.out
                                        have N0 : 0 ≤ N := by omega
                                        have a6 : N.tdiv x.bat.eff = dz := by rw [Int.tdiv_eq_ediv_of_nonneg N0]; exact hz
                                        have a7 : IntKind.i64.wrap dz = dz := IntWalk.i64_in _ (by omega)
                                        have e0 : ¬ x.bat.eff = 0 := by omega
                                        clear hN hd m2
                                        go_wp2_with fail
                                        go_meet
                                        exact ⟨rfl, rfl⟩
                                      · have hz : c = dz := by rw [HDZ.out]; unfold drawnZ; rw [if_neg m6]
                                        have HZ := Lib.hid hz
                                        clear hz m2
                                        go_wp2_with fail
                                        go_meet
                                        exact ⟨by rw [HZ.out], rfl⟩
                                  case rest =>
                                    obtain ⟨rfl, rfl⟩ := hcut
                                    clear m1 m2 a2
                                    as_aux_lemma =>
                                      obtain ⟨w1, hw1⟩ : ∃ v, v = wi.drewN nq := ⟨_, rfl⟩
                                      have hbw : Below wi.heap.size wi w1 := by rw [hw1]; exact below_drewN (Below.refl _ _) _
                                      replace k0 := cell_below k0 hbw
                                      replace k1 := cell_below k1 hbw
                                      replace k2 := cell_below k2 hbw
                                      replace k3 := cell_below k3 hbw
                                      replace k4 := cell_below k4 hbw
                                      replace k5 := cell_below k5 hbw
                                      replace k6 := cell_below k6 hbw
                                      replace k7 := cell_below k7 hbw
                                      replace k8 := cell_below k8 hbw
                                      replace r0 := cell_below r0 hbw
                                      replace r1 := cell_below r1 hbw
                                      replace r2 := cell_below r2 hbw
                                      replace r3 := cell_below r3 hbw
                                      replace r4 := cell_below r4 hbw
                                      replace r5 := cell_below r5 hbw
                                      replace r6 := cell_below r6 hbw
                                      replace r7 := cell_below r7 hbw
                                      replace r8 := cell_below r8 hbw
                                      replace c2 := cell_below c2 hbw
                                      replace c6 := cell_below c6 hbw
                                      replace c7 := cell_below c7 hbw
                                      replace c8 := cell_below c8 hbw
                                      replace c9 := cell_below c9 hbw
                                      replace c10 := cell_below c10 hbw
                                      replace c11 := cell_below c11 hbw
                                      replace c12 := cell_below c12 hbw
                                      replace c13 := cell_below c13 hbw
                                      replace c14 := cell_below c14 hbw
                                      replace c17 := cell_below c17 hbw
                                      replace d2 := cell_below d2 hbw
                                      have HXp := Lib.hid (HXo.out.below hbw)
                                      clear HXo
                                      have HXo := HXp
                                      clear HXp
                                      rw [← hw1]
                                      clear hw1 hbw
                                      go_upto_region 24 with fail
                                      have hb5 := HB.out.2.2.2.2.1
                                      have hb6 := HB.out.2.2.2.2.2.1
                                      have hb7 := HB.out.2.2.2.2.2.2.1
                                      have hb8 := HB.out.2.2.2.2.2.2.2.1
                                      have ht := HTM.out
                                      have ho := HOB.out
                                      have hgh := mulB (a := x.gain) (b := h) (A := 100) (B := 40) (by omega) (by omega) (by omega) (by omega) (by omega)
                                      have hlo : -(3000 * 1000) ≤ x.loss * (tm - ot) ∧ x.loss * (tm - ot) ≤ 3000 * 1000 := by rw [Int.mul_comm x.loss]; exact mulB (by omega) (by omega) (by omega) (by omega) (by omega)
                                      have hhp := mulB (a := h) (b := x.power) (A := 40) (B := 1000) (by omega) (by omega) (by omega) (by omega) (by omega)
                                      have HRW : Hid (rw_ = tm + x.gain * h - x.loss * (tm - ot) / 1000) := HRAW.out
                                      have a3 : IntKind.i64.wrap (x.gain * h) = x.gain * h := IntWalk.i64_in _ (by omega)
                                      have a4 : IntKind.i64.wrap (tm + x.gain * h) = tm + x.gain * h := IntWalk.i64_in _ (by omega)
                                      have a5 : IntKind.i64.wrap (tm - ot) = tm - ot := IntWalk.i64_in _ (by omega)
                                      have a6 : IntKind.i64.wrap (x.loss * (tm - ot)) = x.loss * (tm - ot) := IntWalk.i64_in _ (by omega)
                                      have hfl := fun W => rfloor_any (x.loss * (tm - ot)) W (by omega) (by omega)
                                      have HFL := Lib.hid hfl
                                      have a7 : IntKind.i64.wrap (tm + x.gain * h - x.loss * (tm - ot) / 1000) = rw_ := by rw [HRW.out]; exact IntWalk.i64_in _ (by omega)
                                      have HHP := Lib.hid hhp
                                      clear hfl hgh hlo hhp ht ho hb5 hb6 hb8 HRAW
                                      go_quiet ((go_at_call 58; exact quiet_left (HFL.out _)))
                                      clear a3 a4 a5 a6 a7 HFL
                                      by_cases m1 : rw_ < lw
                                      · as_aux_lemma =>
                                          have Q := Lib.hid (HNO.out (H7.out (by omega) (by omega) (wT_false.2 (.inl m1))))
                                          go_wp2_with fail
                                          go_ret2
                                          exact ⟨by rw [Q.out.1, Q.out.2]; rfl, PX.bel (by first | exact HXo.out | exact HXo.out.drewN _ | exact (HXo.out.drewN _).drewN _ | exact ((HXo.out.drewN _).drewN _).drewN _ | exact (((HXo.out.drewN _).drewN _).drewN _).drewN _)⟩
                                      · by_cases m2 : hg < rw_
                                        · as_aux_lemma =>
                                            have Q := Lib.hid (HNO.out (H7.out (by omega) (by omega) (wT_false.2 (.inr m2))))
                                            go_wp2_with fail
                                            go_ret2
                                            exact ⟨by rw [Q.out.1, Q.out.2]; rfl, PX.bel (by first | exact HXo.out | exact HXo.out.drewN _ | exact (HXo.out.drewN _).drewN _ | exact ((HXo.out.drewN _).drewN _).drewN _ | exact (((HXo.out.drewN _).drewN _).drewN _).drewN _)⟩
                                        · have HTT : Hid (wT rw_ lw hg = true) := wT_true.2 (by omega)
                                          have h6 := H6.out (by omega) (by omega) HM.out
                                          have h8 := H8.out (by omega) (by omega) HTT.out
                                          have h10 := H10.out (by omega) (by omega) HM.out (by omega) (by omega) HTT.out
                                          have h12 := H12.out (by omega) (by omega)
                                          have HX6 := Lib.hid h6
                                          have HX8 := Lib.hid h8
                                          have HX10 := Lib.hid h10
                                          have HX12 := Lib.hid h12
                                          clear h6 h8 h10 h12 H6 H8 H10 H12 H1 H2 H3 H4 H5 H7
                                          go_upto_region 27 with fail
                                          have hhp := HHP.out
                                          have hd := HD.out
                                          have hdm := HDB.out
                                          have hso := HSB.out
                                          have a3 : IntKind.i64.wrap (dm + dz) = dm + dz := IntWalk.i64_in _ (by omega)
                                          have a4 : IntKind.i64.wrap (h * x.power) = h * x.power := IntWalk.i64_in _ (by omega)
                                          have a5 : IntKind.i64.wrap (dm + dz + h * x.power) = dm + dz + h * x.power := IntWalk.i64_in _ (by omega)
                                          obtain ⟨NB, hNB⟩ : ∃ z, z = dm + dz + h * x.power - so := ⟨_, rfl⟩
                                          have a6 : IntKind.i64.wrap (dm + dz + h * x.power - so) = NB := by rw [hNB]; exact IntWalk.i64_in _ (by omega)
                                          have HNBB : Hid (-100000 ≤ NB ∧ NB ≤ 100000) := by show _ ∧ _; omega
                                          have HNT : Hid (nt = NB + useTo x.p.loads y.x.start i x.p.loads.length) := by
                                            show _ = _
                                            rw [HX6.out.2, hNB]
                                            generalize useTo x.p.loads y.x.start i x.p.loads.length = u
                                            omega
                                          clear hhp hd hdm hso hNB m1 m2
                                          as_aux_lemma =>
                                            go_quiet (fail)
                                            clear a3 a4 a5 a6
                                            go_wp2_with fail
                                            go_loopw [16, 15] (fun s16 s15 wr => ∃ k : Nat, k ≤ x.loads.length ∧ s16 = .int .i64 k ∧ s15 = .int .i64 (NB + useTo x.p.loads y.x.start i k) ∧ Hid (PX x y w wr))
                                              (fun s16 _ _ => x.loads.length - (intOf s16).toNat)
                                            case atStart => exact ⟨0, by omega, rfl, by rw [useTo_zero, Int.add_zero], (by first | exact HXo.out | exact HXo.out.drewN _ | exact (HXo.out.drewN _).drewN _ | exact ((HXo.out.drewN _).drewN _).drewN _ | exact (((HXo.out.drewN _).drewN _).drewN _).drewN _)⟩
                                            case round =>
                                              clear k0 k1 k2 k3 k4 k5 k6 k7 k8 r0 r1 r2 r3 r4 r5 r6 r7 r8 c2 c6 c7 c8 c9 c10 c11 c12 c13 c14 c17 d2
                                              obtain ⟨k, hk, rfl, rfl, hPXk⟩ := hrel
                                              obtain ⟨wk, hwk⟩ : ∃ wo : World, wo = wr := ⟨_, rfl⟩
                                              subst hwk
                                              by_cases hlk : k < x.loads.length
                                              · have l1 : (0 : Int) ≤ (k : Int) := by omega
                                                have l2 : (k : Int) < (x.loads.length : Int) := by omega
                                                have z2 := HZ2.out
                                                have l3 : (k : Int) < (y.start.l.length : Int) := by omega
                                                have HXk := Lib.hid hPXk.out
                                                have hfit := win_fit (y := y) HGD.out hlk (show k < y.start.l.length by omega)
                                                have hus := win_use_at (x := x) (y := y) hlk (show k < y.start.l.length by omega) i
                                                have hub := useTo_bd x.p.loads y.x.start i k
                                                have hpr := (HXk.out.pr hP.out).loads.prof hlk
                                                obtain ⟨bl, ol, hLA, _, y0, y1, y2, y3⟩ := (HXk.out.pr hP.out).loads.at' hlk
                                                obtain ⟨bs, os, hSA, _, s0⟩ := (HXk.out.qr hQ.out).start.at' (show k < y.start.l.length by omega)
                                                have c17 := HXk.out.p.cell 17
                                                have d2 := HXk.out.q.cell 2
                                                simp [PbM.cs] at c17
                                                simp [PnM.cs] at d2
                                                rw [hLA] at c17
                                                rw [hSA] at d2
                                                have hfe := HFT.out
                                                simp only [Pb.fitsTo, List.all_eq_true, List.mem_range] at hfe
                                                have hin := hfit.2.2
                                                have hout : ¬ (y.start.l[k] < x.loads[k].r.early ∨ x.loads[k].r.late - (x.loads[k].r.prof.length : Int) < y.start.l[k]) := fun hb => by
                                                  have e1 := hfe k (by have := HN.out.2.2.2.2.2.2.1; omega)
                                                  exact win_nofit (y := y) HGD.out hlk (show k < y.start.l.length by omega) hb e1
                                                have hg := hfit.1
                                                rw [win_use hg] at hus
                                                clear hfit hin hfe
                                                generalize x.loads[k] = X at *
                                                generalize y.start.l[k] = s at *
                                                have g1 := hg.l1
                                                have g2 := hg.e0
                                                have g3 := hg.el
                                                have g4 := hg.p1
                                                have g5 : X.r.late ≤ 96 := by have h1 := hg.n1; omega
                                                have hpb : ∀ j, 0 ≤ X.r.prof.getD j 0 ∧ X.r.prof.getD j 0 ≤ 1000 := fun j => by
                                                  by_cases hj : j < X.r.prof.length
                                                  · have h4 := List.all_eq_true.1 hg.units (X.r.prof[j]) (List.getElem_mem hj)
                                                    rw [unitOk_true] at h4
                                                    rw [← getD_eq hj]; exact h4
                                                  · rw [List.getD, List.getElem?_eq_none (Nat.le_of_not_lt hj)]; simp
                                                have hnb := HNBB.out
                                                have hn9 := HN.out.2.2.2.2.2.2.2.2
                                                have hi96 := HN.out.2.2.2.2.2.2.2.1
                                                have hi97 : (i : Int) ≤ 96 := by omega
                                                generalize hU0 : useTo x.p.loads y.x.start i k = U0 at *
                                                obtain ⟨U1, hU1⟩ : ∃ z, z = useTo x.p.loads y.x.start i (k + 1) := ⟨_, rfl⟩
                                                rw [← hU1] at hus
                                                have HU1 := Lib.hid hU1
                                                have HPB := Lib.hid hpb
                                                have HPR := Lib.hid hpr
                                                have HS : Hid (0 ≤ s ∧ s ≤ 96) := by show _ ∧ _; omega
                                                have HUB : Hid (0 ≤ U0 ∧ U0 ≤ 4000) := by show _ ∧ _; omega
                                                have a1 : IntKind.i64.wrap ((i : Int) - s) = (i : Int) - s := IntWalk.i64_in _ (by omega)
                                                clear z2 hU1 hpb hpr hU0 hub hg g1 g2 g3 g4 g5 hout hnb hn9 hLA hSA y0 y2 y3
                                                go_upto_region 31 with fail
                                                by_cases f1 : s ≤ (i : Int)
                                                · by_cases f2 : (i : Int) - s < (X.r.prof.length : Int)
                                                  · as_aux_lemma =>
                                                      have HUS0 := hus
                                                      rw [if_pos ⟨f1, f2⟩] at HUS0
                                                      obtain ⟨j, hj⟩ : ∃ j : Nat, (j : Int) = (i : Int) - s := ⟨((i : Int) - s).toNat, by omega⟩
                                                      have hjl : j < X.r.prof.length := by omega
                                                      rw [show ((i : Int) - s).toNat = j by omega] at HUS0
                                                      obtain ⟨bp, op_, hPA, u0⟩ := HPR.out.atD hjl
                                                      have hub := HPB.out j
                                                      generalize X.r.prof.getD j 0 = u at *
                                                      have HUS := Lib.hid HUS0
                                                      clear HUS0 hus
                                                      have g1 : decide (s ≤ (i : Int)) = true := decide_eq_true f1
                                                      have g2 : decide ((i : Int) - s < (X.r.prof.length : Int)) = true := decide_eq_true f2
                                                      go_quiet (fail)
                                                      rw [hPA] at y1
                                                      clear hPA g1 g2 f1 f2 a1
                                                      go_upto_region 32 with fail
                                                      have a1 : IntKind.i64.wrap ((i : Int) - s) = (j : Int) := by rw [hj]; exact IntWalk.i64_in _ (by have := HS.out; omega)
                                                      have j0 : (0 : Int) ≤ (j : Int) := by omega
                                                      have j1 : (j : Int) < (X.r.prof.length : Int) := by omega
                                                      have hnb := HNBB.out
                                                      have hu0 := HUB.out
                                                      have a2 : IntKind.i64.wrap (NB + U0 + u) = NB + U0 + u := IntWalk.i64_in _ (by omega)
                                                      clear hj hnb hu0 hub
                                                      go_quiet (fail)
                                                      go_wp2_with fail
                                                      go_roundw
                                                      case rel => exact ⟨k + 1, by omega, by go_num, by rw [← HU1.out, HUS.out, Int.add_assoc], (by first | exact HXk.out | exact HXk.out.drewN _ | exact (HXk.out.drewN _).drewN _ | exact ((HXk.out.drewN _).drewN _).drewN _ | exact (((HXk.out.drewN _).drewN _).drewN _).drewN _)⟩
                                                      case measure => simp [intOf]; omega
                                                  · rw [if_neg (by omega)] at hus
                                                    have HUS := Lib.hid hus
                                                    clear hus
                                                    have g1 : decide (s ≤ (i : Int)) = true := decide_eq_true f1
                                                    have g2 : decide ((i : Int) - s < (X.r.prof.length : Int)) = false := decide_eq_false f2
                                                    as_aux_lemma =>
                                                      go_quiet (fail)
                                                      have HXn := Lib.hid (HXk.out.drewN nq)
                                                      go_wp2_with fail
                                                      go_roundw
                                                      case rel => exact ⟨k + 1, by omega, by go_num, by rw [← HU1.out, HUS.out, Int.add_zero], HXn.out⟩
                                                      case measure => simp [intOf]; omega
                                                · rw [if_neg (by omega)] at hus
                                                  have HUS := Lib.hid hus
                                                  clear hus
                                                  have g1 : decide (s ≤ (i : Int)) = false := decide_eq_false f1
                                                  as_aux_lemma =>
                                                    go_quiet (fail)
                                                    have HXn := Lib.hid (HXk.out.drewN nq)
                                                    go_wp2_with fail
                                                    go_roundw
                                                    case rel => exact ⟨k + 1, by omega, by go_num, by rw [← HU1.out, HUS.out, Int.add_zero], HXn.out⟩
                                                    case measure => simp [intOf]; omega
                                              · have l2 : ¬ (k : Int) < (x.loads.length : Int) := by omega
                                                have HXk := Lib.hid hPXk.out
                                                have hkl : k = x.p.loads.length := by have := HN.out.2.2.2.2.2.2.1; omega
                                                have hnt : NB + useTo x.p.loads y.x.start i k = nt := by rw [hkl]; exact HNT.out.symm
                                                rw [hnt]
                                                clear hkl hPXk hnt
                                                as_aux_lemma =>
                                                  obtain ⟨-, -, c2, -, -, -, -, -, -, -, -, -, -, -, -, -, -, c17, -, -⟩ := HXk.out.pc
                                                  have c0 := HXk.out.p.cell 0
                                                  have c1 := HXk.out.p.cell 1
                                                  simp [PbM.cs] at c0 c1
                                                  have hb9 := HB.out.2.2.2.2.2.2.2.2
                                                  have a1 : IntKind.i64.wrap (-x.fuse) = -x.fuse := IntWalk.i64_in _ (by omega)
                                                  by_cases p5 : nt < -x.fuse
                                                  · as_aux_lemma =>
                                                      have Q := Lib.hid (HNO.out (H9.out (wB_false.2 (.inl p5))))
                                                      go_wp2_with fail
                                                      go_ret2
                                                      exact ⟨by rw [Q.out.1, Q.out.2]; rfl, PX.bel (by first | exact HXk.out | exact HXk.out.drewN _ | exact (HXk.out.drewN _).drewN _ | exact ((HXk.out.drewN _).drewN _).drewN _ | exact (((HXk.out.drewN _).drewN _).drewN _).drewN _)⟩
                                                  · by_cases p6 : x.fuse < nt
                                                    · as_aux_lemma =>
                                                        have Q := Lib.hid (HNO.out (H9.out (wB_false.2 (.inr p6))))
                                                        go_wp2_with fail
                                                        go_ret2
                                                        exact ⟨by rw [Q.out.1, Q.out.2]; rfl, PX.bel (by first | exact HXk.out | exact HXk.out.drewN _ | exact (HXk.out.drewN _).drewN _ | exact ((HXk.out.drewN _).drewN _).drewN _ | exact (((HXk.out.drewN _).drewN _).drewN _).drewN _)⟩
                                                    · have HWB : Hid (wB nt (-x.fuse) x.fuse = true) := wB_true.2 (by omega)
                                                      have h11 := H11.out HWB.out
                                                      have HET := Lib.hid (And.intro (HX10.out HWB.out) HX12.out)
                                                      have hct := HCT.out
                                                      have hbu := HBB.out
                                                      have hse := HSE.out
                                                      have hm1 := mulB (a := nt) (b := bu) (A := 1000) (B := 1000000) (by omega) (by omega) (by omega) (by omega) (by omega)
                                                      have hm2 := mulB (a := nt) (b := se) (A := 1000) (B := 1000000) (by omega) (by omega) (by omega) (by omega) (by omega)
                                                      have hi96 := HN.out.2.2.2.2.2.2.2.1
                                                      have a2 : IntKind.i64.wrap (nt * bu) = nt * bu := IntWalk.i64_in _ (by omega)
                                                      have a3 : IntKind.i64.wrap (nt * se) = nt * se := IntWalk.i64_in _ (by omega)
                                                      have a4 : IntKind.i64.wrap (ct + nt * bu) = ct + nt * bu := IntWalk.i64_in _ (by omega)
                                                      have a5 : IntKind.i64.wrap (ct + nt * se) = ct + nt * se := IntWalk.i64_in _ (by omega)
                                                      obtain ⟨bbuy2, obuy2, hAb, rb⟩ := (HXk.out.pr hP.out).buy.atD (k := i) hlt
                                                      obtain ⟨bsell2, osell2, hAs, rs⟩ := (HXk.out.pr hP.out).sell.atD (k := i) (by have := HN.out.1; omega)
                                                      rw [hAb] at c0
                                                      rw [hAs] at c1
                                                      rw [HGB.out] at rb
                                                      rw [HGS.out] at rs
                                                      have HEQ6 := Lib.hid (HX6.out.1)
                                                      clear hct hbu hse hm1 hm2 hAb hAs
                                                      by_cases p7 : 0 ≤ nt
                                                      · rw [if_pos p7] at h11
                                                        have H11b := Lib.hid h11
                                                        clear h11
                                                        go_wp2_with fail
                                                        go_roundw
                                                        case rel => exact ⟨i + 1, by omega, by go_num, by rw [← HEQ.out.1, HEQ6.out], by rw [← HEQ.out.2.1, HX8.out], by rw [← HEQ.out.2.2, H11b.out], HET.out, HXk.out⟩
                                                        case measure => simp [intOf]; omega
                                                      · rw [if_neg p7] at h11
                                                        have H11b := Lib.hid h11
                                                        clear h11
                                                        go_wp2_with fail
                                                        go_roundw
                                                        case rel => exact ⟨i + 1, by omega, by go_num, by rw [← HEQ.out.1, HEQ6.out], by rw [← HEQ.out.2.1, HX8.out], by rw [← HEQ.out.2.2, H11b.out], HET.out, HXk.out⟩
                                                        case measure => simp [intOf]; omega
                · have j2 : ¬ (i : Int) < (x.buy.l.length : Int) := by omega
                  have hin : i = x.buy.l.length := by omega
                  have hend := Pb.win_end (Pb.chk_of HGD.out) HSZ.out HFT.out (fun j hj => hET.out.2 j (by have : x.p.n = x.buy.l.length := rfl; omega)) (by rw [show x.p.n = i from hin.symm]; exact hET.out.1)
                  have hY := HYES.out hend.1
                  have hcost : x.p.win y.x = x.p.costTo y.x i := by rw [hY.1, hend.2, hin]; rfl
                  have HC := Lib.hid (And.intro hcost hY.2)
                  clear hcost hY hend hin hET
                  go_wp2_with fail
                  go_ret2
                  exact ⟨by rw [HC.out.1, HC.out.2]; rfl, hPXi.out.bel⟩
      · have q2 : ((y.start.l.length : Int) != (x.loads.length : Int)) = true := by rw [bne_iff_ne]; omega
        as_aux_lemma =>
          have Q := Lib.hid (HNO.out (Pb.sized_ne (by unfold Pb.sized; rw [decide_eq_false_iff_not]; rintro ⟨u0, u1, u2⟩; exact absurd ((show y.start.l.length = _ from u2).trans HN.out.2.2.2.2.2.2.1) z2)))
          clear z2 q3 q4 q5 q6 q7 q8 e10
          go_enter Try.func20, Try.ntmps20
          go_upto_region 1 with fail
          rw [← hWH.out]
          clear hWH
          obtain ⟨c0, -, -, -, -, -, -, -, -, -, -, -, -, -, -, -, -, c17, -, -⟩ := hst.out.pc
          obtain ⟨d0, d1, d2⟩ := hst.out.qc
          go_wp2_with fail
          go_ret2
          exact ⟨by rw [Q.out.1, Q.out.2]; rfl, hst.out.bel⟩
    · have q1 : ((y.heat.l.length : Int) != (x.buy.l.length : Int)) = true := by rw [bne_iff_ne]; omega
      as_aux_lemma =>
        have Q := Lib.hid (HNO.out (Pb.sized_ne (by unfold Pb.sized; rw [decide_eq_false_iff_not]; rintro ⟨u0, u1, u2⟩; exact absurd (show y.heat.l.length = _ from u1) z1)))
        clear z1 q3 q4 q5 q6 q7 q8 e10
        go_enter Try.func20, Try.ntmps20
        go_upto_region 1 with fail
        rw [← hWH.out]
        clear hWH
        obtain ⟨c0, -, -, -, -, -, -, -, -, -, -, -, -, -, -, -, -, -, -, -⟩ := hst.out.pc
        obtain ⟨d0, d1, -⟩ := hst.out.qc
        go_wp2_with fail
        go_ret2
        exact ⟨by rw [Q.out.1, Q.out.2]; rfl, hst.out.bel⟩
  · have q0 : ((y.charge.l.length : Int) != (x.buy.l.length : Int)) = true := by rw [bne_iff_ne]; omega
    as_aux_lemma =>
      have Q := Lib.hid (HNO.out (Pb.sized_ne (by unfold Pb.sized; rw [decide_eq_false_iff_not]; rintro ⟨u0, u1, u2⟩; exact absurd (show y.charge.l.length = _ from u0) z0)))
      clear z0 q3 q4 q5 q6 q7 q8 e10
      go_enter Try.func20, Try.ntmps20
      go_upto_region 1 with fail
      rw [← hWH.out]
      clear hWH
      obtain ⟨c0, -, -, -, -, -, -, -, -, -, -, -, -, -, -, -, -, -, -, -⟩ := hst.out.pc
      obtain ⟨d0, -, -⟩ := hst.out.qc
      go_wp2_with fail
      go_ret2
      exact ⟨by rw [Q.out.1, Q.out.2]; rfl, hst.out.bel⟩
end Go.Proofs.Ytnppngaabfhkpaa
