/-
  The walks of layer 42 (plan), part 18: Idle of the reference.
-/
import Derived.Test.YtdheockmphdakaaQP17
namespace Go.Proofs.Ytdheockmphdakaa
open Go.RowKit
attribute [local go_sem ↓] Go.wp_at_zero Go.wp_at_succ

theorem le_al (w : World) (o : Obj) : w.heap.size ≤ (w.alloc o).heap.size := by simp
theorem cell_setFar {w : World} {p q : Addr} {v u : Value} (h : w.cell? q = some v) (hne : q.block ≠ p.block) : (w.setCell p u).cell? q = some v := by
  rw [World.cell?_setCell_other w p q u (fun e => hne (by rw [e]))]
  exact h
set_option maxRecDepth 100000 in
set_option maxHeartbeats 16000000 in
theorem ridle_any (x : PbM) (w : World) (hP0 : RPb w x) (hF0 : x.Fit) :
    Calls Try.prog 29 #[x.v] w (IdleOut x.p.idle w) := by
  have hP := Lib.hid hP0
  have hc0 := fun W (h : RPb W x) => rpcheck_any x W h hF0
  have hst0 := PX.start x PnM.zero w
  simp only [PbM.v]
  obtain ⟨W, hW⟩ : ∃ W, W = (w.alloc (.cells #[.slice x.buy.A x.buy.l.length x.buy.c, .slice x.sell.A x.sell.l.length x.sell.c, .int .i64 x.fuse, .slice x.solar.A x.solar.l.length x.solar.c, .slice x.demand.A x.demand.l.length x.demand.c, .slice x.outside.A x.outside.l.length x.outside.c, .int .i64 x.bat.cap, .int .i64 x.bat.reserve, .int .i64 x.bat.charge, .int .i64 x.bat.discharge, .int .i64 x.bat.eff, .int .i64 x.gain, .int .i64 x.loss, .int .i64 x.steps, .int .i64 x.power, .slice x.low.A x.low.l.length x.low.c, .slice x.high.A x.high.l.length x.high.c, .slice x.LA x.loads.length x.lc, .int .i64 x.level, .int .i64 x.temp] 31)).alloc (.cells #[.slice none 0 0, .slice none 0 0, .slice none 0 0] 37) := ⟨_, rfl⟩
  rw [show (w.alloc (.cells x.cs 31)).alloc (.cells PnM.zero.cs 37) = W from hW.symm] at hst0
  have hst := Lib.hid hst0
  have hWH := Lib.hid hW
  clear hst0 hW hP0
  by_cases hck : x.p.chk = 0
  · have hgood := Pb.good hck
    have hnbd := Pb.nbd hgood
    have hld4 := Pb.loads4 hgood
    have hel : x.p.loads.length = x.loads.length := by simp [PbM.p]
    rw [hel] at hld4
    have hid : x.p.idle = ⟨List.replicate x.buy.l.length 0, List.replicate x.buy.l.length 0, x.p.earlies x.loads.length⟩ := by
      unfold Pb.idle; rw [if_neg (by simp [hck])]
      unfold Pb.earlies; rw [← hel, List.take_length]; rfl
    have hn0 : 1 ≤ x.buy.l.length ∧ x.buy.l.length ≤ 96 := hnbd
    have hsu0 : ∀ k (h : k < x.loads.length), x.p.earlies (k + 1) = x.p.earlies k ++ [x.loads[k].r.early] := fun k h => by
      rw [Pb.earlies_succ (by rw [hel]; exact h)]; simp [PbM.p]
    have hsu := Lib.hid hsu0
    have hln := Lib.hid (fun k (h : k ≤ x.loads.length) => Pb.earlies_len (p := x.p) (k := k) (by rw [hel]; exact h))
    have hid2 := Lib.hid hid
    rw [hck] at hc0
    have hc := Lib.hid hc0
    clear hid hel hgood hnbd hc0 hck hsu0
    have hmk := Lib.hid (run_make_row' (P := Try.prog) 22 3 (.int .i64 0) 8 Try.underlying22 Try.infoInt rfl .i64 .i64 x.buy.l.length (by omega) (by omega))
    obtain ⟨i0, hi, hz0, hz1, hz2⟩ := info_parts Try.infoInt
    go_enter Try.func29, Try.ntmps29
    go_upto_region 1 with fail
    rw [← hWH.out]
    clear hWH
    go_wp2_with (refine wpList_load_problem rfl _ rfl w.heap.size rfl x hst.out.p ?_)
    refine (hc.out _ (hst.out.pr hP.out)).mono ?_
    rintro e w1 ⟨rfl, hb1⟩
    have HX1 := Lib.hid (hst.out.below hb1)
    clear hb1 hst
    have c0 := HX1.out.pc.1
    go_upto_region 4 with fail
    clear c0
    have hmk1 := hmk.out
    have hlt1 := HX1.out.lt
    go_cut [4] (fun s4 wx => ∃ (g : Nat) (A1 A2 : Option Addr), s4 = .pointer (some ⟨g, 0, none⟩) ∧ Hid (PX x PnM.zero w wx) ∧ Hid (w.heap.size + 2 ≤ g) ∧ Hid (Blk wx g 37 #[.slice A1 x.buy.l.length x.buy.l.length, .slice A2 x.buy.l.length x.buy.l.length, .slice none 0 0]) ∧
      Hid (RInts wx A1 (List.replicate x.buy.l.length 0)) ∧ Hid (RInts wx A2 (List.replicate x.buy.l.length 0)) ∧ Hid (∀ ad, A1 = some ad → ad.block ≠ g ∧ ad.block < wx.heap.size ∧ w.heap.size + 2 ≤ ad.block) ∧ Hid (∀ ad, A2 = some ad → ad.block ≠ g ∧ ad.block < wx.heap.size ∧ w.heap.size + 2 ≤ ad.block))
    case first =>
      go_region
      all_goals
        go_wp2_with fail
        go_meet
        first
          | (refine ⟨_, some ⟨w1.heap.size, 0, none⟩, some ⟨w1.heap.size + 1, 0, none⟩, rfl, (((HX1.out.alloc _).alloc _).alloc _).below (Below.drew (Below.refl _ _)), ?_, ?_, ?_, ?_, ?_, ?_⟩; rotate_left; (first | exact blk3_0 _ _ _ _ _ | exact blk3_1 _ _ _ _ _ | exact blk3_2 _ _ _ _ _); (first | exact rints3_0 _ _ _ _ _ | exact rints3_1 _ _ _ _ _ | exact rints3_2 _ _ _ _ _); (first | exact rints3_0 _ _ _ _ _ | exact rints3_1 _ _ _ _ _ | exact rints3_2 _ _ _ _ _); (intro ad e; injection e with e; subst e; refine ⟨?_, ?_, ?_⟩ <;> simp [World.drew] <;> omega); (intro ad e; injection e with e; subst e; refine ⟨?_, ?_, ?_⟩ <;> simp [World.drew] <;> omega); (show _ ≤ _; omega))
          | (refine ⟨_, some ⟨w1.heap.size, 0, none⟩, some ⟨w1.heap.size + 1 + 1, 0, none⟩, rfl, (((HX1.out.alloc _).alloc _).alloc _).below (Below.drew (Below.refl _ _)), ?_, ?_, ?_, ?_, ?_, ?_⟩; rotate_left; (first | exact blk3_0 _ _ _ _ _ | exact blk3_1 _ _ _ _ _ | exact blk3_2 _ _ _ _ _); (first | exact rints3_0 _ _ _ _ _ | exact rints3_1 _ _ _ _ _ | exact rints3_2 _ _ _ _ _); (first | exact rints3_0 _ _ _ _ _ | exact rints3_1 _ _ _ _ _ | exact rints3_2 _ _ _ _ _); (intro ad e; injection e with e; subst e; refine ⟨?_, ?_, ?_⟩ <;> simp [World.drew] <;> omega); (intro ad e; injection e with e; subst e; refine ⟨?_, ?_, ?_⟩ <;> simp [World.drew] <;> omega); (show _ ≤ _; omega))
          | (refine ⟨_, some ⟨w1.heap.size + 1, 0, none⟩, some ⟨w1.heap.size, 0, none⟩, rfl, (((HX1.out.alloc _).alloc _).alloc _).below (Below.drew (Below.refl _ _)), ?_, ?_, ?_, ?_, ?_, ?_⟩; rotate_left; (first | exact blk3_0 _ _ _ _ _ | exact blk3_1 _ _ _ _ _ | exact blk3_2 _ _ _ _ _); (first | exact rints3_0 _ _ _ _ _ | exact rints3_1 _ _ _ _ _ | exact rints3_2 _ _ _ _ _); (first | exact rints3_0 _ _ _ _ _ | exact rints3_1 _ _ _ _ _ | exact rints3_2 _ _ _ _ _); (intro ad e; injection e with e; subst e; refine ⟨?_, ?_, ?_⟩ <;> simp [World.drew] <;> omega); (intro ad e; injection e with e; subst e; refine ⟨?_, ?_, ?_⟩ <;> simp [World.drew] <;> omega); (show _ ≤ _; omega))
          | (refine ⟨_, some ⟨w1.heap.size + 1, 0, none⟩, some ⟨w1.heap.size + 1 + 1, 0, none⟩, rfl, (((HX1.out.alloc _).alloc _).alloc _).below (Below.drew (Below.refl _ _)), ?_, ?_, ?_, ?_, ?_, ?_⟩; rotate_left; (first | exact blk3_0 _ _ _ _ _ | exact blk3_1 _ _ _ _ _ | exact blk3_2 _ _ _ _ _); (first | exact rints3_0 _ _ _ _ _ | exact rints3_1 _ _ _ _ _ | exact rints3_2 _ _ _ _ _); (first | exact rints3_0 _ _ _ _ _ | exact rints3_1 _ _ _ _ _ | exact rints3_2 _ _ _ _ _); (intro ad e; injection e with e; subst e; refine ⟨?_, ?_, ?_⟩ <;> simp [World.drew] <;> omega); (intro ad e; injection e with e; subst e; refine ⟨?_, ?_, ?_⟩ <;> simp [World.drew] <;> omega); (show _ ≤ _; omega))
          | (refine ⟨_, some ⟨w1.heap.size + 1 + 1, 0, none⟩, some ⟨w1.heap.size, 0, none⟩, rfl, (((HX1.out.alloc _).alloc _).alloc _).below (Below.drew (Below.refl _ _)), ?_, ?_, ?_, ?_, ?_, ?_⟩; rotate_left; (first | exact blk3_0 _ _ _ _ _ | exact blk3_1 _ _ _ _ _ | exact blk3_2 _ _ _ _ _); (first | exact rints3_0 _ _ _ _ _ | exact rints3_1 _ _ _ _ _ | exact rints3_2 _ _ _ _ _); (first | exact rints3_0 _ _ _ _ _ | exact rints3_1 _ _ _ _ _ | exact rints3_2 _ _ _ _ _); (intro ad e; injection e with e; subst e; refine ⟨?_, ?_, ?_⟩ <;> simp [World.drew] <;> omega); (intro ad e; injection e with e; subst e; refine ⟨?_, ?_, ?_⟩ <;> simp [World.drew] <;> omega); (show _ ≤ _; omega))
          | (refine ⟨_, some ⟨w1.heap.size + 1 + 1, 0, none⟩, some ⟨w1.heap.size + 1, 0, none⟩, rfl, (((HX1.out.alloc _).alloc _).alloc _).below (Below.drew (Below.refl _ _)), ?_, ?_, ?_, ?_, ?_, ?_⟩; rotate_left; (first | exact blk3_0 _ _ _ _ _ | exact blk3_1 _ _ _ _ _ | exact blk3_2 _ _ _ _ _); (first | exact rints3_0 _ _ _ _ _ | exact rints3_1 _ _ _ _ _ | exact rints3_2 _ _ _ _ _); (first | exact rints3_0 _ _ _ _ _ | exact rints3_1 _ _ _ _ _ | exact rints3_2 _ _ _ _ _); (intro ad e; injection e with e; subst e; refine ⟨?_, ?_, ?_⟩ <;> simp [World.drew] <;> omega); (intro ad e; injection e with e; subst e; refine ⟨?_, ?_, ?_⟩ <;> simp [World.drew] <;> omega); (show _ ≤ _; omega))
    case rest =>
      obtain ⟨g, A1, A2, rfl, hPX, hg, hO, hA1, hA2, hd1, hd2⟩ := hcut
      have c17 := hPX.out.pc.2.2.2.2.2.2.2.2.2.2.2.2.2.2.2.2.2.1
      have HGl : Hid (g < wc.heap.size) := hO.out.lt
      go_wp2_with fail
      clear c17
      obtain ⟨B, hB⟩ : ∃ B, B = wc.heap.size := ⟨_, rfl⟩
      rw [← hB] at hd1 hd2 HGl
      have HF1 : Hid (∀ ad, A1 = some ad → ad.block ≠ w.heap.size + 1) := fun ad e => by have := (hd1.out ad e).2.2; omega
      have HF2 : Hid (∀ ad, A2 = some ad → ad.block ≠ w.heap.size + 1) := fun ad e => by have := (hd2.out ad e).2.2; omega
      have HB : Hid (B ≤ wc.heap.size) := Nat.le_of_eq hB
      have HB2 : Hid (w.heap.size + 2 ≤ B) := Nat.le_trans hg.out (Nat.le_of_lt HGl.out)
      clear hB
      go_loopw [22] (fun s23 wr => ∃ (k : Nat) (v : Value), k ≤ x.loads.length ∧ s23 = .int .i64 k ∧ Hid (PX x PnM.zero w wr) ∧ Hid (Blk wr g 37 #[.slice A1 x.buy.l.length x.buy.l.length, .slice A2 x.buy.l.length x.buy.l.length, v]) ∧
          Hid (RInts wr A1 (List.replicate x.buy.l.length 0)) ∧ Hid (RInts wr A2 (List.replicate x.buy.l.length 0)) ∧ Hid (wr.ownsRow B 3 1 v k (ints (x.p.earlies k))) ∧ Hid (B ≤ wr.heap.size))
        (fun s23 _ => x.loads.length - (intOf s23).toNat)
      case atStart => exact ⟨0, _, by omega, rfl, hPX.out, hO.out, hA1.out, hA2.out, World.ownsRow_nil _ _ _ _, HB.out⟩
      case round =>
        obtain ⟨k, v, hk, rfl, hX, hW, hI1, hI2, hown, hBw⟩ := hrel
        obtain ⟨wo, hwo⟩ : ∃ wo : World, wo = wr := ⟨_, rfl⟩
        subst hwo
        obtain ⟨A3, c3, rfl⟩ := own_form hown.out
        have hWl : Hid (g < wo.heap.size) := hW.out.lt
        by_cases hlt : k < x.loads.length
        · obtain ⟨b, of, hAe, hb, y0, y1, y2, y3⟩ := (hX.out.pr hP.out).loads.at' hlt
          have HSU := Lib.hid (hsu.out k hlt)
          generalize x.loads[k] = X at *
          have c17 := hX.out.pc.2.2.2.2.2.2.2.2.2.2.2.2.2.2.2.2.2.1
          rw [hAe] at c17
          have hbw : b < w.heap.size := by
            obtain ⟨b2, of2, hAe2, hb2, _⟩ := hP.out.loads.at' hlt
            rw [hAe] at hAe2
            injection hAe2 with hAe2
            injection hAe2 with h1 h2 h3
            omega
          have HBW := Lib.hid hbw
          have z2 := hW.out.cell 2
          have z0 := hW.out.cell 0
          have z1 := hW.out.cell 1
          have f2 := hW.out.frozen 2
          simp at z0 z1 z2
          have i1 : (0 : Int) ≤ (k : Int) := by omega
          have i2 : (k : Int) < (x.loads.length : Int) := by omega
          have hgl := hWl.out
          have hlit := rints_lit (wo.drew) #[.int .i64 X.r.early] 3 (l := [X.r.early]) rfl
          have HNW : Hid (Reads (wo.drew.alloc (.cells #[.int .i64 X.r.early] 3)) (wo.heap.size + 1) 1 (some ⟨wo.heap.size, 0, none⟩) 1 [.int .i64 X.r.early]) := by
            show Reads _ _ _ _ _ _
            have h := hlit
            unfold RInts at h
            rw [World.size_alloc] at h
            exact h
          have HOW : Hid ((wo.drew.alloc (.cells #[.int .i64 X.r.early] 3)).ownsRow B 3 1 (.slice A3 k c3) k (ints (x.p.earlies k))) := (own_drewN hown.out 1).alloc _
          clear hAe hlit hb hbw y0 y1 y3
          go_wp2_with fail
          refine wp_region_held_drew (S := (fun w' => w'.cell? ⟨w.heap.size, 17, none⟩ = some (.slice (some ⟨b, of, none⟩) x.loads.length x.lc) ∧ w'.cell? ⟨b, of + k * 4 + 2, none⟩ = some (.int .i64 X.r.early))) (by kernel_rfl) ⟨c17, y2⟩ (fun hHeld => ?_)
          refine wpAnyH_take (i := 0) (v := ?_) rfl (by kernel_rfl) (by kernel_rfl) (by kernel_rfl) (fun _ _ _ h => h) (Or.inl ⟨by rfl, ?_⟩) (by assumption) ?_
          rotate_left
          · (intro w' hSw; (try dsimp only at hSw); go_simp; try with_reducible rfl)
          (try simp only [List.getElem_toArray, List.getElem_cons_zero, Act.put, List.setIfInBounds_toArray, List.set_cons_zero, List.set_cons_succ])
          refine wpAnyH_take (i := 2) (v := ?_) rfl (by kernel_rfl) (by kernel_rfl) (by kernel_rfl) (fun _ _ _ h => h) (Or.inl ⟨by rfl, ?_⟩) (by assumption) ?_
          rotate_left
          · (intro w' hSw; (try dsimp only at hSw); go_simp; try with_reducible rfl)
          (try simp only [List.getElem_toArray, List.getElem_cons_zero, List.getElem_cons_succ, Act.put, List.setIfInBounds_toArray, List.set_cons_zero, List.set_cons_succ])
          refine wpAnyH_take (i := 3) (v := ?_) rfl (by kernel_rfl) (by kernel_rfl) (by kernel_rfl) (fun _ _ _ h => h) (Or.inl ⟨by rfl, ?_⟩) (by assumption) ?_
          rotate_left
          · (intro w' hSw; (try dsimp only at hSw); go_simp; try with_reducible rfl)
          (try simp only [List.getElem_toArray, List.getElem_cons_zero, List.getElem_cons_succ, Act.put, List.setIfInBounds_toArray, List.set_cons_zero, List.set_cons_succ])
          refine wpAnyH_take (i := 4) (v := ?_) rfl (by kernel_rfl) (by kernel_rfl) (by kernel_rfl) (fun _ _ _ h => h) (Or.inl ⟨by rfl, ?_⟩) (by assumption) ?_
          rotate_left
          · (intro w' hSw; (try dsimp only at hSw); go_simp; try with_reducible rfl)
          (try simp only [List.getElem_toArray, List.getElem_cons_zero, List.getElem_cons_succ, Act.put, List.setIfInBounds_toArray, List.set_cons_zero, List.set_cons_succ])
          refine wpAnyH_take (i := 5) (v := ?_) rfl (by kernel_rfl) (by kernel_rfl) (by kernel_rfl) (fun _ _ _ h => h) (Or.inl ⟨by rfl, ?_⟩) (by assumption) ?_
          rotate_left
          · (intro w' hSw; (try dsimp only at hSw); go_simp; try with_reducible rfl)
          (try simp only [List.getElem_toArray, List.getElem_cons_zero, List.getElem_cons_succ, Act.put, List.setIfInBounds_toArray, List.set_cons_zero, List.set_cons_succ])
          refine wpAnyH_take (i := 6) (v := ?_) rfl (by kernel_rfl) (by kernel_rfl) (by kernel_rfl) (fun _ _ _ h => h) (Or.inl ⟨by rfl, ?_⟩) (by assumption) ?_
          rotate_left
          · (intro w' hSw; (try dsimp only at hSw); go_simp; try with_reducible rfl)
          (try simp only [List.getElem_toArray, List.getElem_cons_zero, List.getElem_cons_succ, Act.put, List.setIfInBounds_toArray, List.set_cons_zero, List.set_cons_succ])
          refine wpAnyH_take (i := 7) (v := ?_) rfl (by kernel_rfl) (by kernel_rfl) (by kernel_rfl) (fun _ _ _ h => h) (Or.inl ⟨by rfl, ?_⟩) (by assumption) ?_
          rotate_left
          · (intro w' hSw; (try dsimp only at hSw); go_simp; try with_reducible rfl)
          (try simp only [List.getElem_toArray, List.getElem_cons_zero, List.getElem_cons_succ, Act.put, List.setIfInBounds_toArray, List.set_cons_zero, List.set_cons_succ])
          refine wpAnyH_ready (rs := [1, 8]) (by kernel_rfl) (by simp) ?_
          refine (AllReadyH.cons rfl (fun K hK => ?_) (AllReadyH.cons rfl (fun K hK => ?_) AllReadyH.nil))
          · have HKK := Lib.hid hK
            clear hK
            go_simp
            refine HKK.out _ _ (hHeld) (fun hH2 => ?_)
            clear HKK K
            replace hHeld := hH2
            clear hH2
            (try simp only [List.getElem_toArray, List.getElem_cons_zero, List.getElem_cons_succ, Act.put, List.setIfInBounds_toArray, List.set_cons_zero, List.set_cons_succ])
            refine wpAnyH_ready (rs := [8]) (by kernel_rfl) (by simp) ?_
            refine (AllReadyH.cons rfl (fun K hK => ?_) AllReadyH.nil)
            have HKK := Lib.hid hK
            clear hK
            go_simp
            refine HKK.out _ _ (⟨cell_alloc hHeld.1, cell_alloc hHeld.2⟩) (fun hH2 => ?_)
            clear HKK K
            replace hHeld := hH2
            clear hH2
            (try simp only [List.getElem_toArray, List.getElem_cons_zero, List.getElem_cons_succ, Act.put, List.setIfInBounds_toArray, List.set_cons_zero, List.set_cons_succ])
            refine wpAnyH_ready (rs := [9]) (by kernel_rfl) (by simp) ?_
            refine (AllReadyH.cons rfl (fun K hK => ?_) AllReadyH.nil)
            have HKK := Lib.hid hK
            clear hK
            refine step_append_any _ (by rfl) _ _ _ (by rfl) B 3 i0 (.int .i64 0) 1 8 Try.underlying22 hi hz0 hz1 hz2 rfl (by decide) _ k (ints (x.p.earlies k)) (by rfl) (HOW.out) (wo.heap.size + 1) (some ⟨wo.heap.size, 0, none⟩) 1 1 [.int .i64 X.r.early] (by rfl) HNW.out (by intro u hu; rw [List.mem_singleton] at hu; subst hu; rfl) (by unfold maxLen; omega) (by omega) (Nat.le_trans hBw.out (le_al wo _)) ?_
            intro v' wb hob hgb hvb
            have hbO : Below B wo wb := (Below.drew (Below.refl B wo)).alloc (by have := hBw.out; show B ≤ wo.heap.size; exact this) (.cells #[.int .i64 X.r.early] 3) |>.grown hgb (Nat.le_trans hBw.out (le_al wo _)) (fun m hm => (HOW.out.lt m hm).1)
            obtain ⟨A4, c4, rfl⟩ := own_form hob
            have hXb := Lib.hid (hX.out.above hbO HB2.out)
            have hWb := Lib.hid (hW.out.below hbO HGl.out)
            have hI1b := Lib.hid (hI1.out.under hbO (fun ad e => (hd1.out ad e).2.1))
            have hI2b := Lib.hid (hI2.out.under hbO (fun ad e => (hd2.out ad e).2.1))
            have hBwb := Lib.hid (Nat.le_trans hBw.out hbO.size)
            have c17b := (hbO.cell (p := ⟨w.heap.size, 17, none⟩) (by have := HB2.out; show w.heap.size < B; omega)).trans c17
            have y2b := (hbO.cell (p := ⟨b, of + k * 4 + 2, none⟩) (by have := HB2.out; have := HBW.out; show b < B; omega)).trans y2
            have z0b := hWb.out.cell 0
            have z1b := hWb.out.cell 1
            have z2b := hWb.out.cell 2
            have f2b := hWb.out.frozen 2
            simp at z0b z1b z2b
            have hownb : Hid ((wb.setCell ⟨g, 2, none⟩ (.slice A4 (k + 1) c4)).ownsRow B 3 1 (.slice A4 (k + 1) c4) (k + 1) (ints (x.p.earlies (k + 1)))) := by
              show World.ownsRow _ _ _ _ _ _ _
              rw [HSU.out, ints_append]
              exact own_setCell hob (p := ⟨g, 2, none⟩) HGl.out _
            clear hbO hob hgb hvb
            refine HKK.out _ _ (⟨c17b, y2b⟩) (fun hH2 => ?_)
            clear HKK K
            replace hHeld := hH2
            clear hH2
            (try simp only [List.getElem_toArray, List.getElem_cons_zero, List.getElem_cons_succ, Act.put, List.setIfInBounds_toArray, List.set_cons_zero, List.set_cons_succ])
            refine wpAnyH_take (i := 10) (v := ?_) rfl (by kernel_rfl) (by kernel_rfl) (by kernel_rfl) (fun _ _ _ h => h) (Or.inl ⟨by rfl, ?_⟩) (by assumption) ?_
            rotate_left
            · (intro w' hSw; (try dsimp only at hSw); go_simp; try with_reducible rfl)
            (try simp only [List.getElem_toArray, List.getElem_cons_zero, List.getElem_cons_succ, Act.put, List.setIfInBounds_toArray, List.set_cons_zero, List.set_cons_succ])
            refine wpAnyH_ready (rs := [11]) (by kernel_rfl) (by simp) ?_
            refine (AllReadyH.cons rfl (fun K hK => ?_) AllReadyH.nil)
            have HKK := Lib.hid hK
            clear hK
            go_simp
            refine HKK.out _ _ (⟨cell_setFar c17b (by show w.heap.size ≠ g; have := hg.out; omega), cell_setFar y2b (by show b ≠ g; have := hg.out; have := HBW.out; omega)⟩) (fun hH2 => ?_)
            clear HKK K
            replace hHeld := hH2
            clear hH2
            (try simp only [List.getElem_toArray, List.getElem_cons_zero, List.getElem_cons_succ, Act.put, List.setIfInBounds_toArray, List.set_cons_zero, List.set_cons_succ])
            refine wpAnyH_done (by kernel_rfl) ?_ _
            go_wp2_with fail
            go_roundw
            case rel =>
              refine ⟨k + 1, _, by omega, by go_num, ?_, ?_, hI1b.out.setFar (p := ⟨g, 2, none⟩) (fun ad e => (hd1.out ad e).1) _, hI2b.out.setFar (p := ⟨g, 2, none⟩) (fun ad e => (hd2.out ad e).1) _, hownb.out, ?_⟩
              · exact hXb.out.above ((Below.refl (w.heap.size + 2) wb).setCell hg.out _) (Nat.le_refl _)
              · show Blk _ _ _ _
                have := hWb.out.set_ 2 (.slice A4 (k + 1) c4)
                simpa using this
              · show _ ≤ _
                simpa [World.setCell] using hBwb.out
            case measure => simp [intOf]; omega
          · have HKK := Lib.hid hK
            clear hK
            go_simp
            refine HKK.out _ _ (⟨cell_alloc hHeld.1, cell_alloc hHeld.2⟩) (fun hH2 => ?_)
            clear HKK K
            replace hHeld := hH2
            clear hH2
            (try simp only [List.getElem_toArray, List.getElem_cons_zero, List.getElem_cons_succ, Act.put, List.setIfInBounds_toArray, List.set_cons_zero, List.set_cons_succ])
            refine wpAnyH_ready (rs := [1]) (by kernel_rfl) (by simp) ?_
            refine (AllReadyH.cons rfl (fun K hK => ?_) AllReadyH.nil)
            have HKK := Lib.hid hK
            clear hK
            go_simp
            refine HKK.out _ _ (hHeld) (fun hH2 => ?_)
            clear HKK K
            replace hHeld := hH2
            clear hH2
            (try simp only [List.getElem_toArray, List.getElem_cons_zero, List.getElem_cons_succ, Act.put, List.setIfInBounds_toArray, List.set_cons_zero, List.set_cons_succ])
            refine wpAnyH_ready (rs := [9]) (by kernel_rfl) (by simp) ?_
            refine (AllReadyH.cons rfl (fun K hK => ?_) AllReadyH.nil)
            have HKK := Lib.hid hK
            clear hK
            refine step_append_any _ (by rfl) _ _ _ (by rfl) B 3 i0 (.int .i64 0) 1 8 Try.underlying22 hi hz0 hz1 hz2 rfl (by decide) _ k (ints (x.p.earlies k)) (by rfl) (HOW.out) (wo.heap.size + 1) (some ⟨wo.heap.size, 0, none⟩) 1 1 [.int .i64 X.r.early] (by rfl) HNW.out (by intro u hu; rw [List.mem_singleton] at hu; subst hu; rfl) (by unfold maxLen; omega) (by omega) (Nat.le_trans hBw.out (le_al wo _)) ?_
            intro v' wb hob hgb hvb
            have hbO : Below B wo wb := (Below.drew (Below.refl B wo)).alloc (by have := hBw.out; show B ≤ wo.heap.size; exact this) (.cells #[.int .i64 X.r.early] 3) |>.grown hgb (Nat.le_trans hBw.out (le_al wo _)) (fun m hm => (HOW.out.lt m hm).1)
            obtain ⟨A4, c4, rfl⟩ := own_form hob
            have hXb := Lib.hid (hX.out.above hbO HB2.out)
            have hWb := Lib.hid (hW.out.below hbO HGl.out)
            have hI1b := Lib.hid (hI1.out.under hbO (fun ad e => (hd1.out ad e).2.1))
            have hI2b := Lib.hid (hI2.out.under hbO (fun ad e => (hd2.out ad e).2.1))
            have hBwb := Lib.hid (Nat.le_trans hBw.out hbO.size)
            have c17b := (hbO.cell (p := ⟨w.heap.size, 17, none⟩) (by have := HB2.out; show w.heap.size < B; omega)).trans c17
            have y2b := (hbO.cell (p := ⟨b, of + k * 4 + 2, none⟩) (by have := HB2.out; have := HBW.out; show b < B; omega)).trans y2
            have z0b := hWb.out.cell 0
            have z1b := hWb.out.cell 1
            have z2b := hWb.out.cell 2
            have f2b := hWb.out.frozen 2
            simp at z0b z1b z2b
            have hownb : Hid ((wb.setCell ⟨g, 2, none⟩ (.slice A4 (k + 1) c4)).ownsRow B 3 1 (.slice A4 (k + 1) c4) (k + 1) (ints (x.p.earlies (k + 1)))) := by
              show World.ownsRow _ _ _ _ _ _ _
              rw [HSU.out, ints_append]
              exact own_setCell hob (p := ⟨g, 2, none⟩) HGl.out _
            clear hbO hob hgb hvb
            refine HKK.out _ _ (⟨c17b, y2b⟩) (fun hH2 => ?_)
            clear HKK K
            replace hHeld := hH2
            clear hH2
            (try simp only [List.getElem_toArray, List.getElem_cons_zero, List.getElem_cons_succ, Act.put, List.setIfInBounds_toArray, List.set_cons_zero, List.set_cons_succ])
            refine wpAnyH_take (i := 10) (v := ?_) rfl (by kernel_rfl) (by kernel_rfl) (by kernel_rfl) (fun _ _ _ h => h) (Or.inl ⟨by rfl, ?_⟩) (by assumption) ?_
            rotate_left
            · (intro w' hSw; (try dsimp only at hSw); go_simp; try with_reducible rfl)
            (try simp only [List.getElem_toArray, List.getElem_cons_zero, List.getElem_cons_succ, Act.put, List.setIfInBounds_toArray, List.set_cons_zero, List.set_cons_succ])
            refine wpAnyH_ready (rs := [11]) (by kernel_rfl) (by simp) ?_
            refine (AllReadyH.cons rfl (fun K hK => ?_) AllReadyH.nil)
            have HKK := Lib.hid hK
            clear hK
            go_simp
            refine HKK.out _ _ (⟨cell_setFar c17b (by show w.heap.size ≠ g; have := hg.out; omega), cell_setFar y2b (by show b ≠ g; have := hg.out; have := HBW.out; omega)⟩) (fun hH2 => ?_)
            clear HKK K
            replace hHeld := hH2
            clear hH2
            (try simp only [List.getElem_toArray, List.getElem_cons_zero, List.getElem_cons_succ, Act.put, List.setIfInBounds_toArray, List.set_cons_zero, List.set_cons_succ])
            refine wpAnyH_done (by kernel_rfl) ?_ _
            go_wp2_with fail
            go_roundw
            case rel =>
              refine ⟨k + 1, _, by omega, by go_num, ?_, ?_, hI1b.out.setFar (p := ⟨g, 2, none⟩) (fun ad e => (hd1.out ad e).1) _, hI2b.out.setFar (p := ⟨g, 2, none⟩) (fun ad e => (hd2.out ad e).1) _, hownb.out, ?_⟩
              · exact hXb.out.above ((Below.refl (w.heap.size + 2) wb).setCell hg.out _) (Nat.le_refl _)
              · show Blk _ _ _ _
                have := hWb.out.set_ 2 (.slice A4 (k + 1) c4)
                simpa using this
              · show _ ≤ _
                simpa [World.setCell] using hBwb.out
            case measure => simp [intOf]; omega
        · have hkn : k = x.loads.length := by omega
          have z0 := hW.out.cell 0
          have z1 := hW.out.cell 1
          have z2 := hW.out.cell 2
          simp at z0 z1 z2
          have b0 := hX.out.q.cell 0
          have b1 := hX.out.q.cell 1
          have b2 := hX.out.q.cell 2
          have e0 := hX.out.q.frozen 0
          have e1 := hX.out.q.frozen 1
          have e2 := hX.out.q.frozen 2
          simp [PnM.zero, PnM.cs] at b0 b1 b2
          have q1 : ¬ (w.heap.size + 1 = g) := by have := hg.out; omega
          have q2 : ¬ (g = w.heap.size + 1) := by have := hg.out; omega
          have hnlt : ¬ (k : Int) < (x.loads.length : Int) := by omega
          have HKN := Lib.hid hkn
          clear hkn hlt
          go_wp2_with fail
          refine bodyPost_ret (v := .agg #[.slice A1 x.buy.l.length x.buy.l.length, .slice A2 x.buy.l.length x.buy.l.length, .slice A3 k c3]) (by simp [results, Try.results29, go_sem, b0, b1, b2]) rfl ?_
          have hcap := own_cap hown.out
          have hel : (x.p.earlies k).length = k := hln.out k hk
          refine ⟨⟨⟨A1, x.buy.l.length, List.replicate x.buy.l.length 0⟩, ⟨A2, x.buy.l.length, List.replicate x.buy.l.length 0⟩, ⟨A3, c3, x.p.earlies k⟩⟩, by rw [hid2.out, ← HKN.out]; rfl, ?_, ?_, ?_, ?_⟩
          · simp only [PnM.v, List.length_replicate, hel]
          · have hI3 : RInts wo A3 (x.p.earlies k) := by
              have := Reads.of_own hown.out
              unfold RInts
              rw [hel]; exact this
            have hf : ∀ ad, A3 = some ad → ad.block ≠ w.heap.size + 1 := fun ad e => by
              have h1 := own_fresh hown.out ad e
              have h2 := HB2.out
              omega
            have hf1 : ∀ ad, A1 = some ad → ad.block ≠ w.heap.size + 1 := HF1.out
            have hf2 : ∀ ad, A2 = some ad → ad.block ≠ w.heap.size + 1 := HF2.out
            refine ⟨?_, ?_, ?_⟩
            · exact ((hI1.out.setFar (p := ⟨w.heap.size + 1, 0, none⟩) hf1 _).setFar (p := ⟨w.heap.size + 1, 1, none⟩) hf1 _).setFar (p := ⟨w.heap.size + 1, 2, none⟩) hf1 _
            · exact ((hI2.out.setFar (p := ⟨w.heap.size + 1, 0, none⟩) hf2 _).setFar (p := ⟨w.heap.size + 1, 1, none⟩) hf2 _).setFar (p := ⟨w.heap.size + 1, 2, none⟩) hf2 _
            · exact ((hI3.setFar (p := ⟨w.heap.size + 1, 0, none⟩) hf _).setFar (p := ⟨w.heap.size + 1, 1, none⟩) hf _).setFar (p := ⟨w.heap.size + 1, 2, none⟩) hf _
          · simp only [List.length_replicate, hel]
            exact ⟨Nat.le_refl _, Nat.le_refl _, hcap⟩
          · exact ((hX.out.bel.setCell (by simp) _).setCell (by simp) _).setCell (by simp) _
  · have hid : x.p.idle = Pn.zero := by unfold Pb.idle; rw [if_pos hck]
    rw [hid]
    have hn : (x.p.chk != 0) = true := by simpa using hck
    generalize x.p.chk = ck at *
    have hc := Lib.hid hc0
    clear hc0 hck hid
    go_enter Try.func29, Try.ntmps29
    go_upto_region 1 with fail
    rw [← hWH.out]
    clear hWH
    go_wp2_with (refine wpList_load_problem rfl _ rfl w.heap.size rfl x hst.out.p ?_)
    refine (hc.out _ (hst.out.pr hP.out)).mono ?_
    rintro e w1 ⟨rfl, hb1⟩
    have HX1 := Lib.hid (hst.out.below hb1)
    clear hb1 hst
    have b0 := HX1.out.q.cell 0
    have b1 := HX1.out.q.cell 1
    have b2 := HX1.out.q.cell 2
    have e0 := HX1.out.q.frozen 0
    have e1 := HX1.out.q.frozen 1
    have e2 := HX1.out.q.frozen 2
    simp [PnM.zero, PnM.cs] at b0 b1 b2
    go_wp2_with fail
    refine bodyPost_ret (v := .agg #[.slice none 0 0, .slice none 0 0, .slice none 0 0]) (by simp [results, Try.results29, go_sem, b0, b1, b2]) rfl ?_
    exact ⟨PnM.zero, rfl, rfl, RPn.zero _, ⟨Nat.le_refl _, Nat.le_refl _, Nat.le_refl _⟩, ((HX1.out.bel.setCell (by simp) _).setCell (by simp) _).setCell (by simp) _⟩
end Go.Proofs.Ytdheockmphdakaa
