/-
  The walks of layer 42 (plan), part 22: plan.Rest.
-/
import Derived.Test.YtdheockmphdakaaQP29
import Derived.Test.YtdheockmphdakaaQP31
namespace Go.Proofs.Ytdheockmphdakaa
open Go.RowKit
attribute [local go_sem ↓] Go.wp_at_zero Go.wp_at_succ

theorem cell_setFar' {w : World} {b g i j : Nat} {v u : Value} (h : w.cell? ⟨b, i, none⟩ = some v) (hne : b ≠ g) : (w.setCell ⟨g, j, none⟩ u).cell? ⟨b, i, none⟩ = some v := cell_setFar h hne

set_option maxRecDepth 100000 in
set_option maxHeartbeats 64000000 in
theorem prest_ok (x : PbM) (y : PnM) (k : Nat) (w : World) (hP0 : RPb w x) (hQ0 : RPn w y) (hF : x.Fit) (hG : y.Fit) (hC : x.Cap) (he : x.p.err y.x = 0) (hk : k < x.buy.l.length) :
    Calls Try.prog 27 #[x.v, y.v, .int .i64 k] w (RestOut (x.p.rest y.x k) 0 w) := by
  obtain ⟨hck, hfo, -⟩ := Pb.err_zero he
  have hgood := Pb.good hck
  have hn96 : x.buy.l.length ≤ 96 := (Pb.nbd hgood).2
  obtain ⟨e1, e2, e3⟩ := hgood.lens
  obtain ⟨-, r1, r2, -⟩ := Pb.room_ok hgood
  have t1 : x.sell.l.length = x.buy.l.length := (Tf.good hgood.t).len
  obtain ⟨hsz0, hfits, -⟩ := Pb.form_good hfo
  obtain ⟨-, -, hstl⟩ := Pb.sized_yes hsz0
  have hel : x.p.loads.length = x.loads.length := by simp [PbM.p]
  have HSTL : Hid (y.start.l.length = x.loads.length) := hstl.trans hel
  have HSB : Hid (∀ j (hj : j < x.loads.length) (hj2 : j < y.start.l.length), 0 ≤ y.start.l[j] ∧ y.start.l[j] ≤ 1000 ∧ x.loads[j].r.prof.length ≤ 1000000 ∧ 0 < x.loads[j].r.prof.length) := by
    intro j hj hj2
    unfold Pb.fitsTo at hfits
    rw [List.all_eq_true] at hfits
    have hf := hfits j (List.mem_range.2 (by rw [hel]; exact hj))
    rw [show x.p.loads.getD j Ld.zero = x.loads[j].r by simp [PbM.p, List.getD, hj], show y.x.start.getD j 0 = y.start.l[j] by simp [PnM.x, List.getD, hj2]] at hf
    simp only [Ld.fit, Bool.and_eq_true, decide_eq_true_iff] at hf
    have g := Ld.good hf.1
    have g1 := g.e0; have g2 := g.l1; have g3 := g.n1; have g4 := g.p1; have g5 := g.p0
    refine ⟨by omega, by omega, by omega, by omega⟩
  have hld4 : x.loads.length ≤ 4 := by have := Pb.loads4 hgood; omega
  have HN := Lib.hid hF.names
  have HPR := Lib.hid hF.profs
  have HCP := Lib.hid hC.profs
  clear hsz0 hfits hstl hel
  have e1 : x.solar.l.length = x.buy.l.length := e1
  have e2 : x.demand.l.length = x.buy.l.length := e2
  have e3 : x.outside.l.length = x.buy.l.length := e3
  have r1 : x.low.l.length = x.buy.l.length := r1
  have r2 : x.high.l.length = x.buy.l.length := r2
  have hT_buy := Lib.hid (fun W (h : RInts W x.buy.A x.buy.l) (hg : W.cell? ⟨w.heap.size + 2, 0, none⟩ = some (.int .i64 k)) => rest1_any x.buy.A x.buy.c x.buy.l k (w.heap.size + 2) W h (by omega) hC.buy (by omega) hg)
  have hT_sell := Lib.hid (fun W (h : RInts W x.sell.A x.sell.l) (hg : W.cell? ⟨w.heap.size + 2, 0, none⟩ = some (.int .i64 k)) => rest1_any x.sell.A x.sell.c x.sell.l k (w.heap.size + 2) W h (by omega) hC.sell (by omega) hg)
  have hT_solar := Lib.hid (fun W (h : RInts W x.solar.A x.solar.l) (hg : W.cell? ⟨w.heap.size + 2, 0, none⟩ = some (.int .i64 k)) => rest1_any x.solar.A x.solar.c x.solar.l k (w.heap.size + 2) W h (by omega) hC.solar (by omega) hg)
  have hT_demand := Lib.hid (fun W (h : RInts W x.demand.A x.demand.l) (hg : W.cell? ⟨w.heap.size + 2, 0, none⟩ = some (.int .i64 k)) => rest1_any x.demand.A x.demand.c x.demand.l k (w.heap.size + 2) W h (by omega) hC.demand (by omega) hg)
  have hT_outside := Lib.hid (fun W (h : RInts W x.outside.A x.outside.l) (hg : W.cell? ⟨w.heap.size + 2, 0, none⟩ = some (.int .i64 k)) => rest1_any x.outside.A x.outside.c x.outside.l k (w.heap.size + 2) W h (by omega) hC.outside (by omega) hg)
  have hT_low := Lib.hid (fun W (h : RInts W x.low.A x.low.l) (hg : W.cell? ⟨w.heap.size + 2, 0, none⟩ = some (.int .i64 k)) => rest1_any x.low.A x.low.c x.low.l k (w.heap.size + 2) W h (by omega) hC.low (by omega) hg)
  have hT_high := Lib.hid (fun W (h : RInts W x.high.A x.high.l) (hg : W.cell? ⟨w.heap.size + 2, 0, none⟩ = some (.int .i64 k)) => rest1_any x.high.A x.high.c x.high.l k (w.heap.size + 2) W h (by omega) hC.high (by omega) hg)
  have hP := Lib.hid hP0
  have hQ := Lib.hid hQ0
  have hr := Lib.hid (fun W (h : RPb W x) (h2 : RPn W y) => prun_any x y W h h2 hF hG)
  have hst0 := RK.start x y w k #[.slice none 0 0, .slice none 0 0, .int .i64 0, .slice none 0 0, .slice none 0 0, .slice none 0 0, .int .i64 0, .int .i64 0, .int .i64 0, .int .i64 0, .int .i64 0, .int .i64 0, .int .i64 0, .int .i64 0, .int .i64 0, .slice none 0 0, .slice none 0 0, .slice none 0 0, .int .i64 0, .int .i64 0]
  simp only [PbM.v, PnM.v]
  clear hP0 hQ0 hG
  obtain ⟨W, hW⟩ : ∃ W, W = (((w.alloc (.cells #[.slice x.buy.A x.buy.l.length x.buy.c, .slice x.sell.A x.sell.l.length x.sell.c, .int .i64 x.fuse, .slice x.solar.A x.solar.l.length x.solar.c, .slice x.demand.A x.demand.l.length x.demand.c, .slice x.outside.A x.outside.l.length x.outside.c, .int .i64 x.bat.cap, .int .i64 x.bat.reserve, .int .i64 x.bat.charge, .int .i64 x.bat.discharge, .int .i64 x.bat.eff, .int .i64 x.gain, .int .i64 x.loss, .int .i64 x.steps, .int .i64 x.power, .slice x.low.A x.low.l.length x.low.c, .slice x.high.A x.high.l.length x.high.c, .slice x.LA x.loads.length x.lc, .int .i64 x.level, .int .i64 x.temp] 31)).alloc (.cells #[.slice y.charge.A y.charge.l.length y.charge.c, .slice y.heat.A y.heat.l.length y.heat.c, .slice y.start.A y.start.l.length y.start.c] 37)).alloc (.cells #[.int .i64 k] 3)).alloc (.cells #[.slice none 0 0, .slice none 0 0, .int .i64 0, .slice none 0 0, .slice none 0 0, .slice none 0 0, .int .i64 0, .int .i64 0, .int .i64 0, .int .i64 0, .int .i64 0, .int .i64 0, .int .i64 0, .int .i64 0, .int .i64 0, .slice none 0 0, .slice none 0 0, .slice none 0 0, .int .i64 0, .int .i64 0] 31) := ⟨_, rfl⟩
  rw [show (((w.alloc (.cells x.cs 31)).alloc (.cells y.cs 37)).alloc (.cells #[.int .i64 k] 3)).alloc (.cells #[.slice none 0 0, .slice none 0 0, .int .i64 0, .slice none 0 0, .slice none 0 0, .slice none 0 0, .int .i64 0, .int .i64 0, .int .i64 0, .int .i64 0, .int .i64 0, .int .i64 0, .int .i64 0, .int .i64 0, .int .i64 0, .slice none 0 0, .slice none 0 0, .slice none 0 0, .int .i64 0, .int .i64 0] 31) = W from hW.symm] at hst0
  have hst := Lib.hid hst0
  have hWH := Lib.hid hW
  clear hst0 hW
  rw [he] at hr
  have htl := Lib.hid (Pb.trace_ok he)
  have k0 : ¬ (k : Int) < 0 := by omega
  have k1 : ¬ (x.buy.l.length : Int) ≤ (k : Int) := by omega
  clear e1 e2 e3 r1 r2 t1 hgood hck hfo he
  have hmf : ∀ (fn : Fn) (first cap : Array Value) (w : World), (Instr.makeFunc fn first cap).run Try.prog w = .ok (.func fn first cap) w := fun _ _ _ _ => rfl
  go_enter Try.func27, Try.ntmps27
  go_upto_region 1 with fail
  rw [← hWH.out]
  clear hWH
  go_wp2_with (first | refine wpList_load_problem rfl _ rfl w.heap.size rfl x (hst.out).px.p ?_ | refine wpList_load_plan rfl _ rfl (w.heap.size + 1) rfl y (hst.out).px.q ?_)
  refine (hr.out _ (hst.out.px.pr hP.out) (hst.out.px.qr hQ.out)).mono ?_
  rintro e w1 ⟨tm, htx, rfl, hrt, hb1⟩
  simp only [TrM.v]
  have HX1 := Lib.hid (hst.out.below hb1)
  have HTX := Lib.hid htx
  clear htx
  go_upto_region 4 with fail
  obtain ⟨t8, ht8⟩ : ∃ t8, t8 = w1.heap.size := ⟨_, rfl⟩
  obtain ⟨v1, hv1⟩ : ∃ v1, v1 = w1.alloc (.cells #[.slice tm.net.A tm.net.l.length tm.net.c, .slice tm.level.A tm.level.l.length tm.level.c, .slice tm.temp.A tm.temp.l.length tm.temp.c, .int .i64 tm.cost] 40) := ⟨_, rfl⟩
  have HX2 : Hid (RK x y w k v1 #[.slice none 0 0, .slice none 0 0, .int .i64 0, .slice none 0 0, .slice none 0 0, .slice none 0 0, .int .i64 0, .int .i64 0, .int .i64 0, .int .i64 0, .int .i64 0, .int .i64 0, .int .i64 0, .int .i64 0, .int .i64 0, .slice none 0 0, .slice none 0 0, .slice none 0 0, .int .i64 0, .int .i64 0]) := by show RK _ _ _ _ _ _; rw [hv1]; exact HX1.out.below (below_al (Below.refl _ _))
  have HT2 : Hid (Blk v1 t8 40 #[.slice tm.net.A tm.net.l.length tm.net.c, .slice tm.level.A tm.level.l.length tm.level.c, .slice tm.temp.A tm.temp.l.length tm.temp.c, .int .i64 tm.cost]) := by show Blk _ _ _ _; rw [hv1, ht8]; exact Blk.new _ _ _
  have HR2 : Hid (RTr v1 tm) := by show RTr _ _; rw [hv1]; exact hrt.below (below_al (Below.refl _ _))
  rw [← hv1, ← ht8]
  have c0 := HX2.out.px.pc.1
  have ck := HX2.out.k.cell 0
  simp at ck
  clear hv1 ht8 HX1 hb1 hrt hst
  go_upto_region 7 with fail
  clear c0 ck hmf
  go_wp2_with (refine wpList_load_problem rfl _ rfl w.heap.size rfl x HX2.out.px.p ?_; refine wpList_plain rfl (fun K hK => ?_); have HK := Lib.hid hK; clear hK)
  refine HK.out _ _ ?_
  clear HK
  refine wpList_store_blk rfl 31 _ _ rfl v1.heap.size rfl x.cs rfl (by kernel_rfl) (PbM.cs_one _) (Blk.new v1 _ _) rfl ?_
  intro w2 hB2 hg2
  have hb2 : Below v1.heap.size v1 w2 := ((Below.refl v1.heap.size v1).alloc (Nat.le_refl _) (.cells #[.slice none 0 0, .slice none 0 0, .int .i64 0, .slice none 0 0, .slice none 0 0, .slice none 0 0, .int .i64 0, .int .i64 0, .int .i64 0, .int .i64 0, .int .i64 0, .int .i64 0, .int .i64 0, .int .i64 0, .int .i64 0, .slice none 0 0, .slice none 0 0, .slice none 0 0, .int .i64 0, .int .i64 0] 31)).grown hg2 (by simp) (fun k e => by injection e with e; omega)
  obtain ⟨g, hg⟩ : ∃ g, g = v1.heap.size := ⟨_, rfl⟩
  have HG3 : Hid (w.heap.size + 4 ≤ g ∧ t8 < g) := by show _ ∧ _; rw [hg]; exact ⟨HX2.out.lt, HT2.out.lt⟩
  have HX3 := Lib.hid (HX2.out.below hb2)
  have HT3 := Lib.hid (HT2.out.below hb2 HT2.out.lt)
  have hlt3 : ∀ (A : Option Addr) (l : List Int), RInts v1 A l → l.length = x.buy.l.length → ∀ ad, A = some ad → ad.block ≠ g := fun A l hr hll ad e => by
    have := hr.lt (by intro e2; rw [e2] at hll; simp at hll; omega) ad e
    omega
  have HR3 : Hid (RTrF w2 tm g) := ⟨HR2.out.below hb2, fun ad e => by
    have l1 : tm.net.l.length = x.buy.l.length := by rw [show tm.net.l = _ from congrArg Tr.net (HTX.out.trans htl.out)]; simp only [Pb.nets_len]; rfl
    have l2 : tm.level.l.length = x.buy.l.length := by rw [show tm.level.l = _ from congrArg Tr.level (HTX.out.trans htl.out)]; simp only [Pb.levels_len]; rfl
    have l3 : tm.temp.l.length = x.buy.l.length := by rw [show tm.temp.l = _ from congrArg Tr.temp (HTX.out.trans htl.out)]; simp only [Pb.temps_len]; rfl
    rcases e with e | e | e
    · exact hlt3 _ _ HR2.out.net l1 ad e
    · exact hlt3 _ _ HR2.out.level l2 ad e
    · exact hlt3 _ _ HR2.out.temp l3 ad e⟩
  clear hlt3
  rw [← hg] at hB2 ⊢
  have HQ3 : Hid (Blk w2 g 31 #[.slice x.buy.A x.buy.l.length x.buy.c, .slice x.sell.A x.sell.l.length x.sell.c, .int .i64 x.fuse, .slice x.solar.A x.solar.l.length x.solar.c, .slice x.demand.A x.demand.l.length x.demand.c, .slice x.outside.A x.outside.l.length x.outside.c, .int .i64 x.bat.cap, .int .i64 x.bat.reserve, .int .i64 x.bat.charge, .int .i64 x.bat.discharge, .int .i64 x.bat.eff, .int .i64 x.gain, .int .i64 x.loss, .int .i64 x.steps, .int .i64 x.power, .slice x.low.A x.low.l.length x.low.c, .slice x.high.A x.high.l.length x.high.c, .slice x.LA x.loads.length x.lc, .int .i64 x.level, .int .i64 x.temp]) := hB2
  clear hB2 hg2 hb2 hg HX2 HT2 HR2
  obtain ⟨c0, c1, -, -, -, -, -, -, -, -, -, -, -, -, -, -, -, -, -, -⟩ := HX3.out.px.pc
  go_wp2_with fail
  refine wp_region_held_drew (S := (fun w' => w'.cell? ⟨w.heap.size, 0, none⟩ = some (.slice x.buy.A x.buy.l.length x.buy.c) ∧ w'.cell? ⟨w.heap.size, 1, none⟩ = some (.slice x.sell.A x.sell.l.length x.sell.c))) (by kernel_rfl) ⟨c0, c1⟩ (fun hHeld => ?_)
  refine wpAnyH_take (i := 0) (v := ?_) rfl (by kernel_rfl) (by kernel_rfl) (by kernel_rfl) (fun _ _ _ h => h) (Or.inl ⟨by rfl, ?_⟩) (by assumption) ?_
  rotate_left
  · (intro w' hSw; (try dsimp only at hSw); go_simp; try with_reducible rfl)
  (try simp only [List.getElem_toArray, List.getElem_cons_zero, Act.put, List.setIfInBounds_toArray, List.set_cons_zero, List.set_cons_succ])
  refine wpAnyH_take (i := 1) (v := ?_) rfl (by kernel_rfl) (by kernel_rfl) (by kernel_rfl) (fun _ _ _ h => h) (Or.inl ⟨by rfl, ?_⟩) (by assumption) ?_
  rotate_left
  · (intro w' hSw; (try dsimp only at hSw); go_simp; try with_reducible rfl)
  (try simp only [List.getElem_toArray, List.getElem_cons_zero, List.getElem_cons_succ, Act.put, List.setIfInBounds_toArray, List.set_cons_zero, List.set_cons_succ])
  refine wpAnyH_take (i := 2) (v := ?_) rfl (by kernel_rfl) (by kernel_rfl) (by kernel_rfl) (fun _ _ _ h => h) (Or.inl ⟨by rfl, ?_⟩) (by assumption) ?_
  rotate_left
  · (intro w' hSw; (try dsimp only at hSw); go_simp; try with_reducible rfl)
  (try simp only [List.getElem_toArray, List.getElem_cons_zero, List.getElem_cons_succ, Act.put, List.setIfInBounds_toArray, List.set_cons_zero, List.set_cons_succ])
  refine wpAnyH_take (i := 3) (v := ?_) rfl (by kernel_rfl) (by kernel_rfl) (by kernel_rfl) (fun _ _ _ h => h) (Or.inl ⟨by rfl, ?_⟩) (by assumption) ?_
  rotate_left
  · (intro w' hSw; (try dsimp only at hSw); go_simp; try with_reducible rfl)
  (try simp only [List.getElem_toArray, List.getElem_cons_zero, List.getElem_cons_succ, Act.put, List.setIfInBounds_toArray, List.set_cons_zero, List.set_cons_succ])
  refine wpAnyH_take (i := 5) (v := ?_) rfl (by kernel_rfl) (by kernel_rfl) (by kernel_rfl) (fun _ _ _ h => h) (Or.inl ⟨by rfl, ?_⟩) (by assumption) ?_
  rotate_left
  · (intro w' hSw; (try dsimp only at hSw); go_simp; try with_reducible rfl)
  (try simp only [List.getElem_toArray, List.getElem_cons_zero, List.getElem_cons_succ, Act.put, List.setIfInBounds_toArray, List.set_cons_zero, List.set_cons_succ])
  refine wpAnyH_take (i := 6) (v := ?_) rfl (by kernel_rfl) (by kernel_rfl) (by kernel_rfl) (fun _ _ _ h => h) (Or.inl ⟨by rfl, ?_⟩) (by assumption) ?_
  rotate_left
  · (intro w' hSw; (try dsimp only at hSw); go_simp; try with_reducible rfl)
  (try simp only [List.getElem_toArray, List.getElem_cons_zero, List.getElem_cons_succ, Act.put, List.setIfInBounds_toArray, List.set_cons_zero, List.set_cons_succ])
  refine wpAnyH_take (i := 7) (v := ?_) rfl (by kernel_rfl) (by kernel_rfl) (by kernel_rfl) (fun _ _ _ h => h) (Or.inl ⟨by rfl, ?_⟩) (by assumption) ?_
  rotate_left
  · (intro w' hSw; (try dsimp only at hSw); go_simp; try with_reducible rfl)
  (try simp only [List.getElem_toArray, List.getElem_cons_zero, List.getElem_cons_succ, Act.put, List.setIfInBounds_toArray, List.set_cons_zero, List.set_cons_succ])
  refine wpAnyH_take (i := 8) (v := ?_) rfl (by kernel_rfl) (by kernel_rfl) (by kernel_rfl) (fun _ _ _ h => h) (Or.inl ⟨by rfl, ?_⟩) (by assumption) ?_
  rotate_left
  · (intro w' hSw; (try dsimp only at hSw); go_simp; try with_reducible rfl)
  (try simp only [List.getElem_toArray, List.getElem_cons_zero, List.getElem_cons_succ, Act.put, List.setIfInBounds_toArray, List.set_cons_zero, List.set_cons_succ])
  refine wpAnyH_ready (rs := [4]) (by kernel_rfl) (by simp) ?_
  refine AllReadyH.cons rfl (fun K hK => ?_) AllReadyH.nil
  have HKK := Lib.hid hK
  clear hK
  go_simp
  refine (hT_buy.out _ ((HX3.out.px.pr hP.out).buy.below (Below.drew (Below.refl _ _))) (HX3.out.below (Below.drew (Below.refl _ _))).ck).mono ?_
  rintro e u0 ⟨A0, e0, rfl, hri0, hfi0, hb0⟩
  have hB0 : Below w2.heap.size w2 u0 := below_tr (Below.drew (Below.refl _ _)) hb0
  refine HKK.out _ _ (⟨cell_below c0 hB0, cell_below c1 hB0⟩) (fun hH2 => ?_)
  clear HKK K
  replace hHeld := hH2
  clear hH2
  (try simp only [List.getElem_toArray, List.getElem_cons_zero, List.getElem_cons_succ, Act.put, List.setIfInBounds_toArray, List.set_cons_zero, List.set_cons_succ])
  refine wpAnyH_take (i := 10) (v := ?_) rfl (by kernel_rfl) (by kernel_rfl) (by kernel_rfl) (fun _ _ _ h => h) (Or.inl ⟨by rfl, ?_⟩) (by assumption) ?_
  rotate_left
  · (intro w' hSw; (try dsimp only at hSw); go_simp; try with_reducible rfl)
  (try simp only [List.getElem_toArray, List.getElem_cons_zero, List.getElem_cons_succ, Act.put, List.setIfInBounds_toArray, List.set_cons_zero, List.set_cons_succ])
  refine wpAnyH_take (i := 11) (v := ?_) rfl (by kernel_rfl) (by kernel_rfl) (by kernel_rfl) (fun _ _ _ h => h) (Or.inl ⟨by rfl, ?_⟩) (by assumption) ?_
  rotate_left
  · (intro w' hSw; (try dsimp only at hSw); go_simp; try with_reducible rfl)
  (try simp only [List.getElem_toArray, List.getElem_cons_zero, List.getElem_cons_succ, Act.put, List.setIfInBounds_toArray, List.set_cons_zero, List.set_cons_succ])
  refine wpAnyH_ready (rs := [9]) (by kernel_rfl) (by simp) ?_
  refine AllReadyH.cons rfl (fun K hK => ?_) AllReadyH.nil
  have HKK := Lib.hid hK
  clear hK
  go_simp
  refine (hT_sell.out _ ((HX3.out.px.pr hP.out).sell.below hB0) (HX3.out.below hB0).ck).mono ?_
  rintro e u1 ⟨A1, e1, rfl, hri1, hfi1, hb1⟩
  have hB1 : Below w2.heap.size w2 u1 := below_tr hB0 hb1
  have HXm := Lib.hid (HX3.out.below hB1)
  have HTm := Lib.hid (HT3.out.below hB1 HT3.out.lt)
  have HQm := Lib.hid (HQ3.out.below hB1 HQ3.out.lt)
  have HRm := Lib.hid (HR3.out.below hB1)
  have HM_buy := Lib.hid (hri0.below hb1)
  have HM_sell := Lib.hid hri1
  have HF_buy : Hid (∀ ad, A0 = some ad → g < ad.block) := fun ad e => Nat.lt_of_lt_of_le HQ3.out.lt (hfi0 ad e)
  have HF_sell : Hid (∀ ad, A1 = some ad → g < ad.block) := fun ad e => Nat.lt_of_lt_of_le (Nat.lt_of_lt_of_le HQ3.out.lt hB0.size) (hfi1 ad e)
  have q0 := HQm.out.cell 0
  have f0 := HQm.out.frozen 0
  have q1 := HQm.out.cell 1
  have f1 := HQm.out.frozen 1
  simp at q0 q1
  refine HKK.out _ _ (⟨cell_below c0 hB1, cell_below c1 hB1⟩) (fun hH2 => ?_)
  clear HKK K
  replace hHeld := hH2
  clear hH2
  (try simp only [List.getElem_toArray, List.getElem_cons_zero, List.getElem_cons_succ, Act.put, List.setIfInBounds_toArray, List.set_cons_zero, List.set_cons_succ])
  have hgn : w.heap.size ≠ g := by have := HG3.out.1; omega
  refine wpAnyH_ready (rs := [12]) (by kernel_rfl) (by simp) ?_
  refine AllReadyH.cons rfl (fun K hK => ?_) AllReadyH.nil
  have HKK := Lib.hid hK
  clear hK
  go_simp
  refine HKK.out _ _ (⟨cell_setFar (cell_below c0 hB1) hgn, cell_setFar (cell_below c1 hB1) hgn⟩) (fun hH2 => ?_)
  clear HKK K
  replace hHeld := hH2
  clear hH2
  (try simp only [List.getElem_toArray, List.getElem_cons_zero, List.getElem_cons_succ, Act.put, List.setIfInBounds_toArray, List.set_cons_zero, List.set_cons_succ])
  refine wpAnyH_take (i := 13) (v := ?_) rfl (by kernel_rfl) (by kernel_rfl) (by kernel_rfl) (fun _ _ _ h => h) (Or.inl ⟨by rfl, ?_⟩) (by assumption) ?_
  rotate_left
  · (intro w' hSw; (try dsimp only at hSw); go_simp; try with_reducible rfl)
  (try simp only [List.getElem_toArray, List.getElem_cons_zero, List.getElem_cons_succ, Act.put, List.setIfInBounds_toArray, List.set_cons_zero, List.set_cons_succ])
  refine wpAnyH_take (i := 14) (v := ?_) rfl (by kernel_rfl) (by kernel_rfl) (by kernel_rfl) (fun _ _ _ h => h) (Or.inl ⟨by rfl, ?_⟩) (by assumption) ?_
  rotate_left
  · (intro w' hSw; (try dsimp only at hSw); go_simp; try with_reducible rfl)
  (try simp only [List.getElem_toArray, List.getElem_cons_zero, List.getElem_cons_succ, Act.put, List.setIfInBounds_toArray, List.set_cons_zero, List.set_cons_succ])
  refine wpAnyH_ready (rs := [15]) (by kernel_rfl) (by simp) ?_
  refine AllReadyH.cons rfl (fun K hK => ?_) AllReadyH.nil
  have HKK := Lib.hid hK
  clear hK
  go_simp
  refine HKK.out _ _ (⟨cell_setFar (cell_setFar (cell_below c0 hB1) hgn) hgn, cell_setFar (cell_setFar (cell_below c1 hB1) hgn) hgn⟩) (fun hH2 => ?_)
  clear HKK K
  replace hHeld := hH2
  clear hH2
  (try simp only [List.getElem_toArray, List.getElem_cons_zero, List.getElem_cons_succ, Act.put, List.setIfInBounds_toArray, List.set_cons_zero, List.set_cons_succ])
  refine wpAnyH_done (by kernel_rfl) ?_ _
  obtain ⟨v1, hv⟩ : ∃ v, v = (u1.setCell ⟨g, 0, none⟩ (.slice A0 (x.buy.l.length - k) e0)).setCell ⟨g, 1, none⟩ (.slice A1 (x.sell.l.length - k) e1) := ⟨_, rfl⟩
  have HGm : Hid (u1.grownBy v1 (some g)) := by show World.grownBy _ _ _; rw [hv]; exact only_setCell (p := ⟨g, 1, none⟩) (only_setCell (p := ⟨g, 0, none⟩) (grown_refl u1 (some g)) (.inl rfl) _) (.inl rfl) _
  have HQ4 : Hid (Blk v1 g 31 #[.slice A0 (x.buy.l.length - k) e0, .slice A1 (x.sell.l.length - k) e1, .int .i64 x.fuse, .slice x.solar.A x.solar.l.length x.solar.c, .slice x.demand.A x.demand.l.length x.demand.c, .slice x.outside.A x.outside.l.length x.outside.c, .int .i64 x.bat.cap, .int .i64 x.bat.reserve, .int .i64 x.bat.charge, .int .i64 x.bat.discharge, .int .i64 x.bat.eff, .int .i64 x.gain, .int .i64 x.loss, .int .i64 x.steps, .int .i64 x.power, .slice x.low.A x.low.l.length x.low.c, .slice x.high.A x.high.l.length x.high.c, .slice x.LA x.loads.length x.lc, .int .i64 x.level, .int .i64 x.temp]) := by show Blk _ _ _ _; rw [hv]; have := ((HQm.out).set_ 0 (.slice A0 (x.buy.l.length - k) e0)).set_ 1 (.slice A1 (x.sell.l.length - k) e1); simpa using this
  go_upto_region 9 with fail
  rw [← hv]
  have HX4 : Hid (RK x y w k v1 #[.slice none 0 0, .slice none 0 0, .int .i64 0, .slice none 0 0, .slice none 0 0, .slice none 0 0, .int .i64 0, .int .i64 0, .int .i64 0, .int .i64 0, .int .i64 0, .int .i64 0, .int .i64 0, .int .i64 0, .int .i64 0, .slice none 0 0, .slice none 0 0, .slice none 0 0, .int .i64 0, .int .i64 0]) := HXm.out.above (B := w.heap.size + 4) ((Below.refl (w.heap.size + 4) u1).grown HGm.out HXm.out.lt (fun k e => by injection e with e; have := HG3.out.1; omega)) (Nat.le_refl _)
  have HT4 := Lib.hid (HTm.out.grown HGm.out (by intro e; injection e with e; have := HG3.out.2; omega))
  have HR4 : Hid (RTrF v1 tm g) := ⟨⟨HRm.out.r.net.other HGm.out (fun ad e h => HRm.out.f ad (.inl e) (by injection h)), HRm.out.r.level.other HGm.out (fun ad e h => HRm.out.f ad (.inr (.inl e)) (by injection h)), HRm.out.r.temp.other HGm.out (fun ad e h => HRm.out.f ad (.inr (.inr e)) (by injection h)), HRm.out.r.nc, HRm.out.r.lc, HRm.out.r.tc⟩, HRm.out.f⟩
  have HR_buy_4 := Lib.hid (HM_buy.out.other HGm.out (fun ad e h => by injection h with h; have := HF_buy.out ad e; omega))
  have HR_sell_4 := Lib.hid (HM_sell.out.other HGm.out (fun ad e h => by injection h with h; have := HF_sell.out ad e; omega))
  clear hv hHeld hgn HGm HXm HTm HQm HRm HM_buy HM_sell  HX3 HT3 HQ3 HR3 c0 q0 f0 c1 q1 f1 hri0 hfi0 hri1 hfi1 hb1 hB1 hb0 hB0
  obtain ⟨-, -, -, c3, c4, c5, -, -, -, -, -, -, -, -, -, -, -, -, -, -⟩ := HX4.out.px.pc
  go_wp2_with fail
  refine wp_region_held_drew (S := (fun w' => w'.cell? ⟨w.heap.size, 3, none⟩ = some (.slice x.solar.A x.solar.l.length x.solar.c) ∧ w'.cell? ⟨w.heap.size, 4, none⟩ = some (.slice x.demand.A x.demand.l.length x.demand.c) ∧ w'.cell? ⟨w.heap.size, 5, none⟩ = some (.slice x.outside.A x.outside.l.length x.outside.c))) (by kernel_rfl) ⟨c3, c4, c5⟩ (fun hHeld => ?_)
  refine wpAnyH_take (i := 0) (v := ?_) rfl (by kernel_rfl) (by kernel_rfl) (by kernel_rfl) (fun _ _ _ h => h) (Or.inl ⟨by rfl, ?_⟩) (by assumption) ?_
  rotate_left
  · (intro w' hSw; (try dsimp only at hSw); go_simp; try with_reducible rfl)
  (try simp only [List.getElem_toArray, List.getElem_cons_zero, Act.put, List.setIfInBounds_toArray, List.set_cons_zero, List.set_cons_succ])
  refine wpAnyH_take (i := 1) (v := ?_) rfl (by kernel_rfl) (by kernel_rfl) (by kernel_rfl) (fun _ _ _ h => h) (Or.inl ⟨by rfl, ?_⟩) (by assumption) ?_
  rotate_left
  · (intro w' hSw; (try dsimp only at hSw); go_simp; try with_reducible rfl)
  (try simp only [List.getElem_toArray, List.getElem_cons_zero, List.getElem_cons_succ, Act.put, List.setIfInBounds_toArray, List.set_cons_zero, List.set_cons_succ])
  refine wpAnyH_take (i := 2) (v := ?_) rfl (by kernel_rfl) (by kernel_rfl) (by kernel_rfl) (fun _ _ _ h => h) (Or.inl ⟨by rfl, ?_⟩) (by assumption) ?_
  rotate_left
  · (intro w' hSw; (try dsimp only at hSw); go_simp; try with_reducible rfl)
  (try simp only [List.getElem_toArray, List.getElem_cons_zero, List.getElem_cons_succ, Act.put, List.setIfInBounds_toArray, List.set_cons_zero, List.set_cons_succ])
  refine wpAnyH_take (i := 4) (v := ?_) rfl (by kernel_rfl) (by kernel_rfl) (by kernel_rfl) (fun _ _ _ h => h) (Or.inl ⟨by rfl, ?_⟩) (by assumption) ?_
  rotate_left
  · (intro w' hSw; (try dsimp only at hSw); go_simp; try with_reducible rfl)
  (try simp only [List.getElem_toArray, List.getElem_cons_zero, List.getElem_cons_succ, Act.put, List.setIfInBounds_toArray, List.set_cons_zero, List.set_cons_succ])
  refine wpAnyH_take (i := 5) (v := ?_) rfl (by kernel_rfl) (by kernel_rfl) (by kernel_rfl) (fun _ _ _ h => h) (Or.inl ⟨by rfl, ?_⟩) (by assumption) ?_
  rotate_left
  · (intro w' hSw; (try dsimp only at hSw); go_simp; try with_reducible rfl)
  (try simp only [List.getElem_toArray, List.getElem_cons_zero, List.getElem_cons_succ, Act.put, List.setIfInBounds_toArray, List.set_cons_zero, List.set_cons_succ])
  refine wpAnyH_take (i := 6) (v := ?_) rfl (by kernel_rfl) (by kernel_rfl) (by kernel_rfl) (fun _ _ _ h => h) (Or.inl ⟨by rfl, ?_⟩) (by assumption) ?_
  rotate_left
  · (intro w' hSw; (try dsimp only at hSw); go_simp; try with_reducible rfl)
  (try simp only [List.getElem_toArray, List.getElem_cons_zero, List.getElem_cons_succ, Act.put, List.setIfInBounds_toArray, List.set_cons_zero, List.set_cons_succ])
  refine wpAnyH_take (i := 8) (v := ?_) rfl (by kernel_rfl) (by kernel_rfl) (by kernel_rfl) (fun _ _ _ h => h) (Or.inl ⟨by rfl, ?_⟩) (by assumption) ?_
  rotate_left
  · (intro w' hSw; (try dsimp only at hSw); go_simp; try with_reducible rfl)
  (try simp only [List.getElem_toArray, List.getElem_cons_zero, List.getElem_cons_succ, Act.put, List.setIfInBounds_toArray, List.set_cons_zero, List.set_cons_succ])
  refine wpAnyH_take (i := 9) (v := ?_) rfl (by kernel_rfl) (by kernel_rfl) (by kernel_rfl) (fun _ _ _ h => h) (Or.inl ⟨by rfl, ?_⟩) (by assumption) ?_
  rotate_left
  · (intro w' hSw; (try dsimp only at hSw); go_simp; try with_reducible rfl)
  (try simp only [List.getElem_toArray, List.getElem_cons_zero, List.getElem_cons_succ, Act.put, List.setIfInBounds_toArray, List.set_cons_zero, List.set_cons_succ])
  refine wpAnyH_take (i := 10) (v := ?_) rfl (by kernel_rfl) (by kernel_rfl) (by kernel_rfl) (fun _ _ _ h => h) (Or.inl ⟨by rfl, ?_⟩) (by assumption) ?_
  rotate_left
  · (intro w' hSw; (try dsimp only at hSw); go_simp; try with_reducible rfl)
  (try simp only [List.getElem_toArray, List.getElem_cons_zero, List.getElem_cons_succ, Act.put, List.setIfInBounds_toArray, List.set_cons_zero, List.set_cons_succ])
  refine wpAnyH_ready (rs := [3]) (by kernel_rfl) (by simp) ?_
  refine AllReadyH.cons rfl (fun K hK => ?_) AllReadyH.nil
  have HKK := Lib.hid hK
  clear hK
  go_simp
  refine (hT_solar.out _ ((HX4.out.px.pr hP.out).solar.below (Below.drew (Below.refl _ _))) (HX4.out.below (Below.drew (Below.refl _ _))).ck).mono ?_
  rintro e u2 ⟨A2, e2, rfl, hri2, hfi2, hb2⟩
  have hB2 : Below v1.heap.size v1 u2 := below_tr (Below.drew (Below.refl _ _)) hb2
  refine HKK.out _ _ (⟨cell_below c3 hB2, cell_below c4 hB2, cell_below c5 hB2⟩) (fun hH2 => ?_)
  clear HKK K
  replace hHeld := hH2
  clear hH2
  (try simp only [List.getElem_toArray, List.getElem_cons_zero, List.getElem_cons_succ, Act.put, List.setIfInBounds_toArray, List.set_cons_zero, List.set_cons_succ])
  refine wpAnyH_take (i := 12) (v := ?_) rfl (by kernel_rfl) (by kernel_rfl) (by kernel_rfl) (fun _ _ _ h => h) (Or.inl ⟨by rfl, ?_⟩) (by assumption) ?_
  rotate_left
  · (intro w' hSw; (try dsimp only at hSw); go_simp; try with_reducible rfl)
  (try simp only [List.getElem_toArray, List.getElem_cons_zero, List.getElem_cons_succ, Act.put, List.setIfInBounds_toArray, List.set_cons_zero, List.set_cons_succ])
  refine wpAnyH_ready (rs := [7]) (by kernel_rfl) (by simp) ?_
  refine AllReadyH.cons rfl (fun K hK => ?_) AllReadyH.nil
  have HKK := Lib.hid hK
  clear hK
  go_simp
  refine (hT_demand.out _ ((HX4.out.px.pr hP.out).demand.below hB2) (HX4.out.below hB2).ck).mono ?_
  rintro e u3 ⟨A3, e3, rfl, hri3, hfi3, hb3⟩
  have hB3 : Below v1.heap.size v1 u3 := below_tr hB2 hb3
  refine HKK.out _ _ (⟨cell_below c3 hB3, cell_below c4 hB3, cell_below c5 hB3⟩) (fun hH2 => ?_)
  clear HKK K
  replace hHeld := hH2
  clear hH2
  (try simp only [List.getElem_toArray, List.getElem_cons_zero, List.getElem_cons_succ, Act.put, List.setIfInBounds_toArray, List.set_cons_zero, List.set_cons_succ])
  refine wpAnyH_ready (rs := [11]) (by kernel_rfl) (by simp) ?_
  refine AllReadyH.cons rfl (fun K hK => ?_) AllReadyH.nil
  have HKK := Lib.hid hK
  clear hK
  go_simp
  refine (hT_outside.out _ ((HX4.out.px.pr hP.out).outside.below hB3) (HX4.out.below hB3).ck).mono ?_
  rintro e u4 ⟨A4, e4, rfl, hri4, hfi4, hb4⟩
  have hB4 : Below v1.heap.size v1 u4 := below_tr hB3 hb4
  have HXm := Lib.hid (HX4.out.below hB4)
  have HTm := Lib.hid (HT4.out.below hB4 HT4.out.lt)
  have HQm := Lib.hid (HQ4.out.below hB4 HQ4.out.lt)
  have HRm := Lib.hid (HR4.out.below hB4)
  have HM_buy := Lib.hid (HR_buy_4.out.below hB4)
  have HM_sell := Lib.hid (HR_sell_4.out.below hB4)
  have HM_solar := Lib.hid ((hri2.below hb3).below hb4)
  have HM_demand := Lib.hid (hri3.below hb4)
  have HM_outside := Lib.hid hri4
  have HF_solar : Hid (∀ ad, A2 = some ad → g < ad.block) := fun ad e => Nat.lt_of_lt_of_le HQ4.out.lt (hfi2 ad e)
  have HF_demand : Hid (∀ ad, A3 = some ad → g < ad.block) := fun ad e => Nat.lt_of_lt_of_le (Nat.lt_of_lt_of_le HQ4.out.lt hB2.size) (hfi3 ad e)
  have HF_outside : Hid (∀ ad, A4 = some ad → g < ad.block) := fun ad e => Nat.lt_of_lt_of_le (Nat.lt_of_lt_of_le HQ4.out.lt hB3.size) (hfi4 ad e)
  have q3 := HQm.out.cell 3
  have f3 := HQm.out.frozen 3
  have q4 := HQm.out.cell 4
  have f4 := HQm.out.frozen 4
  have q5 := HQm.out.cell 5
  have f5 := HQm.out.frozen 5
  simp at q3 q4 q5
  refine HKK.out _ _ (⟨cell_below c3 hB4, cell_below c4 hB4, cell_below c5 hB4⟩) (fun hH2 => ?_)
  clear HKK K
  replace hHeld := hH2
  clear hH2
  (try simp only [List.getElem_toArray, List.getElem_cons_zero, List.getElem_cons_succ, Act.put, List.setIfInBounds_toArray, List.set_cons_zero, List.set_cons_succ])
  have hgn : w.heap.size ≠ g := by have := HG3.out.1; omega
  refine wpAnyH_ready (rs := [13]) (by kernel_rfl) (by simp) ?_
  refine AllReadyH.cons rfl (fun K hK => ?_) AllReadyH.nil
  have HKK := Lib.hid hK
  clear hK
  go_simp
  refine HKK.out _ _ (⟨cell_setFar (cell_below c3 hB4) hgn, cell_setFar (cell_below c4 hB4) hgn, cell_setFar (cell_below c5 hB4) hgn⟩) (fun hH2 => ?_)
  clear HKK K
  replace hHeld := hH2
  clear hH2
  (try simp only [List.getElem_toArray, List.getElem_cons_zero, List.getElem_cons_succ, Act.put, List.setIfInBounds_toArray, List.set_cons_zero, List.set_cons_succ])
  refine wpAnyH_take (i := 14) (v := ?_) rfl (by kernel_rfl) (by kernel_rfl) (by kernel_rfl) (fun _ _ _ h => h) (Or.inl ⟨by rfl, ?_⟩) (by assumption) ?_
  rotate_left
  · (intro w' hSw; (try dsimp only at hSw); go_simp; try with_reducible rfl)
  (try simp only [List.getElem_toArray, List.getElem_cons_zero, List.getElem_cons_succ, Act.put, List.setIfInBounds_toArray, List.set_cons_zero, List.set_cons_succ])
  refine wpAnyH_ready (rs := [15]) (by kernel_rfl) (by simp) ?_
  refine AllReadyH.cons rfl (fun K hK => ?_) AllReadyH.nil
  have HKK := Lib.hid hK
  clear hK
  go_simp
  refine HKK.out _ _ (⟨cell_setFar (cell_setFar (cell_below c3 hB4) hgn) hgn, cell_setFar (cell_setFar (cell_below c4 hB4) hgn) hgn, cell_setFar (cell_setFar (cell_below c5 hB4) hgn) hgn⟩) (fun hH2 => ?_)
  clear HKK K
  replace hHeld := hH2
  clear hH2
  (try simp only [List.getElem_toArray, List.getElem_cons_zero, List.getElem_cons_succ, Act.put, List.setIfInBounds_toArray, List.set_cons_zero, List.set_cons_succ])
  refine wpAnyH_take (i := 16) (v := ?_) rfl (by kernel_rfl) (by kernel_rfl) (by kernel_rfl) (fun _ _ _ h => h) (Or.inl ⟨by rfl, ?_⟩) (by assumption) ?_
  rotate_left
  · (intro w' hSw; (try dsimp only at hSw); go_simp; try with_reducible rfl)
  (try simp only [List.getElem_toArray, List.getElem_cons_zero, List.getElem_cons_succ, Act.put, List.setIfInBounds_toArray, List.set_cons_zero, List.set_cons_succ])
  refine wpAnyH_ready (rs := [17]) (by kernel_rfl) (by simp) ?_
  refine AllReadyH.cons rfl (fun K hK => ?_) AllReadyH.nil
  have HKK := Lib.hid hK
  clear hK
  go_simp
  refine HKK.out _ _ (⟨cell_setFar (cell_setFar (cell_setFar (cell_below c3 hB4) hgn) hgn) hgn, cell_setFar (cell_setFar (cell_setFar (cell_below c4 hB4) hgn) hgn) hgn, cell_setFar (cell_setFar (cell_setFar (cell_below c5 hB4) hgn) hgn) hgn⟩) (fun hH2 => ?_)
  clear HKK K
  replace hHeld := hH2
  clear hH2
  (try simp only [List.getElem_toArray, List.getElem_cons_zero, List.getElem_cons_succ, Act.put, List.setIfInBounds_toArray, List.set_cons_zero, List.set_cons_succ])
  refine wpAnyH_done (by kernel_rfl) ?_ _
  obtain ⟨v2, hv⟩ : ∃ v, v = ((u4.setCell ⟨g, 3, none⟩ (.slice A2 (x.solar.l.length - k) e2)).setCell ⟨g, 4, none⟩ (.slice A3 (x.demand.l.length - k) e3)).setCell ⟨g, 5, none⟩ (.slice A4 (x.outside.l.length - k) e4) := ⟨_, rfl⟩
  have HGm : Hid (u4.grownBy v2 (some g)) := by show World.grownBy _ _ _; rw [hv]; exact only_setCell (p := ⟨g, 5, none⟩) (only_setCell (p := ⟨g, 4, none⟩) (only_setCell (p := ⟨g, 3, none⟩) (grown_refl u4 (some g)) (.inl rfl) _) (.inl rfl) _) (.inl rfl) _
  have HQ5 : Hid (Blk v2 g 31 #[.slice A0 (x.buy.l.length - k) e0, .slice A1 (x.sell.l.length - k) e1, .int .i64 x.fuse, .slice A2 (x.solar.l.length - k) e2, .slice A3 (x.demand.l.length - k) e3, .slice A4 (x.outside.l.length - k) e4, .int .i64 x.bat.cap, .int .i64 x.bat.reserve, .int .i64 x.bat.charge, .int .i64 x.bat.discharge, .int .i64 x.bat.eff, .int .i64 x.gain, .int .i64 x.loss, .int .i64 x.steps, .int .i64 x.power, .slice x.low.A x.low.l.length x.low.c, .slice x.high.A x.high.l.length x.high.c, .slice x.LA x.loads.length x.lc, .int .i64 x.level, .int .i64 x.temp]) := by show Blk _ _ _ _; rw [hv]; have := (((HQm.out).set_ 3 (.slice A2 (x.solar.l.length - k) e2)).set_ 4 (.slice A3 (x.demand.l.length - k) e3)).set_ 5 (.slice A4 (x.outside.l.length - k) e4); simpa using this
  go_upto_region 10 with fail
  rw [← hv]
  have HX5 : Hid (RK x y w k v2 #[.slice none 0 0, .slice none 0 0, .int .i64 0, .slice none 0 0, .slice none 0 0, .slice none 0 0, .int .i64 0, .int .i64 0, .int .i64 0, .int .i64 0, .int .i64 0, .int .i64 0, .int .i64 0, .int .i64 0, .int .i64 0, .slice none 0 0, .slice none 0 0, .slice none 0 0, .int .i64 0, .int .i64 0]) := HXm.out.above (B := w.heap.size + 4) ((Below.refl (w.heap.size + 4) u4).grown HGm.out HXm.out.lt (fun k e => by injection e with e; have := HG3.out.1; omega)) (Nat.le_refl _)
  have HT5 := Lib.hid (HTm.out.grown HGm.out (by intro e; injection e with e; have := HG3.out.2; omega))
  have HR5 : Hid (RTrF v2 tm g) := ⟨⟨HRm.out.r.net.other HGm.out (fun ad e h => HRm.out.f ad (.inl e) (by injection h)), HRm.out.r.level.other HGm.out (fun ad e h => HRm.out.f ad (.inr (.inl e)) (by injection h)), HRm.out.r.temp.other HGm.out (fun ad e h => HRm.out.f ad (.inr (.inr e)) (by injection h)), HRm.out.r.nc, HRm.out.r.lc, HRm.out.r.tc⟩, HRm.out.f⟩
  have HR_buy_5 := Lib.hid (HM_buy.out.other HGm.out (fun ad e h => by injection h with h; have := HF_buy.out ad e; omega))
  have HR_sell_5 := Lib.hid (HM_sell.out.other HGm.out (fun ad e h => by injection h with h; have := HF_sell.out ad e; omega))
  have HR_solar_5 := Lib.hid (HM_solar.out.other HGm.out (fun ad e h => by injection h with h; have := HF_solar.out ad e; omega))
  have HR_demand_5 := Lib.hid (HM_demand.out.other HGm.out (fun ad e h => by injection h with h; have := HF_demand.out ad e; omega))
  have HR_outside_5 := Lib.hid (HM_outside.out.other HGm.out (fun ad e h => by injection h with h; have := HF_outside.out ad e; omega))
  clear hv hHeld hgn HGm HXm HTm HQm HRm HM_buy HM_sell HM_solar HM_demand HM_outside HR_buy_4 HR_sell_4 HX4 HT4 HQ4 HR4 c3 q3 f3 c4 q4 f4 c5 q5 f5 hri2 hfi2 hri3 hfi3 hri4 hfi4 hb4 hB4 hb3 hB3 hb2 hB2
  obtain ⟨-, -, -, -, -, -, -, -, -, -, -, -, -, -, -, c15, c16, -, -, -⟩ := HX5.out.px.pc
  go_wp2_with fail
  refine wp_region_held_drew (S := (fun w' => w'.cell? ⟨w.heap.size, 15, none⟩ = some (.slice x.low.A x.low.l.length x.low.c) ∧ w'.cell? ⟨w.heap.size, 16, none⟩ = some (.slice x.high.A x.high.l.length x.high.c))) (by kernel_rfl) ⟨c15, c16⟩ (fun hHeld => ?_)
  refine wpAnyH_take (i := 0) (v := ?_) rfl (by kernel_rfl) (by kernel_rfl) (by kernel_rfl) (fun _ _ _ h => h) (Or.inl ⟨by rfl, ?_⟩) (by assumption) ?_
  rotate_left
  · (intro w' hSw; (try dsimp only at hSw); go_simp; try with_reducible rfl)
  (try simp only [List.getElem_toArray, List.getElem_cons_zero, Act.put, List.setIfInBounds_toArray, List.set_cons_zero, List.set_cons_succ])
  refine wpAnyH_take (i := 1) (v := ?_) rfl (by kernel_rfl) (by kernel_rfl) (by kernel_rfl) (fun _ _ _ h => h) (Or.inl ⟨by rfl, ?_⟩) (by assumption) ?_
  rotate_left
  · (intro w' hSw; (try dsimp only at hSw); go_simp; try with_reducible rfl)
  (try simp only [List.getElem_toArray, List.getElem_cons_zero, List.getElem_cons_succ, Act.put, List.setIfInBounds_toArray, List.set_cons_zero, List.set_cons_succ])
  refine wpAnyH_take (i := 2) (v := ?_) rfl (by kernel_rfl) (by kernel_rfl) (by kernel_rfl) (fun _ _ _ h => h) (Or.inl ⟨by rfl, ?_⟩) (by assumption) ?_
  rotate_left
  · (intro w' hSw; (try dsimp only at hSw); go_simp; try with_reducible rfl)
  (try simp only [List.getElem_toArray, List.getElem_cons_zero, List.getElem_cons_succ, Act.put, List.setIfInBounds_toArray, List.set_cons_zero, List.set_cons_succ])
  refine wpAnyH_take (i := 3) (v := ?_) rfl (by kernel_rfl) (by kernel_rfl) (by kernel_rfl) (fun _ _ _ h => h) (Or.inl ⟨by rfl, ?_⟩) (by assumption) ?_
  rotate_left
  · (intro w' hSw; (try dsimp only at hSw); go_simp; try with_reducible rfl)
  (try simp only [List.getElem_toArray, List.getElem_cons_zero, List.getElem_cons_succ, Act.put, List.setIfInBounds_toArray, List.set_cons_zero, List.set_cons_succ])
  refine wpAnyH_take (i := 5) (v := ?_) rfl (by kernel_rfl) (by kernel_rfl) (by kernel_rfl) (fun _ _ _ h => h) (Or.inl ⟨by rfl, ?_⟩) (by assumption) ?_
  rotate_left
  · (intro w' hSw; (try dsimp only at hSw); go_simp; try with_reducible rfl)
  (try simp only [List.getElem_toArray, List.getElem_cons_zero, List.getElem_cons_succ, Act.put, List.setIfInBounds_toArray, List.set_cons_zero, List.set_cons_succ])
  refine wpAnyH_take (i := 6) (v := ?_) rfl (by kernel_rfl) (by kernel_rfl) (by kernel_rfl) (fun _ _ _ h => h) (Or.inl ⟨by rfl, ?_⟩) (by assumption) ?_
  rotate_left
  · (intro w' hSw; (try dsimp only at hSw); go_simp; try with_reducible rfl)
  (try simp only [List.getElem_toArray, List.getElem_cons_zero, List.getElem_cons_succ, Act.put, List.setIfInBounds_toArray, List.set_cons_zero, List.set_cons_succ])
  refine wpAnyH_take (i := 7) (v := ?_) rfl (by kernel_rfl) (by kernel_rfl) (by kernel_rfl) (fun _ _ _ h => h) (Or.inl ⟨by rfl, ?_⟩) (by assumption) ?_
  rotate_left
  · (intro w' hSw; (try dsimp only at hSw); go_simp; try with_reducible rfl)
  (try simp only [List.getElem_toArray, List.getElem_cons_zero, List.getElem_cons_succ, Act.put, List.setIfInBounds_toArray, List.set_cons_zero, List.set_cons_succ])
  refine wpAnyH_take (i := 8) (v := ?_) rfl (by kernel_rfl) (by kernel_rfl) (by kernel_rfl) (fun _ _ _ h => h) (Or.inl ⟨by rfl, ?_⟩) (by assumption) ?_
  rotate_left
  · (intro w' hSw; (try dsimp only at hSw); go_simp; try with_reducible rfl)
  (try simp only [List.getElem_toArray, List.getElem_cons_zero, List.getElem_cons_succ, Act.put, List.setIfInBounds_toArray, List.set_cons_zero, List.set_cons_succ])
  refine wpAnyH_ready (rs := [4]) (by kernel_rfl) (by simp) ?_
  refine AllReadyH.cons rfl (fun K hK => ?_) AllReadyH.nil
  have HKK := Lib.hid hK
  clear hK
  go_simp
  refine (hT_low.out _ ((HX5.out.px.pr hP.out).low.below (Below.drew (Below.refl _ _))) (HX5.out.below (Below.drew (Below.refl _ _))).ck).mono ?_
  rintro e u5 ⟨A5, e5, rfl, hri5, hfi5, hb5⟩
  have hB5 : Below v2.heap.size v2 u5 := below_tr (Below.drew (Below.refl _ _)) hb5
  refine HKK.out _ _ (⟨cell_below c15 hB5, cell_below c16 hB5⟩) (fun hH2 => ?_)
  clear HKK K
  replace hHeld := hH2
  clear hH2
  (try simp only [List.getElem_toArray, List.getElem_cons_zero, List.getElem_cons_succ, Act.put, List.setIfInBounds_toArray, List.set_cons_zero, List.set_cons_succ])
  refine wpAnyH_take (i := 10) (v := ?_) rfl (by kernel_rfl) (by kernel_rfl) (by kernel_rfl) (fun _ _ _ h => h) (Or.inl ⟨by rfl, ?_⟩) (by assumption) ?_
  rotate_left
  · (intro w' hSw; (try dsimp only at hSw); go_simp; try with_reducible rfl)
  (try simp only [List.getElem_toArray, List.getElem_cons_zero, List.getElem_cons_succ, Act.put, List.setIfInBounds_toArray, List.set_cons_zero, List.set_cons_succ])
  refine wpAnyH_take (i := 11) (v := ?_) rfl (by kernel_rfl) (by kernel_rfl) (by kernel_rfl) (fun _ _ _ h => h) (Or.inl ⟨by rfl, ?_⟩) (by assumption) ?_
  rotate_left
  · (intro w' hSw; (try dsimp only at hSw); go_simp; try with_reducible rfl)
  (try simp only [List.getElem_toArray, List.getElem_cons_zero, List.getElem_cons_succ, Act.put, List.setIfInBounds_toArray, List.set_cons_zero, List.set_cons_succ])
  refine wpAnyH_ready (rs := [9]) (by kernel_rfl) (by simp) ?_
  refine AllReadyH.cons rfl (fun K hK => ?_) AllReadyH.nil
  have HKK := Lib.hid hK
  clear hK
  go_simp
  refine (hT_high.out _ ((HX5.out.px.pr hP.out).high.below hB5) (HX5.out.below hB5).ck).mono ?_
  rintro e u6 ⟨A6, e6, rfl, hri6, hfi6, hb6⟩
  have hB6 : Below v2.heap.size v2 u6 := below_tr hB5 hb6
  have HXm := Lib.hid (HX5.out.below hB6)
  have HTm := Lib.hid (HT5.out.below hB6 HT5.out.lt)
  have HQm := Lib.hid (HQ5.out.below hB6 HQ5.out.lt)
  have HRm := Lib.hid (HR5.out.below hB6)
  have HM_buy := Lib.hid (HR_buy_5.out.below hB6)
  have HM_sell := Lib.hid (HR_sell_5.out.below hB6)
  have HM_solar := Lib.hid (HR_solar_5.out.below hB6)
  have HM_demand := Lib.hid (HR_demand_5.out.below hB6)
  have HM_outside := Lib.hid (HR_outside_5.out.below hB6)
  have HM_low := Lib.hid (hri5.below hb6)
  have HM_high := Lib.hid hri6
  have HF_low : Hid (∀ ad, A5 = some ad → g < ad.block) := fun ad e => Nat.lt_of_lt_of_le HQ5.out.lt (hfi5 ad e)
  have HF_high : Hid (∀ ad, A6 = some ad → g < ad.block) := fun ad e => Nat.lt_of_lt_of_le (Nat.lt_of_lt_of_le HQ5.out.lt hB5.size) (hfi6 ad e)
  have q15 := HQm.out.cell 15
  have f15 := HQm.out.frozen 15
  have q16 := HQm.out.cell 16
  have f16 := HQm.out.frozen 16
  simp at q15 q16
  refine HKK.out _ _ (⟨cell_below c15 hB6, cell_below c16 hB6⟩) (fun hH2 => ?_)
  clear HKK K
  replace hHeld := hH2
  clear hH2
  (try simp only [List.getElem_toArray, List.getElem_cons_zero, List.getElem_cons_succ, Act.put, List.setIfInBounds_toArray, List.set_cons_zero, List.set_cons_succ])
  have hgn : w.heap.size ≠ g := by have := HG3.out.1; omega
  refine wpAnyH_ready (rs := [12]) (by kernel_rfl) (by simp) ?_
  refine AllReadyH.cons rfl (fun K hK => ?_) AllReadyH.nil
  have HKK := Lib.hid hK
  clear hK
  go_simp
  refine HKK.out _ _ (⟨cell_setFar (cell_below c15 hB6) hgn, cell_setFar (cell_below c16 hB6) hgn⟩) (fun hH2 => ?_)
  clear HKK K
  replace hHeld := hH2
  clear hH2
  (try simp only [List.getElem_toArray, List.getElem_cons_zero, List.getElem_cons_succ, Act.put, List.setIfInBounds_toArray, List.set_cons_zero, List.set_cons_succ])
  refine wpAnyH_take (i := 13) (v := ?_) rfl (by kernel_rfl) (by kernel_rfl) (by kernel_rfl) (fun _ _ _ h => h) (Or.inl ⟨by rfl, ?_⟩) (by assumption) ?_
  rotate_left
  · (intro w' hSw; (try dsimp only at hSw); go_simp; try with_reducible rfl)
  (try simp only [List.getElem_toArray, List.getElem_cons_zero, List.getElem_cons_succ, Act.put, List.setIfInBounds_toArray, List.set_cons_zero, List.set_cons_succ])
  refine wpAnyH_take (i := 14) (v := ?_) rfl (by kernel_rfl) (by kernel_rfl) (by kernel_rfl) (fun _ _ _ h => h) (Or.inl ⟨by rfl, ?_⟩) (by assumption) ?_
  rotate_left
  · (intro w' hSw; (try dsimp only at hSw); go_simp; try with_reducible rfl)
  (try simp only [List.getElem_toArray, List.getElem_cons_zero, List.getElem_cons_succ, Act.put, List.setIfInBounds_toArray, List.set_cons_zero, List.set_cons_succ])
  refine wpAnyH_ready (rs := [15]) (by kernel_rfl) (by simp) ?_
  refine AllReadyH.cons rfl (fun K hK => ?_) AllReadyH.nil
  have HKK := Lib.hid hK
  clear hK
  go_simp
  refine HKK.out _ _ (⟨cell_setFar (cell_setFar (cell_below c15 hB6) hgn) hgn, cell_setFar (cell_setFar (cell_below c16 hB6) hgn) hgn⟩) (fun hH2 => ?_)
  clear HKK K
  replace hHeld := hH2
  clear hH2
  (try simp only [List.getElem_toArray, List.getElem_cons_zero, List.getElem_cons_succ, Act.put, List.setIfInBounds_toArray, List.set_cons_zero, List.set_cons_succ])
  refine wpAnyH_done (by kernel_rfl) ?_ _
  obtain ⟨v3, hv⟩ : ∃ v, v = (u6.setCell ⟨g, 15, none⟩ (.slice A5 (x.low.l.length - k) e5)).setCell ⟨g, 16, none⟩ (.slice A6 (x.high.l.length - k) e6) := ⟨_, rfl⟩
  have HGm : Hid (u6.grownBy v3 (some g)) := by show World.grownBy _ _ _; rw [hv]; exact only_setCell (p := ⟨g, 16, none⟩) (only_setCell (p := ⟨g, 15, none⟩) (grown_refl u6 (some g)) (.inl rfl) _) (.inl rfl) _
  have HQ6 : Hid (Blk v3 g 31 #[.slice A0 (x.buy.l.length - k) e0, .slice A1 (x.sell.l.length - k) e1, .int .i64 x.fuse, .slice A2 (x.solar.l.length - k) e2, .slice A3 (x.demand.l.length - k) e3, .slice A4 (x.outside.l.length - k) e4, .int .i64 x.bat.cap, .int .i64 x.bat.reserve, .int .i64 x.bat.charge, .int .i64 x.bat.discharge, .int .i64 x.bat.eff, .int .i64 x.gain, .int .i64 x.loss, .int .i64 x.steps, .int .i64 x.power, .slice A5 (x.low.l.length - k) e5, .slice A6 (x.high.l.length - k) e6, .slice x.LA x.loads.length x.lc, .int .i64 x.level, .int .i64 x.temp]) := by show Blk _ _ _ _; rw [hv]; have := ((HQm.out).set_ 15 (.slice A5 (x.low.l.length - k) e5)).set_ 16 (.slice A6 (x.high.l.length - k) e6); simpa using this
  go_upto_region 11 with fail
  rw [← hv]
  have HX6 : Hid (RK x y w k v3 #[.slice none 0 0, .slice none 0 0, .int .i64 0, .slice none 0 0, .slice none 0 0, .slice none 0 0, .int .i64 0, .int .i64 0, .int .i64 0, .int .i64 0, .int .i64 0, .int .i64 0, .int .i64 0, .int .i64 0, .int .i64 0, .slice none 0 0, .slice none 0 0, .slice none 0 0, .int .i64 0, .int .i64 0]) := HXm.out.above (B := w.heap.size + 4) ((Below.refl (w.heap.size + 4) u6).grown HGm.out HXm.out.lt (fun k e => by injection e with e; have := HG3.out.1; omega)) (Nat.le_refl _)
  have HT6 := Lib.hid (HTm.out.grown HGm.out (by intro e; injection e with e; have := HG3.out.2; omega))
  have HR6 : Hid (RTrF v3 tm g) := ⟨⟨HRm.out.r.net.other HGm.out (fun ad e h => HRm.out.f ad (.inl e) (by injection h)), HRm.out.r.level.other HGm.out (fun ad e h => HRm.out.f ad (.inr (.inl e)) (by injection h)), HRm.out.r.temp.other HGm.out (fun ad e h => HRm.out.f ad (.inr (.inr e)) (by injection h)), HRm.out.r.nc, HRm.out.r.lc, HRm.out.r.tc⟩, HRm.out.f⟩
  have HR_buy_6 := Lib.hid (HM_buy.out.other HGm.out (fun ad e h => by injection h with h; have := HF_buy.out ad e; omega))
  have HR_sell_6 := Lib.hid (HM_sell.out.other HGm.out (fun ad e h => by injection h with h; have := HF_sell.out ad e; omega))
  have HR_solar_6 := Lib.hid (HM_solar.out.other HGm.out (fun ad e h => by injection h with h; have := HF_solar.out ad e; omega))
  have HR_demand_6 := Lib.hid (HM_demand.out.other HGm.out (fun ad e h => by injection h with h; have := HF_demand.out ad e; omega))
  have HR_outside_6 := Lib.hid (HM_outside.out.other HGm.out (fun ad e h => by injection h with h; have := HF_outside.out ad e; omega))
  have HR_low_6 := Lib.hid (HM_low.out.other HGm.out (fun ad e h => by injection h with h; have := HF_low.out ad e; omega))
  have HR_high_6 := Lib.hid (HM_high.out.other HGm.out (fun ad e h => by injection h with h; have := HF_high.out ad e; omega))
  clear hv hHeld hgn HGm HXm HTm HQm HRm HM_buy HM_sell HM_solar HM_demand HM_outside HM_low HM_high HR_buy_5 HR_sell_5 HR_solar_5 HR_demand_5 HR_outside_5 HX5 HT5 HQ5 HR5 c15 q15 f15 c16 q16 f16 hri5 hfi5 hri6 hfi6 hb6 hB6 hb5 hB5
  have ck := HX6.out.ck
  go_upto_if 83 with (fail)
  go_cut [84] (fun s84 wx => Hid (v3.grownBy wx (some g)) ∧ Hid (Blk wx g 31 #[.slice A0 (x.buy.l.length - k) e0, .slice A1 (x.sell.l.length - k) e1, .int .i64 x.fuse, .slice A2 (x.solar.l.length - k) e2, .slice A3 (x.demand.l.length - k) e3, .slice A4 (x.outside.l.length - k) e4, .int .i64 x.bat.cap, .int .i64 x.bat.reserve, .int .i64 x.bat.charge, .int .i64 x.bat.discharge, .int .i64 x.bat.eff, .int .i64 x.gain, .int .i64 x.loss, .int .i64 x.steps, .int .i64 x.power, .slice A5 (x.low.l.length - k) e5, .slice A6 (x.high.l.length - k) e6, .slice x.LA x.loads.length x.lc, .int .i64 (x.p.lv y.x k), .int .i64 (x.p.tm y.x k)]))
  case first =>
    by_cases hk0 : k = 0
    · have hk1 : ¬ (0 : Int) < (k : Int) := by omega
      have HQz : Hid (Blk v3 g 31 #[.slice A0 (x.buy.l.length - k) e0, .slice A1 (x.sell.l.length - k) e1, .int .i64 x.fuse, .slice A2 (x.solar.l.length - k) e2, .slice A3 (x.demand.l.length - k) e3, .slice A4 (x.outside.l.length - k) e4, .int .i64 x.bat.cap, .int .i64 x.bat.reserve, .int .i64 x.bat.charge, .int .i64 x.bat.discharge, .int .i64 x.bat.eff, .int .i64 x.gain, .int .i64 x.loss, .int .i64 x.steps, .int .i64 x.power, .slice A5 (x.low.l.length - k) e5, .slice A6 (x.high.l.length - k) e6, .slice x.LA x.loads.length x.lc, .int .i64 (x.p.lv y.x k), .int .i64 (x.p.tm y.x k)]) := by
        have h1 : x.p.lv y.x k = x.level := by rw [hk0]; rfl
        have h2 : x.p.tm y.x k = x.temp := by rw [hk0]; rfl
        rw [h1, h2]
        exact HQ6.out
      clear hk0
      go_wp2_with fail
      go_meet
      exact ⟨grown_refl _ _, HQz.out⟩
    · have hk1 : (0 : Int) < (k : Int) := by omega
      have hk2 : k - 1 < x.buy.l.length := by omega
      have hl1 : tm.level.l.length = x.buy.l.length := by rw [show tm.level.l = _ from congrArg Tr.level (HTX.out.trans htl.out)]; simp only [Pb.levels_len]; rfl
      have hl2 : tm.temp.l.length = x.buy.l.length := by rw [show tm.temp.l = _ from congrArg Tr.temp (HTX.out.trans htl.out)]; simp only [Pb.temps_len]; rfl
      have hv1 : tm.level.l[k - 1]'(by omega) = x.p.lv y.x k := by
        have e : tm.level.l = x.p.levels y.x x.p.n := congrArg Tr.level (HTX.out.trans htl.out)
        rw [List.getElem_of_eq e]
        simp [Pb.levels, show k - 1 + 1 = k by omega]
      have hv2 : tm.temp.l[k - 1]'(by omega) = x.p.tm y.x k := by
        have e : tm.temp.l = x.p.temps y.x x.p.n := congrArg Tr.temp (HTX.out.trans htl.out)
        rw [List.getElem_of_eq e]
        simp [Pb.temps, show k - 1 + 1 = k by omega]
      obtain ⟨b1, o1, ha1, _, s1⟩ := HR6.out.r.level.at' (k := k - 1) (by omega)
      obtain ⟨b2, o2, ha2, _, s2⟩ := HR6.out.r.temp.at' (k := k - 1) (by omega)
      have c1 := HT6.out.cell 1
      have c2 := HT6.out.cell 2
      simp at c1 c2
      rw [ha1] at c1
      rw [ha2] at c2
      rw [hv1] at s1
      rw [hv2] at s2
      have ib0 : (0 : Int) ≤ (k : Int) - 1 := by omega
      have ib3 : (1 : Int) ≤ (k : Int) := by omega
      have ib1 : (k : Int) - 1 < (tm.level.l.length : Int) := by omega
      have ib2 : (k : Int) - 1 < (tm.temp.l.length : Int) := by omega
      have iwk : IntKind.i64.wrap ((k : Int) - 1) = (k : Int) - 1 := IntWalk.i64_in _ (by omega)
      have ibn : ((k : Int) - 1).toNat = k - 1 := by omega
      have q18 := HQ6.out.cell 18
      have q19 := HQ6.out.cell 19
      have f18 := HQ6.out.frozen 18
      have f19 := HQ6.out.frozen 19
      simp at q18 q19
      have n1g : b1 ≠ g := HR6.out.f _ (.inr (.inl ha1))
      have n2g : b2 ≠ g := HR6.out.f _ (.inr (.inr ha2))
      have ntg : t8 ≠ g := Nat.ne_of_lt HG3.out.2
      have nkg : w.heap.size + 2 ≠ g := by have := HG3.out.1; omega
      clear hl1 hl2 hv1 hv2 ha1 ha2 hk2 hk0
      go_wp2_with fail
      refine wp_region_held_drew (S := (fun w' => w'.cell? ⟨t8, 1, none⟩ = some (.slice (some ⟨b1, o1, none⟩) tm.level.l.length tm.level.c) ∧ w'.cell? ⟨t8, 2, none⟩ = some (.slice (some ⟨b2, o2, none⟩) tm.temp.l.length tm.temp.c) ∧ w'.cell? ⟨b1, o1 + (k - 1), none⟩ = some (.int .i64 (x.p.lv y.x k)) ∧ w'.cell? ⟨b2, o2 + (k - 1), none⟩ = some (.int .i64 (x.p.tm y.x k)) ∧ w'.cell? ⟨w.heap.size + 2, 0, none⟩ = some (.int .i64 k))) (by kernel_rfl) ⟨c1, c2, s1, s2, ck⟩ (fun hHeld => ?_)
      refine wpAnyH_take (i := 0) (v := ?_) rfl (by kernel_rfl) (by kernel_rfl) (by kernel_rfl) (fun _ _ _ h => h) (Or.inl ⟨by rfl, ?_⟩) (by assumption) ?_
      rotate_left
      · (intro w' hSw; (try dsimp only at hSw); go_simp; try with_reducible rfl)
      (try simp only [List.getElem_toArray, List.getElem_cons_zero, Act.put, List.setIfInBounds_toArray, List.set_cons_zero, List.set_cons_succ])
      refine wpAnyH_take (i := 1) (v := ?_) rfl (by kernel_rfl) (by kernel_rfl) (by kernel_rfl) (fun _ _ _ h => h) (Or.inl ⟨by rfl, ?_⟩) (by assumption) ?_
      rotate_left
      · (intro w' hSw; (try dsimp only at hSw); go_simp; try with_reducible rfl)
      (try simp only [List.getElem_toArray, List.getElem_cons_zero, List.getElem_cons_succ, Act.put, List.setIfInBounds_toArray, List.set_cons_zero, List.set_cons_succ])
      refine wpAnyH_take (i := 2) (v := ?_) rfl (by kernel_rfl) (by kernel_rfl) (by kernel_rfl) (fun _ _ _ h => h) (Or.inl ⟨by rfl, ?_⟩) (by assumption) ?_
      rotate_left
      · (intro w' hSw; (try dsimp only at hSw); go_simp; try with_reducible rfl)
      (try simp only [List.getElem_toArray, List.getElem_cons_zero, List.getElem_cons_succ, Act.put, List.setIfInBounds_toArray, List.set_cons_zero, List.set_cons_succ])
      refine wpAnyH_take (i := 3) (v := ?_) rfl (by kernel_rfl) (by kernel_rfl) (by kernel_rfl) (fun _ _ _ h => h) (Or.inl ⟨by rfl, ?_⟩) (by assumption) ?_
      rotate_left
      · (intro w' hSw; (try dsimp only at hSw); go_simp; try with_reducible rfl)
      (try simp only [List.getElem_toArray, List.getElem_cons_zero, List.getElem_cons_succ, Act.put, List.setIfInBounds_toArray, List.set_cons_zero, List.set_cons_succ])
      refine wpAnyH_take (i := 4) (v := ?_) rfl (by kernel_rfl) (by kernel_rfl) (by kernel_rfl) (fun _ _ _ h => h) (Or.inl ⟨by rfl, ?_⟩) (by assumption) ?_
      rotate_left
      · (intro w' hSw; (try dsimp only at hSw); go_simp; try with_reducible rfl)
      (try simp only [List.getElem_toArray, List.getElem_cons_zero, List.getElem_cons_succ, Act.put, List.setIfInBounds_toArray, List.set_cons_zero, List.set_cons_succ])
      refine wpAnyH_take (i := 5) (v := ?_) rfl (by kernel_rfl) (by kernel_rfl) (by kernel_rfl) (fun _ _ _ h => h) (Or.inl ⟨by rfl, ?_⟩) (by assumption) ?_
      rotate_left
      · (intro w' hSw; (try dsimp only at hSw); go_simp; try with_reducible rfl)
      (try simp only [List.getElem_toArray, List.getElem_cons_zero, List.getElem_cons_succ, Act.put, List.setIfInBounds_toArray, List.set_cons_zero, List.set_cons_succ])
      refine wpAnyH_take (i := 6) (v := ?_) rfl (by kernel_rfl) (by kernel_rfl) (by kernel_rfl) (fun _ _ _ h => h) (Or.inl ⟨by rfl, ?_⟩) (by assumption) ?_
      rotate_left
      · (intro w' hSw; (try dsimp only at hSw); go_simp; try with_reducible rfl)
      (try simp only [List.getElem_toArray, List.getElem_cons_zero, List.getElem_cons_succ, Act.put, List.setIfInBounds_toArray, List.set_cons_zero, List.set_cons_succ])
      refine wpAnyH_take (i := 7) (v := ?_) rfl (by kernel_rfl) (by kernel_rfl) (by kernel_rfl) (fun _ _ _ h => h) (Or.inl ⟨by rfl, ?_⟩) (by assumption) ?_
      rotate_left
      · (intro w' hSw; (try dsimp only at hSw); go_simp; try with_reducible rfl)
      (try simp only [List.getElem_toArray, List.getElem_cons_zero, List.getElem_cons_succ, Act.put, List.setIfInBounds_toArray, List.set_cons_zero, List.set_cons_succ])
      refine wpAnyH_take (i := 8) (v := ?_) rfl (by kernel_rfl) (by kernel_rfl) (by kernel_rfl) (fun _ _ _ h => h) (Or.inl ⟨by rfl, ?_⟩) (by assumption) ?_
      rotate_left
      · (intro w' hSw; (try dsimp only at hSw); go_simp; try with_reducible rfl)
      (try simp only [List.getElem_toArray, List.getElem_cons_zero, List.getElem_cons_succ, Act.put, List.setIfInBounds_toArray, List.set_cons_zero, List.set_cons_succ])
      refine wpAnyH_take (i := 9) (v := ?_) rfl (by kernel_rfl) (by kernel_rfl) (by kernel_rfl) (fun _ _ _ h => h) (Or.inl ⟨by rfl, ?_⟩) (by assumption) ?_
      rotate_left
      · (intro w' hSw; (try dsimp only at hSw); go_simp; try with_reducible rfl)
      (try simp only [List.getElem_toArray, List.getElem_cons_zero, List.getElem_cons_succ, Act.put, List.setIfInBounds_toArray, List.set_cons_zero, List.set_cons_succ])
      refine wpAnyH_take (i := 10) (v := ?_) rfl (by kernel_rfl) (by kernel_rfl) (by kernel_rfl) (fun _ _ _ h => h) (Or.inl ⟨by rfl, ?_⟩) (by assumption) ?_
      rotate_left
      · (intro w' hSw; (try dsimp only at hSw); go_simp; try with_reducible rfl)
      (try simp only [List.getElem_toArray, List.getElem_cons_zero, List.getElem_cons_succ, Act.put, List.setIfInBounds_toArray, List.set_cons_zero, List.set_cons_succ])
      refine wpAnyH_take (i := 11) (v := ?_) rfl (by kernel_rfl) (by kernel_rfl) (by kernel_rfl) (fun _ _ _ h => h) (Or.inl ⟨by rfl, ?_⟩) (by assumption) ?_
      rotate_left
      · (intro w' hSw; (try dsimp only at hSw); go_simp; try with_reducible rfl)
      (try simp only [List.getElem_toArray, List.getElem_cons_zero, List.getElem_cons_succ, Act.put, List.setIfInBounds_toArray, List.set_cons_zero, List.set_cons_succ])
      refine wpAnyH_take (i := 12) (v := ?_) rfl (by kernel_rfl) (by kernel_rfl) (by kernel_rfl) (fun _ _ _ h => h) (Or.inl ⟨by rfl, ?_⟩) (by assumption) ?_
      rotate_left
      · (intro w' hSw; (try dsimp only at hSw); go_simp; try with_reducible rfl)
      (try simp only [List.getElem_toArray, List.getElem_cons_zero, List.getElem_cons_succ, Act.put, List.setIfInBounds_toArray, List.set_cons_zero, List.set_cons_succ])
      refine wpAnyH_ready (rs := [13]) (by kernel_rfl) (by simp) ?_
      refine AllReadyH.cons rfl (fun K hK => ?_) AllReadyH.nil
      have HKK := Lib.hid hK
      clear hK
      go_simp
      refine HKK.out _ _ (⟨cell_setFar' c1 ntg, cell_setFar' c2 ntg, cell_setFar' s1 n1g, cell_setFar' s2 n2g, cell_setFar' ck nkg⟩) (fun hH2 => ?_)
      clear HKK K
      replace hHeld := hH2
      clear hH2
      (try simp only [List.getElem_toArray, List.getElem_cons_zero, List.getElem_cons_succ, Act.put, List.setIfInBounds_toArray, List.set_cons_zero, List.set_cons_succ])
      refine wpAnyH_take (i := 14) (v := ?_) rfl (by kernel_rfl) (by kernel_rfl) (by kernel_rfl) (fun _ _ _ h => h) (Or.inl ⟨by rfl, ?_⟩) (by assumption) ?_
      rotate_left
      · (intro w' hSw; (try dsimp only at hSw); go_simp; try with_reducible rfl)
      (try simp only [List.getElem_toArray, List.getElem_cons_zero, List.getElem_cons_succ, Act.put, List.setIfInBounds_toArray, List.set_cons_zero, List.set_cons_succ])
      refine wpAnyH_ready (rs := [15]) (by kernel_rfl) (by simp) ?_
      refine AllReadyH.cons rfl (fun K hK => ?_) AllReadyH.nil
      have HKK := Lib.hid hK
      clear hK
      go_simp
      refine HKK.out _ _ (⟨cell_setFar' (cell_setFar' c1 ntg) ntg, cell_setFar' (cell_setFar' c2 ntg) ntg, cell_setFar' (cell_setFar' s1 n1g) n1g, cell_setFar' (cell_setFar' s2 n2g) n2g, cell_setFar' (cell_setFar' ck nkg) nkg⟩) (fun hH2 => ?_)
      clear HKK K
      replace hHeld := hH2
      clear hH2
      (try simp only [List.getElem_toArray, List.getElem_cons_zero, List.getElem_cons_succ, Act.put, List.setIfInBounds_toArray, List.set_cons_zero, List.set_cons_succ])
      refine wpAnyH_done (by kernel_rfl) ?_ _
      go_wp2_with fail
      go_meet
      refine ⟨?_, ?_⟩
      · show World.grownBy _ _ _
        exact only_below (only_setCell (p := ⟨g, 19, none⟩) (only_setCell (p := ⟨g, 18, none⟩) (grown_refl v3 (some g)) (.inl rfl) (.int .i64 (x.p.lv y.x k))) (.inl rfl) (.int .i64 (x.p.tm y.x k))) (Below.drew (Below.refl _ _))
      · have := (HQ6.out.set_ 18 (.int .i64 (x.p.lv y.x k))).set_ 19 (.int .i64 (x.p.tm y.x k))
        have h2 := this.below (Below.drew (Below.refl _ _)) this.lt
        show Blk _ _ _ _
        simpa using h2
  case rest =>
    obtain ⟨HGM, HQM⟩ := hcut
    obtain ⟨vM, hvM⟩ : ∃ v : World, v = wc := ⟨_, rfl⟩
    subst hvM
    have HXM : Hid (RK x y w k vM #[.slice none 0 0, .slice none 0 0, .int .i64 0, .slice none 0 0, .slice none 0 0, .slice none 0 0, .int .i64 0, .int .i64 0, .int .i64 0, .int .i64 0, .int .i64 0, .int .i64 0, .int .i64 0, .int .i64 0, .int .i64 0, .slice none 0 0, .slice none 0 0, .slice none 0 0, .int .i64 0, .int .i64 0]) := HX6.out.above (B := w.heap.size + 4) ((Below.refl (w.heap.size + 4) v3).grown HGM.out HX6.out.lt (fun k e => by injection e with e; have := HG3.out.1; omega)) (Nat.le_refl _)
    have HM_buy := Lib.hid (HR_buy_6.out.other HGM.out (fun ad e h => by injection h with h; have := HF_buy.out ad e; omega))
    have HM_sell := Lib.hid (HR_sell_6.out.other HGM.out (fun ad e h => by injection h with h; have := HF_sell.out ad e; omega))
    have HM_solar := Lib.hid (HR_solar_6.out.other HGM.out (fun ad e h => by injection h with h; have := HF_solar.out ad e; omega))
    have HM_demand := Lib.hid (HR_demand_6.out.other HGM.out (fun ad e h => by injection h with h; have := HF_demand.out ad e; omega))
    have HM_outside := Lib.hid (HR_outside_6.out.other HGM.out (fun ad e h => by injection h with h; have := HF_outside.out ad e; omega))
    have HM_low := Lib.hid (HR_low_6.out.other HGM.out (fun ad e h => by injection h with h; have := HF_low.out ad e; omega))
    have HM_high := Lib.hid (HR_high_6.out.other HGM.out (fun ad e h => by injection h with h; have := HF_high.out ad e; omega))
    clear ck HX6 HT6 HQ6 HR6 HTX htl HR_buy_6 HR_sell_6 HR_solar_6 HR_demand_6 HR_outside_6 HR_low_6 HR_high_6
    have qj := HQM.out.cell 17
    have qf := HQM.out.frozen 17
    simp at qj
    obtain ⟨vL, hv⟩ : ∃ v, v = vM.setCell ⟨g, 17, none⟩ (.slice none 0 0) := ⟨_, rfl⟩
    have HGL : Hid (vM.grownBy vL (some g)) := by show World.grownBy _ _ _; rw [hv]; exact only_setCell (grown_refl _ _) (.inl rfl) _
    have HQL : Hid (Blk vL g 31 #[.slice A0 (x.buy.l.length - k) e0, .slice A1 (x.sell.l.length - k) e1, .int .i64 x.fuse, .slice A2 (x.solar.l.length - k) e2, .slice A3 (x.demand.l.length - k) e3, .slice A4 (x.outside.l.length - k) e4, .int .i64 x.bat.cap, .int .i64 x.bat.reserve, .int .i64 x.bat.charge, .int .i64 x.bat.discharge, .int .i64 x.bat.eff, .int .i64 x.gain, .int .i64 x.loss, .int .i64 x.steps, .int .i64 x.power, .slice A5 (x.low.l.length - k) e5, .slice A6 (x.high.l.length - k) e6, .slice none 0 0, .int .i64 (x.p.lv y.x k), .int .i64 (x.p.tm y.x k)]) := by show Blk _ _ _ _; rw [hv]; have := HQM.out.set_ 17 (.slice none 0 0); simpa using this
    go_upto_region 14 with fail
    rw [← hv]
    clear hv qj qf
    have HXL : Hid (RK x y w k vL #[.slice none 0 0, .slice none 0 0, .int .i64 0, .slice none 0 0, .slice none 0 0, .slice none 0 0, .int .i64 0, .int .i64 0, .int .i64 0, .int .i64 0, .int .i64 0, .int .i64 0, .int .i64 0, .int .i64 0, .int .i64 0, .slice none 0 0, .slice none 0 0, .slice none 0 0, .int .i64 0, .int .i64 0]) := HXM.out.above (B := w.heap.size + 4) ((Below.refl (w.heap.size + 4) vM).grown HGL.out HXM.out.lt (fun k e => by injection e with e; have := HG3.out.1; omega)) (Nat.le_refl _)
    obtain ⟨-, -, -, -, -, -, -, -, -, -, -, -, -, -, -, -, -, c17, -, -⟩ := HXL.out.px.pc
    go_wp2_with fail
    clear c17
    have hQL0 : Hid (g < vL.heap.size) := HQL.out.lt
    go_loopw [102] (fun s102 wr => ∃ (j : Nat) (v : Value) (rows : List LdM), j ≤ x.loads.length ∧ s102 = .int .i64 j ∧ Hid (vL.grownBy wr (some g)) ∧ Hid (Blk wr g 31 #[.slice A0 (x.buy.l.length - k) e0, .slice A1 (x.sell.l.length - k) e1, .int .i64 x.fuse, .slice A2 (x.solar.l.length - k) e2, .slice A3 (x.demand.l.length - k) e3, .slice A4 (x.outside.l.length - k) e4, .int .i64 x.bat.cap, .int .i64 x.bat.reserve, .int .i64 x.bat.charge, .int .i64 x.bat.discharge, .int .i64 x.bat.eff, .int .i64 x.gain, .int .i64 x.loss, .int .i64 x.steps, .int .i64 x.power, .slice A5 (x.low.l.length - k) e5, .slice A6 (x.high.l.length - k) e6, v, .int .i64 (x.p.lv y.x k), .int .i64 (x.p.tm y.x k)]) ∧ Hid (MadeL wr vL.heap.size v rows) ∧ Hid (rows.map LdM.r = x.p.lefts y.x k j))
      (fun s102 _ => x.loads.length - (intOf s102).toNat)
    case atStart => exact ⟨0, _, [], by omega, rfl, grown_refl _ _, HQL.out, MadeL.nil _ _, rfl⟩
    case round =>
      obtain ⟨j, v, rows, hj, rfl, hGB, hQv, hMv, hrows⟩ := hrel
      obtain ⟨wo, hwo⟩ : ∃ wo : World, wo = wr := ⟨_, rfl⟩
      subst hwo
      have hbw : Below (w.heap.size + 4) vL wo := (Below.refl (w.heap.size + 4) vL).grown hGB.out HXL.out.lt (fun k e => by injection e with e; have := HG3.out.1; omega)
      have HXo := Lib.hid (HXL.out.above hbw (Nat.le_refl _))
      clear hbw
      by_cases hlt : j < x.loads.length
      · have hjs : j < y.start.l.length := by rw [HSTL.out]; exact hlt
        obtain ⟨b, of, hAe, _, y0, y1, y2, y3⟩ := (HXo.out.px.pr hP.out).loads.at' hlt
        obtain ⟨bs, os, hSe, _, s0⟩ := (HXo.out.px.qr hQ.out).start.at' hjs
        have HPF := Lib.hid ((HXo.out.px.pr hP.out).loads.prof hlt)
        obtain ⟨-, -, d2⟩ := HXo.out.px.qc
        have ck := HXo.out.ck
        rw [hSe] at d2
        obtain ⟨sb0, sb1, sb2, sb3⟩ := HSB.out j hlt hjs
        have HLP : Hid (x.loads[j].r.isLeft y.start.l[j] k = true → 0 < (x.loads[j].r.left y.start.l[j] k).prof.length) := Ld.left_pos sb3
        have hle0 := fun W (h : RInts W x.loads[j].A x.loads[j].r.prof) => pleft_any x.loads[j].r x.loads[j].A x.loads[j].c y.start.l[j] k W h (HN.out _ (List.getElem_mem hlt)) sb2 (HCP.out _ (List.getElem_mem hlt)) sb0 sb1 (by omega) (by omega)
        have hsu : x.p.lefts y.x k (j + 1) = if x.loads[j].r.isLeft y.start.l[j] k = true then x.p.lefts y.x k j ++ [x.loads[j].r.left y.start.l[j] k] else x.p.lefts y.x k j := by
          rw [Pb.lefts, show x.p.loads.getD j Ld.zero = x.loads[j].r by simp [PbM.p, List.getD, hlt], show y.x.start.getD j 0 = y.start.l[j] by simp [PnM.x, List.getD, hjs]]
        have HSU := Lib.hid hsu
        simp only [Ld.v] at hle0
        have i1 : (0 : Int) ≤ (j : Int) := by omega
        have i2 : (j : Int) < (x.loads.length : Int) := by omega
        have i3 : (j : Int) < (y.start.l.length : Int) := by omega
        clear hsu sb0 sb1 sb2 sb3
        generalize x.loads[j] = X at *
        generalize y.start.l[j] = s at *
        generalize X.r.left s k = m at *
        generalize X.r.isLeft s k = bl at *
        have HLE := Lib.hid hle0
        rw [hAe]
        clear hAe hSe hle0
        go_upto_region 17 with fail
        obtain ⟨wB, hwB⟩ : ∃ v, v = wo.alloc (.cells #[.string X.r.name, .slice X.A X.r.prof.length X.c, .int .i64 X.r.early, .int .i64 X.r.late] 52) := ⟨_, rfl⟩
        obtain ⟨lb, hlb⟩ : ∃ n, n = wo.heap.size := ⟨_, rfl⟩
        rw [← hwB, ← hlb]
        have hbB : Below wo.heap.size wo wB := by rw [hwB]; exact below_al (Below.refl _ _)
        have kb : Blk wB lb 52 #[.string X.r.name, .slice X.A X.r.prof.length X.c, .int .i64 X.r.early, .int .i64 X.r.late] := by rw [hwB, hlb]; exact Blk.new _ _ _
        have z0 := kb.cell 0
        have z1 := kb.cell 1
        have z2 := kb.cell 2
        have z3 := kb.cell 3
        simp at z0 z1 z2 z3
        have HBB := Lib.hid hbB
        have HPB := Lib.hid (HPF.out.below hbB)
        have HK : Hid (∀ W, Below wB.heap.size wB W → Below wB.heap.size wB W ∧ W.cell? ⟨lb, 0, none⟩ = some (.string X.r.name) ∧ W.cell? ⟨lb, 1, none⟩ = some (.slice X.A X.r.prof.length X.c) ∧ W.cell? ⟨lb, 2, none⟩ = some (.int .i64 X.r.early) ∧ W.cell? ⟨lb, 3, none⟩ = some (.int .i64 X.r.late) ∧ W.cell? ⟨w.heap.size + 1, 2, none⟩ = some (.slice (some ⟨bs, os, none⟩) y.start.l.length y.start.c) ∧ W.cell? ⟨bs, os + j, none⟩ = some (.int .i64 s) ∧ W.cell? ⟨w.heap.size + 2, 0, none⟩ = some (.int .i64 k)) := fun W hb => ⟨hb, cell_below z0 hb, cell_below z1 hb, cell_below z2 hb, cell_below z3 hb, cell_below (cell_below d2 hbB) hb, cell_below (cell_below s0 hbB) hb, cell_below (cell_below ck hbB) hb⟩
        clear hwB hlb hbB kb z0 z1 z2 z3 y0 y1 y2 y3 d2 s0 ck HPF
        go_cut [14, 15] (fun s14 s15 wx => ∃ (nb : Nat) (A' : Option Addr) (c' : Nat), s14 = .pointer (some ⟨nb, 0, none⟩) ∧ s15 = .bool bl ∧ Hid (Below wo.heap.size wo wx) ∧ Hid (wo.heap.size ≤ nb) ∧
          Hid (Blk wx nb 52 #[.string m.name, .slice A' m.prof.length c', .int .i64 m.early, .int .i64 m.late]) ∧ Hid (RInts wx A' m.prof) ∧ Hid (∀ ad, A' = some ad → wo.heap.size ≤ ad.block))
        case first =>
          go_region_held3 (fun w' => Below wB.heap.size wB w' ∧ w'.cell? ⟨lb, 0, none⟩ = some (.string X.r.name) ∧ w'.cell? ⟨lb, 1, none⟩ = some (.slice X.A X.r.prof.length X.c) ∧ w'.cell? ⟨lb, 2, none⟩ = some (.int .i64 X.r.early) ∧ w'.cell? ⟨lb, 3, none⟩ = some (.int .i64 X.r.late) ∧ w'.cell? ⟨w.heap.size + 1, 2, none⟩ = some (.slice (some ⟨bs, os, none⟩) y.start.l.length y.start.c) ∧ w'.cell? ⟨bs, os + j, none⟩ = some (.int .i64 s) ∧ w'.cell? ⟨w.heap.size + 2, 0, none⟩ = some (.int .i64 k))
            (first | exact HK.out _ (Below.refl _ _) | exact HK.out _ (Below.drew (Below.refl _ _)) | exact HK.out _ (below_al (And.left (by assumption))) | exact HK.out _ (below_al (Below.drew (Below.refl _ _))) | exact HK.out _ (And.left (by assumption)) | exact HK.out _ (below_tr (And.left (by assumption)) (by assumption)) | exact HK.out _ (below_al (below_tr (Below.drew (Below.refl _ _)) (by assumption))) | exact HK.out _ (((((below_tr (below_al (Below.drew (Below.refl _ _))) (by assumption)).setCell (Nat.le_refl _) _).setCell (Nat.le_refl _) _).setCell (Nat.le_refl _) _).setCell (Nat.le_refl _) _) | exact HK.out _ ((((Below.setCell (below_tr (And.left (by assumption)) (by assumption)) (by simp; try omega) _).setCell (by simp; try omega) _).setCell (by simp; try omega) _).setCell (by simp; try omega) _) | exact HK.out _ ((((Below.setCell (And.left (by assumption)) (by simp; try omega) _).setCell (by simp; try omega) _).setCell (by simp; try omega) _).setCell (by simp; try omega) _))
            (first | (go_at_call 62; refine (HLE.out _ (HPB.out.below (And.left (by assumption)))).mono ?_; rintro e' w7 ⟨A', c', rfl, hr7, hf7, hb7⟩; have kz := (one_box (w := wB.drew) (cs := #[.string ⟨#[]⟩, .slice none 0 0, .int .i64 0, .int .i64 0]) (t := 52) hb7).1; have q0 : w7.cell? ⟨wB.heap.size, 0, none⟩ = some (.string ⟨#[]⟩) := kz.cell 0; have q1 : w7.cell? ⟨wB.heap.size, 1, none⟩ = some (.slice none 0 0) := kz.cell 1; have q2 : w7.cell? ⟨wB.heap.size, 2, none⟩ = some (.int .i64 0) := kz.cell 2; have q3 : w7.cell? ⟨wB.heap.size, 3, none⟩ = some (.int .i64 0) := kz.cell 3; have f0 : w7.frozen? ⟨wB.heap.size, 0, none⟩ = false := kz.frozen 0; have f1 : w7.frozen? ⟨wB.heap.size, 1, none⟩ = false := kz.frozen 1; have f2 : w7.frozen? ⟨wB.heap.size, 2, none⟩ = false := kz.frozen 2; have f3 : w7.frozen? ⟨wB.heap.size, 3, none⟩ = false := kz.frozen 3; have KZ := Lib.hid kz; clear kz) | (go_at_call 62; refine (HLE.out _ (HPB.out.below (And.left (by assumption)))).mono ?_; rintro e' w7 ⟨A', c', rfl, hr7, hf7, hb7⟩))
          · go_wp2_with fail
            go_meet
            have hsB := HBB.out.size
            exact ⟨w7.heap.size, A', c', rfl, rfl, below_tr HBB.out (below_al (below_tr (Below.drew (Below.refl _ _)) hb7)), Nat.le_trans hsB hb7.size, Blk.new _ _ _, hr7.alloc _, fun ad e => Nat.le_trans hsB (hf7 ad e)⟩
          · go_wp2_with fail
            go_meet
            have hsB := HBB.out.size
            have hne : ∀ ad, A' = some ad → ad.block ≠ wB.heap.size := fun ad e => by
              have h : (wB.alloc (.cells #[.string ⟨#[]⟩, .slice none 0 0, .int .i64 0, .int .i64 0] 52)).heap.size ≤ ad.block := hf7 ad e
              rw [World.size_alloc] at h
              omega
            have hst := ((((KZ.out).set_ 0 (.string m.name)).set_ 1 (.slice A' m.prof.length c')).set_ 2 (.int .i64 m.early)).set_ 3 (.int .i64 m.late)
            exact ⟨wB.heap.size, A', c', rfl, rfl, below_tr HBB.out (((((below_tr (below_al (Below.drew (Below.refl _ _))) hb7).setCell (Nat.le_refl _) _).setCell (Nat.le_refl _) _).setCell (Nat.le_refl _) _).setCell (Nat.le_refl _) _), hsB, (by show Blk _ _ _ _; simpa using hst), ((((hr7).setFar (p := ⟨wB.heap.size, 0, none⟩) hne _).setFar (p := ⟨wB.heap.size, 1, none⟩) hne _).setFar (p := ⟨wB.heap.size, 2, none⟩) hne _).setFar (p := ⟨wB.heap.size, 3, none⟩) hne _,
              fun ad e => by have := hne ad e; have h : (wB.alloc (.cells #[.string ⟨#[]⟩, .slice none 0 0, .int .i64 0, .int .i64 0] 52)).heap.size ≤ ad.block := hf7 ad e; rw [World.size_alloc] at h; omega⟩
        case rest =>
          obtain ⟨nb, A', c', rfl, rfl, hb8, hnb, hN8, hr8, hf8⟩ := hcut
          have hGB8 := Lib.hid (only_below hGB.out hb8.out)
          have hQ8 := Lib.hid (hQv.out.below hb8.out hQv.out.lt)
          have hM8 := Lib.hid (hMv.out.below hb8.out)
          have hrl : rows.length ≤ j := by
            have := Pb.lefts_len x.p y.x k j
            rw [← hrows.out, List.length_map] at this
            exact this
          cases bl
          · have hsu : x.p.lefts y.x k (j + 1) = x.p.lefts y.x k j := by rw [HSU.out]; simp
            have HS2 := Lib.hid hsu
            clear hsu
            go_wp2_with fail
            go_roundw
            case rel => exact ⟨j + 1, v, rows, by omega, by go_num, hGB8.out, hQ8.out, hM8.out, hrows.out.trans HS2.out.symm⟩
            case measure => simp [intOf]; omega
          · have hsu : x.p.lefts y.x k (j + 1) = x.p.lefts y.x k j ++ [m] := by rw [HSU.out]; simp
            have HS2 := Lib.hid hsu
            clear hsu
            have gne : v.ownBlock ≠ some g := fun e => by have h1 := (hMv.out.own.lt g e).1; have h2 := hQL0.out; omega
            have hvf : ∀ k, v.ownBlock = some k → vL.heap.size ≤ k := fun k e => (hMv.out.own.lt k e).1
            have hf9 : ∀ ad, A' = some ad → vL.heap.size ≤ ad.block ∧ some ad.block ≠ v.ownBlock ∧ ad.block < wc.heap.size := fun ad e => by
              have h1 := hf8.out ad e
              have h2 := hGB.out.size
              refine ⟨by omega, fun h => ?_, ?_⟩
              · have := (hMv.out.own.lt _ h.symm).2
                omega
              · exact hr8.out.lt (fun h => by have := HLP.out rfl; rw [h] at this; simp at this) ad e
            have GNE := Lib.hid gne
            have HVF := Lib.hid hvf
            have HF9 := Lib.hid hf9
            have HBS : Hid (vL.heap.size ≤ wc.heap.size) := hGB8.out.size
            clear gne hvf hf9
            obtain ⟨A3, c3, hve⟩ := own_form hMv.out.own
            have qf : wc.frozen? ⟨g, 17, none⟩ = false := hQ8.out.frozen 17
            obtain ⟨iL, hiL, hzL, hsL, hbL⟩ := info_parts Try.infoLoadR
            have n0 := hN8.out.cell 0
            have n1 := hN8.out.cell 1
            have n2 := hN8.out.cell 2
            have n3 := hN8.out.cell 3
            have q17 := hQ8.out.cell 17
            rw [hve] at q17
            simp at n0 n1 n2 n3 q17
            have HOW : Hid (wc.ownsRow vL.heap.size 52 4 (.slice A3 rows.length c3) rows.length (ldCells rows)) := by rw [← hve]; exact hM8.out.own
            have HVE := Lib.hid hve
            clear hve
            go_wp2_with (at_builtin; refine wpList_append_newGH _ wc wc.heap.size rfl rfl _ _ 29 rfl vL.heap.size 52 iL (.agg #[.string ⟨#[]⟩, .slice none 0 0, .int .i64 0, .int .i64 0]) 4 56 Try.underlying29 hiL hzL hsL hbL rfl (by decide) (by decide) _ rows.length (ldCells rows) rfl HOW.out #[.string m.name, .slice A' m.prof.length c', .int .i64 m.early, .int .i64 m.late] rfl (by simp [Value.oneCell']) rfl rfl (by omega) HBS.out ?_)
            intro v' w' hown hg' hv'
            rw [← HVE.out] at hg' hv'
            obtain ⟨A4, c4, rfl⟩ := own_form hown
            have hM9 := hM8.out.push (x := ⟨m, A', c'⟩) hr8.out HF9.out hown hg' hv'
            have hQ9 := hQ8.out.grown hg' (fun e => GNE.out e.symm)
            have hG9 := grown_then hGB8.out hg' HVF.out
            have r17 := hQ9.cell 17
            have rf := hQ9.frozen 17
            simp at r17
            have hS9 := hQ9.set_ 17 (.slice A4 (rows.length + 1) c4)
            simp at hS9
            have HS9 := Lib.hid hS9
            have HG9 := Lib.hid (only_setCell (p := ⟨g, 17, none⟩) hG9 (.inl rfl) (.slice A4 (rows.length + 1) c4))
            have HM9 := Lib.hid (hM9.set (p := ⟨g, 17, none⟩) hQL0.out (.slice A4 (rows.length + 1) c4))
            clear hQ9 hS9 hG9 hM9 hown hg' hv' q17 qf n0 n1 n2 n3
            go_wp2_with fail
            go_roundw
            case rel => exact ⟨j + 1, .slice A4 (rows.length + 1) c4, rows ++ [(⟨m, A', c'⟩ : LdM)], by omega, by go_num, HG9.out, HS9, HM9, (by show _ = _; rw [List.map_append, hrows.out, HS2.out]; rfl)⟩
            case measure => simp [intOf]; omega
      · have hjl : j = x.loads.length := by omega
        have i2 : ¬ (j : Int) < (x.loads.length : Int) := by omega
        have HREL : Hid (rows.map LdM.r = x.p.lefts y.x k x.p.loads.length) := by
          show _ = _
          rw [hrows.out, hjl]
          simp [PbM.p]
        have hV : vM.grownBy wo (some g) := HGL.out.trans hGB.out
        have HO_buy := Lib.hid (HM_buy.out.other hV (fun ad e h => by injection h with h; have := HF_buy.out ad e; omega))
        have HO_sell := Lib.hid (HM_sell.out.other hV (fun ad e h => by injection h with h; have := HF_sell.out ad e; omega))
        have HO_solar := Lib.hid (HM_solar.out.other hV (fun ad e h => by injection h with h; have := HF_solar.out ad e; omega))
        have HO_demand := Lib.hid (HM_demand.out.other hV (fun ad e h => by injection h with h; have := HF_demand.out ad e; omega))
        have HO_outside := Lib.hid (HM_outside.out.other hV (fun ad e h => by injection h with h; have := HF_outside.out ad e; omega))
        have HO_low := Lib.hid (HM_low.out.other hV (fun ad e h => by injection h with h; have := HF_low.out ad e; omega))
        have HO_high := Lib.hid (HM_high.out.other hV (fun ad e h => by injection h with h; have := HF_high.out ad e; omega))
        obtain ⟨A9, c9, rfl⟩ := own_form hMv.out.own
        have HCA : Hid (rows.length ≤ c9) := hMv.out.reads.2
        clear hV hrows
        obtain ⟨mm, hmm⟩ : ∃ mm : PbM, mm = ⟨⟨A0, e0, x.buy.l.drop k⟩, ⟨A1, e1, x.sell.l.drop k⟩, x.fuse, ⟨A2, e2, x.solar.l.drop k⟩, ⟨A3, e3, x.demand.l.drop k⟩, ⟨A4, e4, x.outside.l.drop k⟩, x.bat, x.gain, x.loss, x.steps, x.power, ⟨A5, e5, x.low.l.drop k⟩, ⟨A6, e6, x.high.l.drop k⟩, A9, c9, rows, x.p.lv y.x k, x.p.tm y.x k⟩ := ⟨_, rfl⟩
        go_upto_region 21 with fail
        have HBm : Hid (Blk wo g 31 mm.cs) := by show Blk _ _ _ _; rw [hmm]; simpa [PbM.cs] using hQv.out
        have HMP : Hid (x.p.rest y.x k = mm.p) := by
          show _ = _
          rw [hmm]
          show _ = Pb.mk _ _ _ _ _ _ (rows.map LdM.r) _ _
          rw [HREL.out]
          rfl
        have HCm : Hid (mm.loads.length ≤ mm.lc) := by show _ ≤ _; rw [hmm]; exact HCA.out
        have HMM := Lib.hid hmm
        clear hmm
        go_wp2_with (refine wpList_load_problem rfl _ rfl g rfl mm HBm.out ?_; refine wpList_store_blk rfl 31 _ _ rfl (w.heap.size + 3) rfl mm.cs rfl (by kernel_rfl) (PbM.cs_one _) HXo.out.t rfl ?_; intro w3 hB3 hg3; have HB3 := Lib.hid hB3; have HGT := Lib.hid hg3; clear hB3 hg3)
        have hb3 : Below w.heap.size w w3 := HXo.out.px.bel.grown HGT.out HXo.out.px.bel.size (fun k e => by injection e with e; omega)
        have hrm3 : RPb w3 mm := by
          rw [HMM.out]
          exact ⟨(HO_buy.out).other HGT.out (fun ad e h => by injection h with h; have := HF_buy.out ad e; have := HG3.out.1; omega), (HO_sell.out).other HGT.out (fun ad e h => by injection h with h; have := HF_sell.out ad e; have := HG3.out.1; omega), (HO_solar.out).other HGT.out (fun ad e h => by injection h with h; have := HF_solar.out ad e; have := HG3.out.1; omega), (HO_demand.out).other HGT.out (fun ad e h => by injection h with h; have := HF_demand.out ad e; have := HG3.out.1; omega), (HO_outside.out).other HGT.out (fun ad e h => by injection h with h; have := HF_outside.out ad e; have := HG3.out.1; omega), (HO_low.out).other HGT.out (fun ad e h => by injection h with h; have := HF_low.out ad e; have := HG3.out.1; omega), (HO_high.out).other HGT.out (fun ad e h => by injection h with h; have := HF_high.out ad e; have := HG3.out.1; omega), (hMv.out.only HGT.out (by have := HG3.out.1; have := hQL0.out; omega)).reads.1⟩
        rw [HMP.out]
        exact prest_ret (m := mm) HB3.out hrm3 HCm.out hb3 rfl rfl
end Go.Proofs.Ytdheockmphdakaa
