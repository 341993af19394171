/-
  The walks of layer 42 (plan), part 20: Rest of the reference.
-/
import Derived.Test.YtdheockmphdakaaQP28
import Derived.Test.YtdheockmphdakaaQPP7
namespace Go.Proofs.Ytdheockmphdakaa
open Go.RowKit
attribute [local go_sem ↓] Go.wp_at_zero Go.wp_at_succ

theorem grown_then {a w w' : World} {g : Nat} {r : Option Nat} (h : a.grownBy w (some g)) (h2 : w.grownBy w' r) (hr : ∀ k, r = some k → a.heap.size ≤ k) : a.grownBy w' (some g) :=
  ⟨h2.os.trans h.os, h2.tape.trans h.tape, h2.output.trans h.output, Nat.le_trans h.size h2.size, fun k hk hne => by
    rw [h2.block k (Nat.lt_of_lt_of_le hk h.size) (fun e => by have := hr k e.symm; omega)]
    exact h.block k hk hne⟩
theorem grown_refl (w : World) (r : Option Nat) : w.grownBy w r := ⟨rfl, rfl, rfl, Nat.le_refl _, fun _ _ _ => rfl⟩
/-- A trace read, apart from the block g. -/
structure RTrF (W : World) (m : TrM) (g : Nat) : Prop where
  r : RTr W m
  f : ∀ ad, (m.net.A = some ad ∨ m.level.A = some ad ∨ m.temp.A = some ad) → ad.block ≠ g
theorem RTrF.below {W W' : World} {m : TrM} {g : Nat} (h : RTrF W m g) (hb : Below W.heap.size W W') : RTrF W' m g := ⟨h.r.below hb, h.f⟩
theorem RTrF.set {W : World} {m : TrM} {g : Nat} (h : RTrF W m g) (j : Nat) (v : Value) : RTrF (W.setCell ⟨g, j, none⟩ v) m g :=
  ⟨⟨h.r.net.setFar (fun ad e => h.f ad (.inl e)) v, h.r.level.setFar (fun ad e => h.f ad (.inr (.inl e))) v, h.r.temp.setFar (fun ad e => h.f ad (.inr (.inr e))) v, h.r.nc, h.r.lc, h.r.tc⟩, h.f⟩
theorem MadeL.only {w w' : World} {base q : Nat} {v : Value} {rows : List LdM} (h : MadeL w base v rows) (hg : w.grownBy w' (some q)) (hq : q < base) : MadeL w' base v rows :=
  ⟨h.own.kept hg (.inr fun e => by have := (h.own.lt q e).1; omega), fun x hx => ⟨(h.rows x hx).1.other hg (fun ad e hh => by injection hh with hh; have := ((h.rows x hx).2 ad e).1; omega), fun ad e => ⟨((h.rows x hx).2 ad e).1, ((h.rows x hx).2 ad e).2.1, Nat.lt_of_lt_of_le ((h.rows x hx).2 ad e).2.2 hg.size⟩⟩⟩
theorem MadeL.reads {w : World} {base n c : Nat} {A : Option Addr} {rows : List LdM} (h : MadeL w base (.slice A n c) rows) : RLoads w A rows ∧ rows.length ≤ c := by
  obtain ⟨A', c', e, h1, h2⟩ := h.rloads
  injection e with e1 e2 e3
  subst e1; subst e3
  exact ⟨h1, h2⟩
set_option maxRecDepth 100000 in
set_option maxHeartbeats 64000000 in
theorem rrest_ok (x : PbM) (y : PnM) (k : Nat) (w : World) (hP0 : RPb w x) (hQ0 : RPn w y) (hF : x.Fit) (hG : y.Fit) (hC : x.Cap) (he : x.p.err y.x = 0) (hk : k < x.buy.l.length) :
    Calls Try.prog 28 #[x.v, y.v, .int .i64 k] w (RestOut (x.p.rest y.x k) 0 w) := by
  obtain ⟨hck, hfo, -⟩ := Pb.err_zero he
  have hgood := Pb.good hck
  have hn96 : x.buy.l.length ≤ 96 := (Pb.nbd hgood).2
  obtain ⟨e1, e2, e3⟩ := hgood.lens
  obtain ⟨-, r1, r2, -⟩ := Pb.room_ok hgood
  have t1 : x.sell.l.length = x.buy.l.length := (Tf.good hgood.t).len
  obtain ⟨hsz0, hfits, -⟩ := Pb.form_good hfo
  obtain ⟨-, -, hstl⟩ := Pb.sized_yes hsz0
  have hel : x.p.loads.length = x.loads.length := by simp [PbM.p]
  have HSTL : Hid (y.start.l.length = x.loads.length) := hstl.trans hel
  have HSB : Hid (∀ j (hj : j < x.loads.length) (hj2 : j < y.start.l.length), 0 ≤ y.start.l[j] ∧ y.start.l[j] ≤ 1000 ∧ x.loads[j].r.prof.length ≤ 1000000 ∧ 0 < x.loads[j].r.prof.length) := by
    intro j hj hj2
    unfold Pb.fitsTo at hfits
    rw [List.all_eq_true] at hfits
    have hf := hfits j (List.mem_range.2 (by rw [hel]; exact hj))
    rw [show x.p.loads.getD j Ld.zero = x.loads[j].r by simp [PbM.p, List.getD, hj], show y.x.start.getD j 0 = y.start.l[j] by simp [PnM.x, List.getD, hj2]] at hf
    simp only [Ld.fit, Bool.and_eq_true, decide_eq_true_iff] at hf
    have g := Ld.good hf.1
    have g1 := g.e0; have g2 := g.l1; have g3 := g.n1; have g4 := g.p1; have g5 := g.p0
    refine ⟨by omega, by omega, by omega, by omega⟩
  have hld4 : x.loads.length ≤ 4 := by have := Pb.loads4 hgood; omega
  have HN := Lib.hid hF.names
  have HPR := Lib.hid hF.profs
  have HCP := Lib.hid hC.profs
  clear hsz0 hfits hstl hel
  have e1 : x.solar.l.length = x.buy.l.length := e1
  have e2 : x.demand.l.length = x.buy.l.length := e2
  have e3 : x.outside.l.length = x.buy.l.length := e3
  have r1 : x.low.l.length = x.buy.l.length := r1
  have r2 : x.high.l.length = x.buy.l.length := r2
  have hT_buy := Lib.hid (fun W (h : RInts W x.buy.A x.buy.l) => tail_any x.buy.A x.buy.c x.buy.l k W h (by omega) hC.buy (by omega))
  have hT_sell := Lib.hid (fun W (h : RInts W x.sell.A x.sell.l) => tail_any x.sell.A x.sell.c x.sell.l k W h (by omega) hC.sell (by omega))
  have hT_solar := Lib.hid (fun W (h : RInts W x.solar.A x.solar.l) => tail_any x.solar.A x.solar.c x.solar.l k W h (by omega) hC.solar (by omega))
  have hT_demand := Lib.hid (fun W (h : RInts W x.demand.A x.demand.l) => tail_any x.demand.A x.demand.c x.demand.l k W h (by omega) hC.demand (by omega))
  have hT_outside := Lib.hid (fun W (h : RInts W x.outside.A x.outside.l) => tail_any x.outside.A x.outside.c x.outside.l k W h (by omega) hC.outside (by omega))
  have hT_low := Lib.hid (fun W (h : RInts W x.low.A x.low.l) => tail_any x.low.A x.low.c x.low.l k W h (by omega) hC.low (by omega))
  have hT_high := Lib.hid (fun W (h : RInts W x.high.A x.high.l) => tail_any x.high.A x.high.c x.high.l k W h (by omega) hC.high (by omega))
  have hP := Lib.hid hP0
  have hQ := Lib.hid hQ0
  have hr := Lib.hid (fun W (h : RPb W x) (h2 : RPn W y) => rrun_any x y W h h2 hF hG)
  have hst0 := RQ.start x y w #[.slice none 0 0, .slice none 0 0, .int .i64 0, .slice none 0 0, .slice none 0 0, .slice none 0 0, .int .i64 0, .int .i64 0, .int .i64 0, .int .i64 0, .int .i64 0, .int .i64 0, .int .i64 0, .int .i64 0, .int .i64 0, .slice none 0 0, .slice none 0 0, .slice none 0 0, .int .i64 0, .int .i64 0]
  simp only [PbM.v, PnM.v]
  clear hP0 hQ0 hG
  obtain ⟨W, hW⟩ : ∃ W, W = ((w.alloc (.cells #[.slice x.buy.A x.buy.l.length x.buy.c, .slice x.sell.A x.sell.l.length x.sell.c, .int .i64 x.fuse, .slice x.solar.A x.solar.l.length x.solar.c, .slice x.demand.A x.demand.l.length x.demand.c, .slice x.outside.A x.outside.l.length x.outside.c, .int .i64 x.bat.cap, .int .i64 x.bat.reserve, .int .i64 x.bat.charge, .int .i64 x.bat.discharge, .int .i64 x.bat.eff, .int .i64 x.gain, .int .i64 x.loss, .int .i64 x.steps, .int .i64 x.power, .slice x.low.A x.low.l.length x.low.c, .slice x.high.A x.high.l.length x.high.c, .slice x.LA x.loads.length x.lc, .int .i64 x.level, .int .i64 x.temp] 31)).alloc (.cells #[.slice y.charge.A y.charge.l.length y.charge.c, .slice y.heat.A y.heat.l.length y.heat.c, .slice y.start.A y.start.l.length y.start.c] 37)).alloc (.cells #[.slice none 0 0, .slice none 0 0, .int .i64 0, .slice none 0 0, .slice none 0 0, .slice none 0 0, .int .i64 0, .int .i64 0, .int .i64 0, .int .i64 0, .int .i64 0, .int .i64 0, .int .i64 0, .int .i64 0, .int .i64 0, .slice none 0 0, .slice none 0 0, .slice none 0 0, .int .i64 0, .int .i64 0] 31) := ⟨_, rfl⟩
  rw [show ((w.alloc (.cells x.cs 31)).alloc (.cells y.cs 37)).alloc (.cells #[.slice none 0 0, .slice none 0 0, .int .i64 0, .slice none 0 0, .slice none 0 0, .slice none 0 0, .int .i64 0, .int .i64 0, .int .i64 0, .int .i64 0, .int .i64 0, .int .i64 0, .int .i64 0, .int .i64 0, .int .i64 0, .slice none 0 0, .slice none 0 0, .slice none 0 0, .int .i64 0, .int .i64 0] 31) = W from hW.symm] at hst0
  have hst := Lib.hid hst0
  have hWH := Lib.hid hW
  clear hst0 hW
  rw [he] at hr
  have htl := Lib.hid (Pb.trace_ok he)
  have k0 : ¬ (k : Int) < 0 := by omega
  have k1 : ¬ (x.buy.l.length : Int) ≤ (k : Int) := by omega
  clear e1 e2 e3 r1 r2 t1 hgood hck hfo he
  go_enter Try.func28, Try.ntmps28
  go_upto_region 1 with fail
  rw [← hWH.out]
  clear hWH
  go_wp2_with (first | refine wpList_load_problem rfl _ rfl w.heap.size rfl x (hst.out).px.p ?_ | refine wpList_load_plan rfl _ rfl (w.heap.size + 1) rfl y (hst.out).px.q ?_)
  refine (hr.out _ (hst.out.px.pr hP.out) (hst.out.px.qr hQ.out)).mono ?_
  rintro e w1 ⟨tm, htx, rfl, hrt, hb1⟩
  simp only [TrM.v]
  have HX1 := Lib.hid (hst.out.below hb1)
  have HTX := Lib.hid htx
  clear htx
  go_upto_region 4 with fail
  obtain ⟨t8, ht8⟩ : ∃ t8, t8 = w1.heap.size := ⟨_, rfl⟩
  obtain ⟨v1, hv1⟩ : ∃ v1, v1 = w1.alloc (.cells #[.slice tm.net.A tm.net.l.length tm.net.c, .slice tm.level.A tm.level.l.length tm.level.c, .slice tm.temp.A tm.temp.l.length tm.temp.c, .int .i64 tm.cost] 40) := ⟨_, rfl⟩
  have HX2 : Hid (RQ x y w v1 #[.slice none 0 0, .slice none 0 0, .int .i64 0, .slice none 0 0, .slice none 0 0, .slice none 0 0, .int .i64 0, .int .i64 0, .int .i64 0, .int .i64 0, .int .i64 0, .int .i64 0, .int .i64 0, .int .i64 0, .int .i64 0, .slice none 0 0, .slice none 0 0, .slice none 0 0, .int .i64 0, .int .i64 0]) := by show RQ _ _ _ _ _; rw [hv1]; exact HX1.out.below (below_al (Below.refl _ _))
  have HT2 : Hid (Blk v1 t8 40 #[.slice tm.net.A tm.net.l.length tm.net.c, .slice tm.level.A tm.level.l.length tm.level.c, .slice tm.temp.A tm.temp.l.length tm.temp.c, .int .i64 tm.cost]) := by show Blk _ _ _ _; rw [hv1, ht8]; exact Blk.new _ _ _
  have HR2 : Hid (RTr v1 tm) := by show RTr _ _; rw [hv1]; exact hrt.below (below_al (Below.refl _ _))
  rw [← hv1, ← ht8]
  have c0 := HX2.out.px.pc.1
  clear hv1 ht8 HX1 hb1 hrt hst
  go_upto_region 6 with fail
  clear c0
  go_wp2_with (refine wpList_load_problem rfl _ rfl w.heap.size rfl x HX2.out.px.p ?_; refine wpList_plain rfl (fun K hK => ?_); have HK := Lib.hid hK; clear hK)
  refine HK.out _ _ ?_
  clear HK
  refine wpList_store_blk rfl 31 _ _ rfl v1.heap.size rfl x.cs rfl (by kernel_rfl) (PbM.cs_one _) (Blk.new v1 _ _) rfl ?_
  intro w2 hB2 hg2
  have hb2 : Below v1.heap.size v1 w2 := ((Below.refl v1.heap.size v1).alloc (Nat.le_refl _) (.cells #[.slice none 0 0, .slice none 0 0, .int .i64 0, .slice none 0 0, .slice none 0 0, .slice none 0 0, .int .i64 0, .int .i64 0, .int .i64 0, .int .i64 0, .int .i64 0, .int .i64 0, .int .i64 0, .int .i64 0, .int .i64 0, .slice none 0 0, .slice none 0 0, .slice none 0 0, .int .i64 0, .int .i64 0] 31)).grown hg2 (by simp) (fun k e => by injection e with e; omega)
  obtain ⟨g, hg⟩ : ∃ g, g = v1.heap.size := ⟨_, rfl⟩
  have HG3 : Hid (w.heap.size + 3 ≤ g ∧ t8 < g) := by show _ ∧ _; rw [hg]; exact ⟨HX2.out.lt, HT2.out.lt⟩
  have HX3 := Lib.hid (HX2.out.below hb2)
  have HT3 := Lib.hid (HT2.out.below hb2 HT2.out.lt)
  have hlt3 : ∀ (A : Option Addr) (l : List Int), RInts v1 A l → l.length = x.buy.l.length → ∀ ad, A = some ad → ad.block ≠ g := fun A l hr hll ad e => by
    have := hr.lt (by intro e2; rw [e2] at hll; simp at hll; omega) ad e
    omega
  have HR3 : Hid (RTrF w2 tm g) := ⟨HR2.out.below hb2, fun ad e => by
    have l1 : tm.net.l.length = x.buy.l.length := by rw [show tm.net.l = _ from congrArg Tr.net (HTX.out.trans htl.out)]; simp only [Pb.nets_len]; rfl
    have l2 : tm.level.l.length = x.buy.l.length := by rw [show tm.level.l = _ from congrArg Tr.level (HTX.out.trans htl.out)]; simp only [Pb.levels_len]; rfl
    have l3 : tm.temp.l.length = x.buy.l.length := by rw [show tm.temp.l = _ from congrArg Tr.temp (HTX.out.trans htl.out)]; simp only [Pb.temps_len]; rfl
    rcases e with e | e | e
    · exact hlt3 _ _ HR2.out.net l1 ad e
    · exact hlt3 _ _ HR2.out.level l2 ad e
    · exact hlt3 _ _ HR2.out.temp l3 ad e⟩
  clear hlt3
  rw [← hg] at hB2 ⊢
  have HQ3 : Hid (Blk w2 g 31 #[.slice x.buy.A x.buy.l.length x.buy.c, .slice x.sell.A x.sell.l.length x.sell.c, .int .i64 x.fuse, .slice x.solar.A x.solar.l.length x.solar.c, .slice x.demand.A x.demand.l.length x.demand.c, .slice x.outside.A x.outside.l.length x.outside.c, .int .i64 x.bat.cap, .int .i64 x.bat.reserve, .int .i64 x.bat.charge, .int .i64 x.bat.discharge, .int .i64 x.bat.eff, .int .i64 x.gain, .int .i64 x.loss, .int .i64 x.steps, .int .i64 x.power, .slice x.low.A x.low.l.length x.low.c, .slice x.high.A x.high.l.length x.high.c, .slice x.LA x.loads.length x.lc, .int .i64 x.level, .int .i64 x.temp]) := hB2
  clear hB2 hg2 hb2 hg HX2 HT2 HR2
  obtain ⟨c0, c1, -, c3, c4, c5, -, -, -, -, -, -, -, -, -, c15, c16, -, -, -⟩ := HX3.out.px.pc
  go_wp2_with fail
  refine (hT_buy.out _ (HX3.out.px.pr hP.out).buy).mono ?_
  rintro e u0 ⟨A0, e0, rfl, hri, hfi, hb⟩
  clear c0 c1 c3 c4 c5 c15 c16
  have HQm := Lib.hid (HQ3.out.below hb HQ3.out.lt)
  have qj := HQm.out.cell 0
  have qf := HQm.out.frozen 0
  simp at qj
  obtain ⟨v0x, hv⟩ : ∃ v, v = u0.setCell ⟨g, 0, none⟩ (.slice A0 (x.buy.l.length - k) e0) := ⟨_, rfl⟩
  have HGg := Lib.hid (HQ3.out.lt)
  have HX4 : Hid (RQ x y w v0x #[.slice none 0 0, .slice none 0 0, .int .i64 0, .slice none 0 0, .slice none 0 0, .slice none 0 0, .int .i64 0, .int .i64 0, .int .i64 0, .int .i64 0, .int .i64 0, .int .i64 0, .int .i64 0, .int .i64 0, .int .i64 0, .slice none 0 0, .slice none 0 0, .slice none 0 0, .int .i64 0, .int .i64 0]) := by show RQ _ _ _ _ _; rw [hv]; exact (HX3.out.below hb).above ((Below.refl (w.heap.size + 3) u0).setCell HG3.out.1 _) (Nat.le_refl _)
  have HT4 : Hid (Blk v0x t8 40 #[.slice tm.net.A tm.net.l.length tm.net.c, .slice tm.level.A tm.level.l.length tm.level.c, .slice tm.temp.A tm.temp.l.length tm.temp.c, .int .i64 tm.cost]) := by show Blk _ _ _ _; rw [hv]; exact (HT3.out.below hb HT3.out.lt).far (p := ⟨g, 0, none⟩) (Nat.ne_of_lt HG3.out.2) _
  have HQ4 : Hid (Blk v0x g 31 #[.slice A0 (x.buy.l.length - k) e0, .slice x.sell.A x.sell.l.length x.sell.c, .int .i64 x.fuse, .slice x.solar.A x.solar.l.length x.solar.c, .slice x.demand.A x.demand.l.length x.demand.c, .slice x.outside.A x.outside.l.length x.outside.c, .int .i64 x.bat.cap, .int .i64 x.bat.reserve, .int .i64 x.bat.charge, .int .i64 x.bat.discharge, .int .i64 x.bat.eff, .int .i64 x.gain, .int .i64 x.loss, .int .i64 x.steps, .int .i64 x.power, .slice x.low.A x.low.l.length x.low.c, .slice x.high.A x.high.l.length x.high.c, .slice x.LA x.loads.length x.lc, .int .i64 x.level, .int .i64 x.temp]) := by show Blk _ _ _ _; rw [hv]; have := HQm.out.set_ 0 (.slice A0 (x.buy.l.length - k) e0); simpa using this
  have HF_buy : Hid (∀ ad, A0 = some ad → g < ad.block) := fun ad e => Nat.lt_of_lt_of_le HGg.out (hfi ad e)
  have HR4 : Hid (RTrF v0x tm g) := by show RTrF _ _ _; rw [hv]; exact (HR3.out.below hb).set _ _
  have HR_buy_4 := Lib.hid (hri.setFar (p := ⟨g, 0, none⟩) (fun ad e => Nat.ne_of_gt (HF_buy.out ad e)) (.slice A0 (x.buy.l.length - k) e0))
  rw [← hv] at HR_buy_4
  go_upto_region 8 with fail
  rw [← hv]
  clear hv qj qf hri hfi hb HQm HX3 HT3 HQ3 HR3 HGg 
  obtain ⟨c0, c1, -, c3, c4, c5, -, -, -, -, -, -, -, -, -, c15, c16, -, -, -⟩ := HX4.out.px.pc
  go_wp2_with fail
  refine (hT_sell.out _ (HX4.out.px.pr hP.out).sell).mono ?_
  rintro e u1 ⟨A1, e1, rfl, hri, hfi, hb⟩
  clear c0 c1 c3 c4 c5 c15 c16
  have HQm := Lib.hid (HQ4.out.below hb HQ4.out.lt)
  have qj := HQm.out.cell 1
  have qf := HQm.out.frozen 1
  simp at qj
  obtain ⟨v1x, hv⟩ : ∃ v, v = u1.setCell ⟨g, 1, none⟩ (.slice A1 (x.sell.l.length - k) e1) := ⟨_, rfl⟩
  have HGg := Lib.hid (HQ4.out.lt)
  have HX5 : Hid (RQ x y w v1x #[.slice none 0 0, .slice none 0 0, .int .i64 0, .slice none 0 0, .slice none 0 0, .slice none 0 0, .int .i64 0, .int .i64 0, .int .i64 0, .int .i64 0, .int .i64 0, .int .i64 0, .int .i64 0, .int .i64 0, .int .i64 0, .slice none 0 0, .slice none 0 0, .slice none 0 0, .int .i64 0, .int .i64 0]) := by show RQ _ _ _ _ _; rw [hv]; exact (HX4.out.below hb).above ((Below.refl (w.heap.size + 3) u1).setCell HG3.out.1 _) (Nat.le_refl _)
  have HT5 : Hid (Blk v1x t8 40 #[.slice tm.net.A tm.net.l.length tm.net.c, .slice tm.level.A tm.level.l.length tm.level.c, .slice tm.temp.A tm.temp.l.length tm.temp.c, .int .i64 tm.cost]) := by show Blk _ _ _ _; rw [hv]; exact (HT4.out.below hb HT4.out.lt).far (p := ⟨g, 1, none⟩) (Nat.ne_of_lt HG3.out.2) _
  have HQ5 : Hid (Blk v1x g 31 #[.slice A0 (x.buy.l.length - k) e0, .slice A1 (x.sell.l.length - k) e1, .int .i64 x.fuse, .slice x.solar.A x.solar.l.length x.solar.c, .slice x.demand.A x.demand.l.length x.demand.c, .slice x.outside.A x.outside.l.length x.outside.c, .int .i64 x.bat.cap, .int .i64 x.bat.reserve, .int .i64 x.bat.charge, .int .i64 x.bat.discharge, .int .i64 x.bat.eff, .int .i64 x.gain, .int .i64 x.loss, .int .i64 x.steps, .int .i64 x.power, .slice x.low.A x.low.l.length x.low.c, .slice x.high.A x.high.l.length x.high.c, .slice x.LA x.loads.length x.lc, .int .i64 x.level, .int .i64 x.temp]) := by show Blk _ _ _ _; rw [hv]; have := HQm.out.set_ 1 (.slice A1 (x.sell.l.length - k) e1); simpa using this
  have HF_sell : Hid (∀ ad, A1 = some ad → g < ad.block) := fun ad e => Nat.lt_of_lt_of_le HGg.out (hfi ad e)
  have HR5 : Hid (RTrF v1x tm g) := by show RTrF _ _ _; rw [hv]; exact (HR4.out.below hb).set _ _
  have HR_buy_5 := Lib.hid ((HR_buy_4.out.below hb).setFar (p := ⟨g, 1, none⟩) (fun ad e => Nat.ne_of_gt (HF_buy.out ad e)) (.slice A1 (x.sell.l.length - k) e1))
  have HR_sell_5 := Lib.hid (hri.setFar (p := ⟨g, 1, none⟩) (fun ad e => Nat.ne_of_gt (HF_sell.out ad e)) (.slice A1 (x.sell.l.length - k) e1))
  rw [← hv] at HR_buy_5 HR_sell_5
  go_upto_region 9 with fail
  rw [← hv]
  clear hv qj qf hri hfi hb HQm HX4 HT4 HQ4 HR4 HGg HR_buy_4
  obtain ⟨c0, c1, -, c3, c4, c5, -, -, -, -, -, -, -, -, -, c15, c16, -, -, -⟩ := HX5.out.px.pc
  go_wp2_with fail
  refine (hT_solar.out _ (HX5.out.px.pr hP.out).solar).mono ?_
  rintro e u2 ⟨A2, e2, rfl, hri, hfi, hb⟩
  clear c0 c1 c3 c4 c5 c15 c16
  have HQm := Lib.hid (HQ5.out.below hb HQ5.out.lt)
  have qj := HQm.out.cell 3
  have qf := HQm.out.frozen 3
  simp at qj
  obtain ⟨v2x, hv⟩ : ∃ v, v = u2.setCell ⟨g, 3, none⟩ (.slice A2 (x.solar.l.length - k) e2) := ⟨_, rfl⟩
  have HGg := Lib.hid (HQ5.out.lt)
  have HX6 : Hid (RQ x y w v2x #[.slice none 0 0, .slice none 0 0, .int .i64 0, .slice none 0 0, .slice none 0 0, .slice none 0 0, .int .i64 0, .int .i64 0, .int .i64 0, .int .i64 0, .int .i64 0, .int .i64 0, .int .i64 0, .int .i64 0, .int .i64 0, .slice none 0 0, .slice none 0 0, .slice none 0 0, .int .i64 0, .int .i64 0]) := by show RQ _ _ _ _ _; rw [hv]; exact (HX5.out.below hb).above ((Below.refl (w.heap.size + 3) u2).setCell HG3.out.1 _) (Nat.le_refl _)
  have HT6 : Hid (Blk v2x t8 40 #[.slice tm.net.A tm.net.l.length tm.net.c, .slice tm.level.A tm.level.l.length tm.level.c, .slice tm.temp.A tm.temp.l.length tm.temp.c, .int .i64 tm.cost]) := by show Blk _ _ _ _; rw [hv]; exact (HT5.out.below hb HT5.out.lt).far (p := ⟨g, 3, none⟩) (Nat.ne_of_lt HG3.out.2) _
  have HQ6 : Hid (Blk v2x g 31 #[.slice A0 (x.buy.l.length - k) e0, .slice A1 (x.sell.l.length - k) e1, .int .i64 x.fuse, .slice A2 (x.solar.l.length - k) e2, .slice x.demand.A x.demand.l.length x.demand.c, .slice x.outside.A x.outside.l.length x.outside.c, .int .i64 x.bat.cap, .int .i64 x.bat.reserve, .int .i64 x.bat.charge, .int .i64 x.bat.discharge, .int .i64 x.bat.eff, .int .i64 x.gain, .int .i64 x.loss, .int .i64 x.steps, .int .i64 x.power, .slice x.low.A x.low.l.length x.low.c, .slice x.high.A x.high.l.length x.high.c, .slice x.LA x.loads.length x.lc, .int .i64 x.level, .int .i64 x.temp]) := by show Blk _ _ _ _; rw [hv]; have := HQm.out.set_ 3 (.slice A2 (x.solar.l.length - k) e2); simpa using this
  have HF_solar : Hid (∀ ad, A2 = some ad → g < ad.block) := fun ad e => Nat.lt_of_lt_of_le HGg.out (hfi ad e)
  have HR6 : Hid (RTrF v2x tm g) := by show RTrF _ _ _; rw [hv]; exact (HR5.out.below hb).set _ _
  have HR_buy_6 := Lib.hid ((HR_buy_5.out.below hb).setFar (p := ⟨g, 3, none⟩) (fun ad e => Nat.ne_of_gt (HF_buy.out ad e)) (.slice A2 (x.solar.l.length - k) e2))
  have HR_sell_6 := Lib.hid ((HR_sell_5.out.below hb).setFar (p := ⟨g, 3, none⟩) (fun ad e => Nat.ne_of_gt (HF_sell.out ad e)) (.slice A2 (x.solar.l.length - k) e2))
  have HR_solar_6 := Lib.hid (hri.setFar (p := ⟨g, 3, none⟩) (fun ad e => Nat.ne_of_gt (HF_solar.out ad e)) (.slice A2 (x.solar.l.length - k) e2))
  rw [← hv] at HR_buy_6 HR_sell_6 HR_solar_6
  go_upto_region 10 with fail
  rw [← hv]
  clear hv qj qf hri hfi hb HQm HX5 HT5 HQ5 HR5 HGg HR_buy_5 HR_sell_5
  obtain ⟨c0, c1, -, c3, c4, c5, -, -, -, -, -, -, -, -, -, c15, c16, -, -, -⟩ := HX6.out.px.pc
  go_wp2_with fail
  refine (hT_demand.out _ (HX6.out.px.pr hP.out).demand).mono ?_
  rintro e u3 ⟨A3, e3, rfl, hri, hfi, hb⟩
  clear c0 c1 c3 c4 c5 c15 c16
  have HQm := Lib.hid (HQ6.out.below hb HQ6.out.lt)
  have qj := HQm.out.cell 4
  have qf := HQm.out.frozen 4
  simp at qj
  obtain ⟨v3x, hv⟩ : ∃ v, v = u3.setCell ⟨g, 4, none⟩ (.slice A3 (x.demand.l.length - k) e3) := ⟨_, rfl⟩
  have HGg := Lib.hid (HQ6.out.lt)
  have HX7 : Hid (RQ x y w v3x #[.slice none 0 0, .slice none 0 0, .int .i64 0, .slice none 0 0, .slice none 0 0, .slice none 0 0, .int .i64 0, .int .i64 0, .int .i64 0, .int .i64 0, .int .i64 0, .int .i64 0, .int .i64 0, .int .i64 0, .int .i64 0, .slice none 0 0, .slice none 0 0, .slice none 0 0, .int .i64 0, .int .i64 0]) := by show RQ _ _ _ _ _; rw [hv]; exact (HX6.out.below hb).above ((Below.refl (w.heap.size + 3) u3).setCell HG3.out.1 _) (Nat.le_refl _)
  have HT7 : Hid (Blk v3x t8 40 #[.slice tm.net.A tm.net.l.length tm.net.c, .slice tm.level.A tm.level.l.length tm.level.c, .slice tm.temp.A tm.temp.l.length tm.temp.c, .int .i64 tm.cost]) := by show Blk _ _ _ _; rw [hv]; exact (HT6.out.below hb HT6.out.lt).far (p := ⟨g, 4, none⟩) (Nat.ne_of_lt HG3.out.2) _
  have HQ7 : Hid (Blk v3x g 31 #[.slice A0 (x.buy.l.length - k) e0, .slice A1 (x.sell.l.length - k) e1, .int .i64 x.fuse, .slice A2 (x.solar.l.length - k) e2, .slice A3 (x.demand.l.length - k) e3, .slice x.outside.A x.outside.l.length x.outside.c, .int .i64 x.bat.cap, .int .i64 x.bat.reserve, .int .i64 x.bat.charge, .int .i64 x.bat.discharge, .int .i64 x.bat.eff, .int .i64 x.gain, .int .i64 x.loss, .int .i64 x.steps, .int .i64 x.power, .slice x.low.A x.low.l.length x.low.c, .slice x.high.A x.high.l.length x.high.c, .slice x.LA x.loads.length x.lc, .int .i64 x.level, .int .i64 x.temp]) := by show Blk _ _ _ _; rw [hv]; have := HQm.out.set_ 4 (.slice A3 (x.demand.l.length - k) e3); simpa using this
  have HF_demand : Hid (∀ ad, A3 = some ad → g < ad.block) := fun ad e => Nat.lt_of_lt_of_le HGg.out (hfi ad e)
  have HR7 : Hid (RTrF v3x tm g) := by show RTrF _ _ _; rw [hv]; exact (HR6.out.below hb).set _ _
  have HR_buy_7 := Lib.hid ((HR_buy_6.out.below hb).setFar (p := ⟨g, 4, none⟩) (fun ad e => Nat.ne_of_gt (HF_buy.out ad e)) (.slice A3 (x.demand.l.length - k) e3))
  have HR_sell_7 := Lib.hid ((HR_sell_6.out.below hb).setFar (p := ⟨g, 4, none⟩) (fun ad e => Nat.ne_of_gt (HF_sell.out ad e)) (.slice A3 (x.demand.l.length - k) e3))
  have HR_solar_7 := Lib.hid ((HR_solar_6.out.below hb).setFar (p := ⟨g, 4, none⟩) (fun ad e => Nat.ne_of_gt (HF_solar.out ad e)) (.slice A3 (x.demand.l.length - k) e3))
  have HR_demand_7 := Lib.hid (hri.setFar (p := ⟨g, 4, none⟩) (fun ad e => Nat.ne_of_gt (HF_demand.out ad e)) (.slice A3 (x.demand.l.length - k) e3))
  rw [← hv] at HR_buy_7 HR_sell_7 HR_solar_7 HR_demand_7
  go_upto_region 11 with fail
  rw [← hv]
  clear hv qj qf hri hfi hb HQm HX6 HT6 HQ6 HR6 HGg HR_buy_6 HR_sell_6 HR_solar_6
  obtain ⟨c0, c1, -, c3, c4, c5, -, -, -, -, -, -, -, -, -, c15, c16, -, -, -⟩ := HX7.out.px.pc
  go_wp2_with fail
  refine (hT_outside.out _ (HX7.out.px.pr hP.out).outside).mono ?_
  rintro e u4 ⟨A4, e4, rfl, hri, hfi, hb⟩
  clear c0 c1 c3 c4 c5 c15 c16
  have HQm := Lib.hid (HQ7.out.below hb HQ7.out.lt)
  have qj := HQm.out.cell 5
  have qf := HQm.out.frozen 5
  simp at qj
  obtain ⟨v4x, hv⟩ : ∃ v, v = u4.setCell ⟨g, 5, none⟩ (.slice A4 (x.outside.l.length - k) e4) := ⟨_, rfl⟩
  have HGg := Lib.hid (HQ7.out.lt)
  have HX8 : Hid (RQ x y w v4x #[.slice none 0 0, .slice none 0 0, .int .i64 0, .slice none 0 0, .slice none 0 0, .slice none 0 0, .int .i64 0, .int .i64 0, .int .i64 0, .int .i64 0, .int .i64 0, .int .i64 0, .int .i64 0, .int .i64 0, .int .i64 0, .slice none 0 0, .slice none 0 0, .slice none 0 0, .int .i64 0, .int .i64 0]) := by show RQ _ _ _ _ _; rw [hv]; exact (HX7.out.below hb).above ((Below.refl (w.heap.size + 3) u4).setCell HG3.out.1 _) (Nat.le_refl _)
  have HT8 : Hid (Blk v4x t8 40 #[.slice tm.net.A tm.net.l.length tm.net.c, .slice tm.level.A tm.level.l.length tm.level.c, .slice tm.temp.A tm.temp.l.length tm.temp.c, .int .i64 tm.cost]) := by show Blk _ _ _ _; rw [hv]; exact (HT7.out.below hb HT7.out.lt).far (p := ⟨g, 5, none⟩) (Nat.ne_of_lt HG3.out.2) _
  have HQ8 : Hid (Blk v4x g 31 #[.slice A0 (x.buy.l.length - k) e0, .slice A1 (x.sell.l.length - k) e1, .int .i64 x.fuse, .slice A2 (x.solar.l.length - k) e2, .slice A3 (x.demand.l.length - k) e3, .slice A4 (x.outside.l.length - k) e4, .int .i64 x.bat.cap, .int .i64 x.bat.reserve, .int .i64 x.bat.charge, .int .i64 x.bat.discharge, .int .i64 x.bat.eff, .int .i64 x.gain, .int .i64 x.loss, .int .i64 x.steps, .int .i64 x.power, .slice x.low.A x.low.l.length x.low.c, .slice x.high.A x.high.l.length x.high.c, .slice x.LA x.loads.length x.lc, .int .i64 x.level, .int .i64 x.temp]) := by show Blk _ _ _ _; rw [hv]; have := HQm.out.set_ 5 (.slice A4 (x.outside.l.length - k) e4); simpa using this
  have HF_outside : Hid (∀ ad, A4 = some ad → g < ad.block) := fun ad e => Nat.lt_of_lt_of_le HGg.out (hfi ad e)
  have HR8 : Hid (RTrF v4x tm g) := by show RTrF _ _ _; rw [hv]; exact (HR7.out.below hb).set _ _
  have HR_buy_8 := Lib.hid ((HR_buy_7.out.below hb).setFar (p := ⟨g, 5, none⟩) (fun ad e => Nat.ne_of_gt (HF_buy.out ad e)) (.slice A4 (x.outside.l.length - k) e4))
  have HR_sell_8 := Lib.hid ((HR_sell_7.out.below hb).setFar (p := ⟨g, 5, none⟩) (fun ad e => Nat.ne_of_gt (HF_sell.out ad e)) (.slice A4 (x.outside.l.length - k) e4))
  have HR_solar_8 := Lib.hid ((HR_solar_7.out.below hb).setFar (p := ⟨g, 5, none⟩) (fun ad e => Nat.ne_of_gt (HF_solar.out ad e)) (.slice A4 (x.outside.l.length - k) e4))
  have HR_demand_8 := Lib.hid ((HR_demand_7.out.below hb).setFar (p := ⟨g, 5, none⟩) (fun ad e => Nat.ne_of_gt (HF_demand.out ad e)) (.slice A4 (x.outside.l.length - k) e4))
  have HR_outside_8 := Lib.hid (hri.setFar (p := ⟨g, 5, none⟩) (fun ad e => Nat.ne_of_gt (HF_outside.out ad e)) (.slice A4 (x.outside.l.length - k) e4))
  rw [← hv] at HR_buy_8 HR_sell_8 HR_solar_8 HR_demand_8 HR_outside_8
  go_upto_region 12 with fail
  rw [← hv]
  clear hv qj qf hri hfi hb HQm HX7 HT7 HQ7 HR7 HGg HR_buy_7 HR_sell_7 HR_solar_7 HR_demand_7
  obtain ⟨c0, c1, -, c3, c4, c5, -, -, -, -, -, -, -, -, -, c15, c16, -, -, -⟩ := HX8.out.px.pc
  go_wp2_with fail
  refine (hT_low.out _ (HX8.out.px.pr hP.out).low).mono ?_
  rintro e u5 ⟨A5, e5, rfl, hri, hfi, hb⟩
  clear c0 c1 c3 c4 c5 c15 c16
  have HQm := Lib.hid (HQ8.out.below hb HQ8.out.lt)
  have qj := HQm.out.cell 15
  have qf := HQm.out.frozen 15
  simp at qj
  obtain ⟨v5x, hv⟩ : ∃ v, v = u5.setCell ⟨g, 15, none⟩ (.slice A5 (x.low.l.length - k) e5) := ⟨_, rfl⟩
  have HGg := Lib.hid (HQ8.out.lt)
  have HX9 : Hid (RQ x y w v5x #[.slice none 0 0, .slice none 0 0, .int .i64 0, .slice none 0 0, .slice none 0 0, .slice none 0 0, .int .i64 0, .int .i64 0, .int .i64 0, .int .i64 0, .int .i64 0, .int .i64 0, .int .i64 0, .int .i64 0, .int .i64 0, .slice none 0 0, .slice none 0 0, .slice none 0 0, .int .i64 0, .int .i64 0]) := by show RQ _ _ _ _ _; rw [hv]; exact (HX8.out.below hb).above ((Below.refl (w.heap.size + 3) u5).setCell HG3.out.1 _) (Nat.le_refl _)
  have HT9 : Hid (Blk v5x t8 40 #[.slice tm.net.A tm.net.l.length tm.net.c, .slice tm.level.A tm.level.l.length tm.level.c, .slice tm.temp.A tm.temp.l.length tm.temp.c, .int .i64 tm.cost]) := by show Blk _ _ _ _; rw [hv]; exact (HT8.out.below hb HT8.out.lt).far (p := ⟨g, 15, none⟩) (Nat.ne_of_lt HG3.out.2) _
  have HQ9 : Hid (Blk v5x g 31 #[.slice A0 (x.buy.l.length - k) e0, .slice A1 (x.sell.l.length - k) e1, .int .i64 x.fuse, .slice A2 (x.solar.l.length - k) e2, .slice A3 (x.demand.l.length - k) e3, .slice A4 (x.outside.l.length - k) e4, .int .i64 x.bat.cap, .int .i64 x.bat.reserve, .int .i64 x.bat.charge, .int .i64 x.bat.discharge, .int .i64 x.bat.eff, .int .i64 x.gain, .int .i64 x.loss, .int .i64 x.steps, .int .i64 x.power, .slice A5 (x.low.l.length - k) e5, .slice x.high.A x.high.l.length x.high.c, .slice x.LA x.loads.length x.lc, .int .i64 x.level, .int .i64 x.temp]) := by show Blk _ _ _ _; rw [hv]; have := HQm.out.set_ 15 (.slice A5 (x.low.l.length - k) e5); simpa using this
  have HF_low : Hid (∀ ad, A5 = some ad → g < ad.block) := fun ad e => Nat.lt_of_lt_of_le HGg.out (hfi ad e)
  have HR9 : Hid (RTrF v5x tm g) := by show RTrF _ _ _; rw [hv]; exact (HR8.out.below hb).set _ _
  have HR_buy_9 := Lib.hid ((HR_buy_8.out.below hb).setFar (p := ⟨g, 15, none⟩) (fun ad e => Nat.ne_of_gt (HF_buy.out ad e)) (.slice A5 (x.low.l.length - k) e5))
  have HR_sell_9 := Lib.hid ((HR_sell_8.out.below hb).setFar (p := ⟨g, 15, none⟩) (fun ad e => Nat.ne_of_gt (HF_sell.out ad e)) (.slice A5 (x.low.l.length - k) e5))
  have HR_solar_9 := Lib.hid ((HR_solar_8.out.below hb).setFar (p := ⟨g, 15, none⟩) (fun ad e => Nat.ne_of_gt (HF_solar.out ad e)) (.slice A5 (x.low.l.length - k) e5))
  have HR_demand_9 := Lib.hid ((HR_demand_8.out.below hb).setFar (p := ⟨g, 15, none⟩) (fun ad e => Nat.ne_of_gt (HF_demand.out ad e)) (.slice A5 (x.low.l.length - k) e5))
  have HR_outside_9 := Lib.hid ((HR_outside_8.out.below hb).setFar (p := ⟨g, 15, none⟩) (fun ad e => Nat.ne_of_gt (HF_outside.out ad e)) (.slice A5 (x.low.l.length - k) e5))
  have HR_low_9 := Lib.hid (hri.setFar (p := ⟨g, 15, none⟩) (fun ad e => Nat.ne_of_gt (HF_low.out ad e)) (.slice A5 (x.low.l.length - k) e5))
  rw [← hv] at HR_buy_9 HR_sell_9 HR_solar_9 HR_demand_9 HR_outside_9 HR_low_9
  go_upto_region 13 with fail
  rw [← hv]
  clear hv qj qf hri hfi hb HQm HX8 HT8 HQ8 HR8 HGg HR_buy_8 HR_sell_8 HR_solar_8 HR_demand_8 HR_outside_8
  obtain ⟨c0, c1, -, c3, c4, c5, -, -, -, -, -, -, -, -, -, c15, c16, -, -, -⟩ := HX9.out.px.pc
  go_wp2_with fail
  refine (hT_high.out _ (HX9.out.px.pr hP.out).high).mono ?_
  rintro e u6 ⟨A6, e6, rfl, hri, hfi, hb⟩
  clear c0 c1 c3 c4 c5 c15 c16
  have HQm := Lib.hid (HQ9.out.below hb HQ9.out.lt)
  have qj := HQm.out.cell 16
  have qf := HQm.out.frozen 16
  simp at qj
  obtain ⟨v6x, hv⟩ : ∃ v, v = u6.setCell ⟨g, 16, none⟩ (.slice A6 (x.high.l.length - k) e6) := ⟨_, rfl⟩
  have HGg := Lib.hid (HQ9.out.lt)
  have HX10 : Hid (RQ x y w v6x #[.slice none 0 0, .slice none 0 0, .int .i64 0, .slice none 0 0, .slice none 0 0, .slice none 0 0, .int .i64 0, .int .i64 0, .int .i64 0, .int .i64 0, .int .i64 0, .int .i64 0, .int .i64 0, .int .i64 0, .int .i64 0, .slice none 0 0, .slice none 0 0, .slice none 0 0, .int .i64 0, .int .i64 0]) := by show RQ _ _ _ _ _; rw [hv]; exact (HX9.out.below hb).above ((Below.refl (w.heap.size + 3) u6).setCell HG3.out.1 _) (Nat.le_refl _)
  have HT10 : Hid (Blk v6x t8 40 #[.slice tm.net.A tm.net.l.length tm.net.c, .slice tm.level.A tm.level.l.length tm.level.c, .slice tm.temp.A tm.temp.l.length tm.temp.c, .int .i64 tm.cost]) := by show Blk _ _ _ _; rw [hv]; exact (HT9.out.below hb HT9.out.lt).far (p := ⟨g, 16, none⟩) (Nat.ne_of_lt HG3.out.2) _
  have HQ10 : Hid (Blk v6x g 31 #[.slice A0 (x.buy.l.length - k) e0, .slice A1 (x.sell.l.length - k) e1, .int .i64 x.fuse, .slice A2 (x.solar.l.length - k) e2, .slice A3 (x.demand.l.length - k) e3, .slice A4 (x.outside.l.length - k) e4, .int .i64 x.bat.cap, .int .i64 x.bat.reserve, .int .i64 x.bat.charge, .int .i64 x.bat.discharge, .int .i64 x.bat.eff, .int .i64 x.gain, .int .i64 x.loss, .int .i64 x.steps, .int .i64 x.power, .slice A5 (x.low.l.length - k) e5, .slice A6 (x.high.l.length - k) e6, .slice x.LA x.loads.length x.lc, .int .i64 x.level, .int .i64 x.temp]) := by show Blk _ _ _ _; rw [hv]; have := HQm.out.set_ 16 (.slice A6 (x.high.l.length - k) e6); simpa using this
  have HF_high : Hid (∀ ad, A6 = some ad → g < ad.block) := fun ad e => Nat.lt_of_lt_of_le HGg.out (hfi ad e)
  have HR10 : Hid (RTrF v6x tm g) := by show RTrF _ _ _; rw [hv]; exact (HR9.out.below hb).set _ _
  have HR_buy_10 := Lib.hid ((HR_buy_9.out.below hb).setFar (p := ⟨g, 16, none⟩) (fun ad e => Nat.ne_of_gt (HF_buy.out ad e)) (.slice A6 (x.high.l.length - k) e6))
  have HR_sell_10 := Lib.hid ((HR_sell_9.out.below hb).setFar (p := ⟨g, 16, none⟩) (fun ad e => Nat.ne_of_gt (HF_sell.out ad e)) (.slice A6 (x.high.l.length - k) e6))
  have HR_solar_10 := Lib.hid ((HR_solar_9.out.below hb).setFar (p := ⟨g, 16, none⟩) (fun ad e => Nat.ne_of_gt (HF_solar.out ad e)) (.slice A6 (x.high.l.length - k) e6))
  have HR_demand_10 := Lib.hid ((HR_demand_9.out.below hb).setFar (p := ⟨g, 16, none⟩) (fun ad e => Nat.ne_of_gt (HF_demand.out ad e)) (.slice A6 (x.high.l.length - k) e6))
  have HR_outside_10 := Lib.hid ((HR_outside_9.out.below hb).setFar (p := ⟨g, 16, none⟩) (fun ad e => Nat.ne_of_gt (HF_outside.out ad e)) (.slice A6 (x.high.l.length - k) e6))
  have HR_low_10 := Lib.hid ((HR_low_9.out.below hb).setFar (p := ⟨g, 16, none⟩) (fun ad e => Nat.ne_of_gt (HF_low.out ad e)) (.slice A6 (x.high.l.length - k) e6))
  have HR_high_10 := Lib.hid (hri.setFar (p := ⟨g, 16, none⟩) (fun ad e => Nat.ne_of_gt (HF_high.out ad e)) (.slice A6 (x.high.l.length - k) e6))
  rw [← hv] at HR_buy_10 HR_sell_10 HR_solar_10 HR_demand_10 HR_outside_10 HR_low_10 HR_high_10
  go_upto_region 14 with fail
  rw [← hv]
  clear hv qj qf hri hfi hb HQm HX9 HT9 HQ9 HR9 HGg HR_buy_9 HR_sell_9 HR_solar_9 HR_demand_9 HR_outside_9 HR_low_9
  have qj := HQ10.out.cell 17
  have qf := HQ10.out.frozen 17
  simp at qj
  obtain ⟨vL, hv⟩ : ∃ v, v = v6x.setCell ⟨g, 17, none⟩ (.slice none 0 0) := ⟨_, rfl⟩
  have HGL : Hid (v6x.grownBy vL (some g)) := by show World.grownBy _ _ _; rw [hv]; exact only_setCell (grown_refl _ _) (.inl rfl) _
  have HQL : Hid (Blk vL g 31 #[.slice A0 (x.buy.l.length - k) e0, .slice A1 (x.sell.l.length - k) e1, .int .i64 x.fuse, .slice A2 (x.solar.l.length - k) e2, .slice A3 (x.demand.l.length - k) e3, .slice A4 (x.outside.l.length - k) e4, .int .i64 x.bat.cap, .int .i64 x.bat.reserve, .int .i64 x.bat.charge, .int .i64 x.bat.discharge, .int .i64 x.bat.eff, .int .i64 x.gain, .int .i64 x.loss, .int .i64 x.steps, .int .i64 x.power, .slice A5 (x.low.l.length - k) e5, .slice A6 (x.high.l.length - k) e6, .slice none 0 0, .int .i64 x.level, .int .i64 x.temp]) := by show Blk _ _ _ _; rw [hv]; have := HQ10.out.set_ 17 (.slice none 0 0); simpa using this
  go_upto_region 15 with fail
  rw [← hv]
  clear hv qj qf
  have HXL : Hid (RQ x y w vL #[.slice none 0 0, .slice none 0 0, .int .i64 0, .slice none 0 0, .slice none 0 0, .slice none 0 0, .int .i64 0, .int .i64 0, .int .i64 0, .int .i64 0, .int .i64 0, .int .i64 0, .int .i64 0, .int .i64 0, .int .i64 0, .slice none 0 0, .slice none 0 0, .slice none 0 0, .int .i64 0, .int .i64 0]) := HX10.out.above (B := w.heap.size + 3) ((Below.refl (w.heap.size + 3) v6x).grown HGL.out HX10.out.lt (fun k e => by injection e with e; have := HG3.out.1; omega)) (Nat.le_refl _)
  obtain ⟨-, -, -, -, -, -, -, -, -, -, -, -, -, -, -, -, -, c17, -, -⟩ := HXL.out.px.pc
  go_wp2_with fail
  clear c17
  have hQL0 : Hid (g < vL.heap.size) := HQL.out.lt
  go_loopw [83] (fun s83 wr => ∃ (j : Nat) (v : Value) (rows : List LdM), j ≤ x.loads.length ∧ s83 = .int .i64 j ∧ Hid (vL.grownBy wr (some g)) ∧ Hid (Blk wr g 31 #[.slice A0 (x.buy.l.length - k) e0, .slice A1 (x.sell.l.length - k) e1, .int .i64 x.fuse, .slice A2 (x.solar.l.length - k) e2, .slice A3 (x.demand.l.length - k) e3, .slice A4 (x.outside.l.length - k) e4, .int .i64 x.bat.cap, .int .i64 x.bat.reserve, .int .i64 x.bat.charge, .int .i64 x.bat.discharge, .int .i64 x.bat.eff, .int .i64 x.gain, .int .i64 x.loss, .int .i64 x.steps, .int .i64 x.power, .slice A5 (x.low.l.length - k) e5, .slice A6 (x.high.l.length - k) e6, v, .int .i64 x.level, .int .i64 x.temp]) ∧ Hid (MadeL wr vL.heap.size v rows) ∧ Hid (rows.map LdM.r = x.p.lefts y.x k j))
    (fun s83 _ => x.loads.length - (intOf s83).toNat)
  case atStart => exact ⟨0, _, [], by omega, rfl, grown_refl _ _, HQL.out, MadeL.nil _ _, rfl⟩
  case round =>
    obtain ⟨j, v, rows, hj, rfl, hGB, hQv, hMv, hrows⟩ := hrel
    obtain ⟨wo, hwo⟩ : ∃ wo : World, wo = wr := ⟨_, rfl⟩
    subst hwo
    have hbw : Below (w.heap.size + 3) vL wo := (Below.refl (w.heap.size + 3) vL).grown hGB.out HXL.out.lt (fun k e => by injection e with e; have := HG3.out.1; omega)
    have HXo := Lib.hid (HXL.out.above hbw (Nat.le_refl _))
    clear hbw
    by_cases hlt : j < x.loads.length
    · have hjs : j < y.start.l.length := by rw [HSTL.out]; exact hlt
      obtain ⟨b, of, hAe, _, y0, y1, y2, y3⟩ := (HXo.out.px.pr hP.out).loads.at' hlt
      obtain ⟨bs, os, hSe, _, s0⟩ := (HXo.out.px.qr hQ.out).start.at' hjs
      have HPF := Lib.hid ((HXo.out.px.pr hP.out).loads.prof hlt)
      obtain ⟨-, -, -, -, -, -, -, -, -, -, -, -, -, -, -, -, -, c17, -, -⟩ := HXo.out.px.pc
      obtain ⟨-, -, d2⟩ := HXo.out.px.qc
      rw [hAe] at c17
      rw [hSe] at d2
      obtain ⟨sb0, sb1, sb2, sb3⟩ := HSB.out j hlt hjs
      have HLP : Hid (x.loads[j].r.isLeft y.start.l[j] k = true → 0 < (x.loads[j].r.left y.start.l[j] k).prof.length) := Ld.left_pos sb3
      have hle0 := fun W (h : RInts W x.loads[j].A x.loads[j].r.prof) => rleft_any x.loads[j].r x.loads[j].A x.loads[j].c y.start.l[j] k W h (HN.out _ (List.getElem_mem hlt)) sb2 (HCP.out _ (List.getElem_mem hlt)) sb0 sb1 (by omega) (by omega)
      have hsu : x.p.lefts y.x k (j + 1) = if x.loads[j].r.isLeft y.start.l[j] k = true then x.p.lefts y.x k j ++ [x.loads[j].r.left y.start.l[j] k] else x.p.lefts y.x k j := by
        rw [Pb.lefts, show x.p.loads.getD j Ld.zero = x.loads[j].r by simp [PbM.p, List.getD, hlt], show y.x.start.getD j 0 = y.start.l[j] by simp [PnM.x, List.getD, hjs]]
      have HSU := Lib.hid hsu
      simp only [Ld.v] at hle0
      have i1 : (0 : Int) ≤ (j : Int) := by omega
      have i2 : (j : Int) < (x.loads.length : Int) := by omega
      have i3 : (j : Int) < (y.start.l.length : Int) := by omega
      clear hAe hSe hsu sb0 sb1 sb2 sb3
      generalize x.loads[j] = X at *
      generalize y.start.l[j] = s at *
      generalize X.r.left s k = m at *
      generalize X.r.isLeft s k = bl at *
      have HLE := Lib.hid hle0
      have HK : Hid (∀ W, Below wo.heap.size wo W → Below wo.heap.size wo W ∧ W.cell? ⟨w.heap.size, 17, none⟩ = some (.slice (some ⟨b, of, none⟩) x.loads.length x.lc) ∧ W.cell? ⟨b, of + j * 4, none⟩ = some (.string X.r.name) ∧ W.cell? ⟨b, of + j * 4 + 1, none⟩ = some (.slice X.A X.r.prof.length X.c) ∧ W.cell? ⟨b, of + j * 4 + 2, none⟩ = some (.int .i64 X.r.early) ∧ W.cell? ⟨b, of + j * 4 + 3, none⟩ = some (.int .i64 X.r.late) ∧ W.cell? ⟨w.heap.size + 1, 2, none⟩ = some (.slice (some ⟨bs, os, none⟩) y.start.l.length y.start.c) ∧ W.cell? ⟨bs, os + j, none⟩ = some (.int .i64 s)) := fun W hb => ⟨hb, cell_below c17 hb, cell_below y0 hb, cell_below y1 hb, cell_below y2 hb, cell_below y3 hb, cell_below d2 hb, cell_below s0 hb⟩
      clear hle0 c17 y0 y1 y2 y3 d2 s0
      go_upto_region 18 with fail
      go_cut [12, 13] (fun s12 s13 wx => ∃ (nb : Nat) (A' : Option Addr) (c' : Nat), s12 = .pointer (some ⟨nb, 0, none⟩) ∧ s13 = .bool bl ∧ Hid (Below wo.heap.size wo wx) ∧ Hid (wo.heap.size ≤ nb) ∧
        Hid (Blk wx nb 52 #[.string m.name, .slice A' m.prof.length c', .int .i64 m.early, .int .i64 m.late]) ∧ Hid (RInts wx A' m.prof) ∧ Hid (∀ ad, A' = some ad → wo.heap.size ≤ ad.block))
      case first =>
        go_region_held3 (fun w' => Below wo.heap.size wo w' ∧ w'.cell? ⟨w.heap.size, 17, none⟩ = some (.slice (some ⟨b, of, none⟩) x.loads.length x.lc) ∧ w'.cell? ⟨b, of + j * 4, none⟩ = some (.string X.r.name) ∧ w'.cell? ⟨b, of + j * 4 + 1, none⟩ = some (.slice X.A X.r.prof.length X.c) ∧ w'.cell? ⟨b, of + j * 4 + 2, none⟩ = some (.int .i64 X.r.early) ∧ w'.cell? ⟨b, of + j * 4 + 3, none⟩ = some (.int .i64 X.r.late) ∧ w'.cell? ⟨w.heap.size + 1, 2, none⟩ = some (.slice (some ⟨bs, os, none⟩) y.start.l.length y.start.c) ∧ w'.cell? ⟨bs, os + j, none⟩ = some (.int .i64 s))
          (first | exact HK.out _ (Below.refl _ _) | exact HK.out _ (Below.drew (Below.refl _ _)) | exact HK.out _ (below_al (And.left (by assumption))) | exact HK.out _ (below_al (Below.drew (Below.refl _ _))) | exact HK.out _ (And.left (by assumption)) | exact HK.out _ (below_tr (And.left (by assumption)) (by assumption)) | exact HK.out _ (below_al (below_tr (Below.drew (Below.refl _ _)) (by assumption))) | exact HK.out _ (((((below_tr (below_al (Below.drew (Below.refl _ _))) (by assumption)).setCell (Nat.le_refl _) _).setCell (Nat.le_refl _) _).setCell (Nat.le_refl _) _).setCell (Nat.le_refl _) _) | exact HK.out _ ((((Below.setCell (below_tr (And.left (by assumption)) (by assumption)) (by simp; try omega) _).setCell (by simp; try omega) _).setCell (by simp; try omega) _).setCell (by simp; try omega) _) | exact HK.out _ ((((Below.setCell (And.left (by assumption)) (by simp; try omega) _).setCell (by simp; try omega) _).setCell (by simp; try omega) _).setCell (by simp; try omega) _))
          (first | (go_at_call 64; refine (HLE.out _ (HPF.out.below (And.left (by assumption)))).mono ?_; rintro e' w7 ⟨A', c', rfl, hr7, hf7, hb7⟩; have kz := (one_box (w := wo.drew) (cs := #[.string ⟨#[]⟩, .slice none 0 0, .int .i64 0, .int .i64 0]) (t := 52) hb7).1; have q0 : w7.cell? ⟨wo.heap.size, 0, none⟩ = some (.string ⟨#[]⟩) := kz.cell 0; have q1 : w7.cell? ⟨wo.heap.size, 1, none⟩ = some (.slice none 0 0) := kz.cell 1; have q2 : w7.cell? ⟨wo.heap.size, 2, none⟩ = some (.int .i64 0) := kz.cell 2; have q3 : w7.cell? ⟨wo.heap.size, 3, none⟩ = some (.int .i64 0) := kz.cell 3; have f0 : w7.frozen? ⟨wo.heap.size, 0, none⟩ = false := kz.frozen 0; have f1 : w7.frozen? ⟨wo.heap.size, 1, none⟩ = false := kz.frozen 1; have f2 : w7.frozen? ⟨wo.heap.size, 2, none⟩ = false := kz.frozen 2; have f3 : w7.frozen? ⟨wo.heap.size, 3, none⟩ = false := kz.frozen 3; have KZ := Lib.hid kz; clear kz) | (go_at_call 64; refine (HLE.out _ (HPF.out.below (And.left (by assumption)))).mono ?_; rintro e' w7 ⟨A', c', rfl, hr7, hf7, hb7⟩))
        · go_wp2_with fail
          go_meet
          exact ⟨w7.heap.size, A', c', rfl, rfl, below_al (below_tr (Below.drew (Below.refl _ _)) hb7), hb7.size, Blk.new _ _ _, hr7.alloc _, fun ad e => hf7 ad e⟩
        · go_wp2_with fail
          go_meet
          have hne : ∀ ad, A' = some ad → ad.block ≠ wo.heap.size := fun ad e => by
            have h : (wo.alloc (.cells #[.string ⟨#[]⟩, .slice none 0 0, .int .i64 0, .int .i64 0] 52)).heap.size ≤ ad.block := hf7 ad e
            rw [World.size_alloc] at h
            omega
          have hst := ((((KZ.out).set_ 0 (.string m.name)).set_ 1 (.slice A' m.prof.length c')).set_ 2 (.int .i64 m.early)).set_ 3 (.int .i64 m.late)
          exact ⟨wo.heap.size, A', c', rfl, rfl, ((((below_tr (below_al (Below.drew (Below.refl _ _))) hb7).setCell (Nat.le_refl _) _).setCell (Nat.le_refl _) _).setCell (Nat.le_refl _) _).setCell (Nat.le_refl _) _, Nat.le_refl _, (by show Blk _ _ _ _; simpa using hst), ((((hr7).setFar (p := ⟨wo.heap.size, 0, none⟩) hne _).setFar (p := ⟨wo.heap.size, 1, none⟩) hne _).setFar (p := ⟨wo.heap.size, 2, none⟩) hne _).setFar (p := ⟨wo.heap.size, 3, none⟩) hne _,
            fun ad e => by have := hne ad e; have h : (wo.alloc (.cells #[.string ⟨#[]⟩, .slice none 0 0, .int .i64 0, .int .i64 0] 52)).heap.size ≤ ad.block := hf7 ad e; rw [World.size_alloc] at h; omega⟩
      case rest =>
        obtain ⟨nb, A', c', rfl, rfl, hb8, hnb, hN8, hr8, hf8⟩ := hcut
        have hGB8 := Lib.hid (only_below hGB.out hb8.out)
        have hQ8 := Lib.hid (hQv.out.below hb8.out hQv.out.lt)
        have hM8 := Lib.hid (hMv.out.below hb8.out)
        have hrl : rows.length ≤ j := by
          have := Pb.lefts_len x.p y.x k j
          rw [← hrows.out, List.length_map] at this
          exact this
        cases bl
        · have hsu : x.p.lefts y.x k (j + 1) = x.p.lefts y.x k j := by rw [HSU.out]; simp
          have HS2 := Lib.hid hsu
          clear hsu
          go_wp2_with fail
          go_roundw
          case rel => exact ⟨j + 1, v, rows, by omega, by go_num, hGB8.out, hQ8.out, hM8.out, hrows.out.trans HS2.out.symm⟩
          case measure => simp [intOf]; omega
        · have hsu : x.p.lefts y.x k (j + 1) = x.p.lefts y.x k j ++ [m] := by rw [HSU.out]; simp
          have HS2 := Lib.hid hsu
          clear hsu
          have gne : v.ownBlock ≠ some g := fun e => by have h1 := (hMv.out.own.lt g e).1; have h2 := hQL0.out; omega
          have hvf : ∀ k, v.ownBlock = some k → vL.heap.size ≤ k := fun k e => (hMv.out.own.lt k e).1
          have hf9 : ∀ ad, A' = some ad → vL.heap.size ≤ ad.block ∧ some ad.block ≠ v.ownBlock ∧ ad.block < wc.heap.size := fun ad e => by
            have h1 := hf8.out ad e
            have h2 := hGB.out.size
            refine ⟨by omega, fun h => ?_, ?_⟩
            · have := (hMv.out.own.lt _ h.symm).2
              omega
            · exact hr8.out.lt (fun h => by have := HLP.out rfl; rw [h] at this; simp at this) ad e
          have GNE := Lib.hid gne
          have HVF := Lib.hid hvf
          have HF9 := Lib.hid hf9
          have HBS : Hid (vL.heap.size ≤ wc.heap.size) := hGB8.out.size
          clear gne hvf hf9
          obtain ⟨A3, c3, hve⟩ := own_form hMv.out.own
          have qf : wc.frozen? ⟨g, 17, none⟩ = false := hQ8.out.frozen 17
          obtain ⟨iL, hiL, hzL, hsL, hbL⟩ := info_parts Try.infoLoadR
          have n0 := hN8.out.cell 0
          have n1 := hN8.out.cell 1
          have n2 := hN8.out.cell 2
          have n3 := hN8.out.cell 3
          have q17 := hQ8.out.cell 17
          rw [hve] at q17
          simp at n0 n1 n2 n3 q17
          have HOW : Hid (wc.ownsRow vL.heap.size 52 4 (.slice A3 rows.length c3) rows.length (ldCells rows)) := by rw [← hve]; exact hM8.out.own
          have HVE := Lib.hid hve
          clear hve
          go_wp2_with (at_builtin; refine wpList_append_newGH _ wc wc.heap.size rfl rfl _ _ 29 rfl vL.heap.size 52 iL (.agg #[.string ⟨#[]⟩, .slice none 0 0, .int .i64 0, .int .i64 0]) 4 56 Try.underlying29 hiL hzL hsL hbL rfl (by decide) (by decide) _ rows.length (ldCells rows) rfl HOW.out #[.string m.name, .slice A' m.prof.length c', .int .i64 m.early, .int .i64 m.late] rfl (by simp [Value.oneCell']) rfl rfl (by omega) HBS.out ?_)
          intro v' w' hown hg' hv'
          rw [← HVE.out] at hg' hv'
          obtain ⟨A4, c4, rfl⟩ := own_form hown
          have hM9 := hM8.out.push (x := ⟨m, A', c'⟩) hr8.out HF9.out hown hg' hv'
          have hQ9 := hQ8.out.grown hg' (fun e => GNE.out e.symm)
          have hG9 := grown_then hGB8.out hg' HVF.out
          have r17 := hQ9.cell 17
          have rf := hQ9.frozen 17
          simp at r17
          have hS9 := hQ9.set_ 17 (.slice A4 (rows.length + 1) c4)
          simp at hS9
          have HS9 := Lib.hid hS9
          have HG9 := Lib.hid (only_setCell (p := ⟨g, 17, none⟩) hG9 (.inl rfl) (.slice A4 (rows.length + 1) c4))
          have HM9 := Lib.hid (hM9.set (p := ⟨g, 17, none⟩) hQL0.out (.slice A4 (rows.length + 1) c4))
          clear hQ9 hS9 hG9 hM9 hown hg' hv' q17 qf n0 n1 n2 n3
          go_wp2_with fail
          go_roundw
          case rel => exact ⟨j + 1, .slice A4 (rows.length + 1) c4, rows ++ [(⟨m, A', c'⟩ : LdM)], by omega, by go_num, HG9.out, HS9, HM9, (by show _ = _; rw [List.map_append, hrows.out, HS2.out]; rfl)⟩
          case measure => simp [intOf]; omega
    · have hjl : j = x.loads.length := by omega
      have i2 : ¬ (j : Int) < (x.loads.length : Int) := by omega
      have HREL : Hid (rows.map LdM.r = x.p.lefts y.x k x.p.loads.length) := by
        show _ = _
        rw [hrows.out, hjl]
        simp [PbM.p]
      have hV : v6x.grownBy wo (some g) := HGL.out.trans hGB.out
      have HTo := Lib.hid (HT10.out.grown hV (by intro e; injection e with e; have := HG3.out.2; omega))
      have HRo : Hid (RTr wo tm) := ⟨HR10.out.r.net.other hV (fun ad e h => HR10.out.f ad (.inl e) (by injection h)), HR10.out.r.level.other hV (fun ad e h => HR10.out.f ad (.inr (.inl e)) (by injection h)), HR10.out.r.temp.other hV (fun ad e h => HR10.out.f ad (.inr (.inr e)) (by injection h)), HR10.out.r.nc, HR10.out.r.lc, HR10.out.r.tc⟩
      have HO_buy := Lib.hid (HR_buy_10.out.other hV (fun ad e h => by injection h with h; have := HF_buy.out ad e; omega))
      have HO_sell := Lib.hid (HR_sell_10.out.other hV (fun ad e h => by injection h with h; have := HF_sell.out ad e; omega))
      have HO_solar := Lib.hid (HR_solar_10.out.other hV (fun ad e h => by injection h with h; have := HF_solar.out ad e; omega))
      have HO_demand := Lib.hid (HR_demand_10.out.other hV (fun ad e h => by injection h with h; have := HF_demand.out ad e; omega))
      have HO_outside := Lib.hid (HR_outside_10.out.other hV (fun ad e h => by injection h with h; have := HF_outside.out ad e; omega))
      have HO_low := Lib.hid (HR_low_10.out.other hV (fun ad e h => by injection h with h; have := HF_low.out ad e; omega))
      have HO_high := Lib.hid (HR_high_10.out.other hV (fun ad e h => by injection h with h; have := HF_high.out ad e; omega))
      obtain ⟨A9, c9, rfl⟩ := own_form hMv.out.own
      have HCA : Hid (rows.length ≤ c9) := hMv.out.reads.2
      clear hV hrows
      by_cases hk0 : k = 0
      · have hk1 : ¬ (0 : Int) < (k : Int) := by omega
        obtain ⟨mm, hmm⟩ : ∃ mm : PbM, mm = ⟨⟨A0, e0, x.buy.l.drop k⟩, ⟨A1, e1, x.sell.l.drop k⟩, x.fuse, ⟨A2, e2, x.solar.l.drop k⟩, ⟨A3, e3, x.demand.l.drop k⟩, ⟨A4, e4, x.outside.l.drop k⟩, x.bat, x.gain, x.loss, x.steps, x.power, ⟨A5, e5, x.low.l.drop k⟩, ⟨A6, e6, x.high.l.drop k⟩, A9, c9, rows, x.level, x.temp⟩ := ⟨_, rfl⟩
        go_upto_region 25 with fail
        have HBm : Hid (Blk wo g 31 mm.cs) := by show Blk _ _ _ _; rw [hmm]; simpa [PbM.cs] using hQv.out
        have HMP : Hid (x.p.rest y.x 0 = mm.p) := by
          show _ = _
          rw [hmm]
          show _ = Pb.mk _ _ _ _ _ _ (rows.map LdM.r) _ _
          rw [HREL.out, show x.level = x.p.lv y.x 0 from rfl, show x.temp = x.p.tm y.x 0 from rfl]
          rw [hk0]; rfl
        have HCm : Hid (mm.loads.length ≤ mm.lc) := by show _ ≤ _; rw [hmm]; exact HCA.out
        have HMM := Lib.hid hmm
        clear hmm
        go_wp2_with (refine wpList_load_problem rfl _ rfl g rfl mm HBm.out ?_; refine wpList_store_blk rfl 31 _ _ rfl (w.heap.size + 2) rfl mm.cs rfl (by kernel_rfl) (PbM.cs_one _) HXo.out.t rfl ?_; intro w3 hB3 hg3; have HB3 := Lib.hid hB3; have HGT := Lib.hid hg3; clear hB3 hg3)
        have hb3 : Below w.heap.size w w3 := HXo.out.px.bel.grown HGT.out HXo.out.px.bel.size (fun k e => by injection e with e; omega)
        have hrm3 : RPb w3 mm := by
          rw [HMM.out]
          exact ⟨(HO_buy.out).other HGT.out (fun ad e h => by injection h with h; have := HF_buy.out ad e; have := HG3.out.1; omega), (HO_sell.out).other HGT.out (fun ad e h => by injection h with h; have := HF_sell.out ad e; have := HG3.out.1; omega), (HO_solar.out).other HGT.out (fun ad e h => by injection h with h; have := HF_solar.out ad e; have := HG3.out.1; omega), (HO_demand.out).other HGT.out (fun ad e h => by injection h with h; have := HF_demand.out ad e; have := HG3.out.1; omega), (HO_outside.out).other HGT.out (fun ad e h => by injection h with h; have := HF_outside.out ad e; have := HG3.out.1; omega), (HO_low.out).other HGT.out (fun ad e h => by injection h with h; have := HF_low.out ad e; have := HG3.out.1; omega), (HO_high.out).other HGT.out (fun ad e h => by injection h with h; have := HF_high.out ad e; have := HG3.out.1; omega), (hMv.out.only HGT.out (by have := HG3.out.1; have := hQL0.out; omega)).reads.1⟩
        rw [HMP.out]
        exact rrest_ret (m := mm) HB3.out hrm3 HCm.out hb3 rfl rfl
      · have hk1 : (0 : Int) < (k : Int) := by omega
        have hk2 : k - 1 < x.buy.l.length := by omega
        have hl1 : tm.level.l.length = x.buy.l.length := by rw [show tm.level.l = _ from congrArg Tr.level (HTX.out.trans htl.out)]; simp only [Pb.levels_len]; rfl
        have hl2 : tm.temp.l.length = x.buy.l.length := by rw [show tm.temp.l = _ from congrArg Tr.temp (HTX.out.trans htl.out)]; simp only [Pb.temps_len]; rfl
        have hv1 : tm.level.l[k - 1]'(by omega) = x.p.lv y.x k := by
          have e : tm.level.l = x.p.levels y.x x.p.n := congrArg Tr.level (HTX.out.trans htl.out)
          rw [List.getElem_of_eq e]
          simp [Pb.levels, show k - 1 + 1 = k by omega]
        have hv2 : tm.temp.l[k - 1]'(by omega) = x.p.tm y.x k := by
          have e : tm.temp.l = x.p.temps y.x x.p.n := congrArg Tr.temp (HTX.out.trans htl.out)
          rw [List.getElem_of_eq e]
          simp [Pb.temps, show k - 1 + 1 = k by omega]
        obtain ⟨b1, o1, ha1, _, s1⟩ := HRo.out.level.at' (k := k - 1) (by omega)
        obtain ⟨b2, o2, ha2, _, s2⟩ := HRo.out.temp.at' (k := k - 1) (by omega)
        have c1 := HTo.out.cell 1
        have c2 := HTo.out.cell 2
        simp at c1 c2
        rw [ha1] at c1
        rw [ha2] at c2
        rw [hv1] at s1
        rw [hv2] at s2
        have ib0 : (0 : Int) ≤ (k : Int) - 1 := by omega
        have ib1 : (k : Int) - 1 < (tm.level.l.length : Int) := by omega
        have ib2 : (k : Int) - 1 < (tm.temp.l.length : Int) := by omega
        have ibn : ((k : Int) - 1).toNat = k - 1 := by omega
        have q18 := hQv.out.cell 18
        have q19 := hQv.out.cell 19
        have f18 := hQv.out.frozen 18
        have f19 := hQv.out.frozen 19
        simp at q18 q19
        have nbg : b2 ≠ g := HR10.out.f _ (.inr (.inr ha2))
        have ntg : t8 ≠ g := Nat.ne_of_lt HG3.out.2
        clear hl1 hl2 hv1 hv2 ha1 ha2 hk2
        go_upto_region 25 with fail
        obtain ⟨vZ, hvz⟩ : ∃ v, v = (wo.setCell ⟨g, 18, none⟩ (.int .i64 (x.p.lv y.x k))).setCell ⟨g, 19, none⟩ (.int .i64 (x.p.tm y.x k)) := ⟨_, rfl⟩
        have HGZ : Hid (wo.grownBy vZ (some g)) := by show World.grownBy _ _ _; rw [hvz]; exact only_setCell (p := ⟨g, 19, none⟩) (only_setCell (p := ⟨g, 18, none⟩) (grown_refl wo (some g)) (.inl rfl) _) (.inl rfl) _
        have hQz : Hid (Blk vZ g 31 #[.slice A0 (x.buy.l.length - k) e0, .slice A1 (x.sell.l.length - k) e1, .int .i64 x.fuse, .slice A2 (x.solar.l.length - k) e2, .slice A3 (x.demand.l.length - k) e3, .slice A4 (x.outside.l.length - k) e4, .int .i64 x.bat.cap, .int .i64 x.bat.reserve, .int .i64 x.bat.charge, .int .i64 x.bat.discharge, .int .i64 x.bat.eff, .int .i64 x.gain, .int .i64 x.loss, .int .i64 x.steps, .int .i64 x.power, .slice A5 (x.low.l.length - k) e5, .slice A6 (x.high.l.length - k) e6, .slice A9 rows.length c9, .int .i64 (x.p.lv y.x k), .int .i64 (x.p.tm y.x k)]) := by show Blk _ _ _ _; rw [hvz]; have := (hQv.out.set_ 18 (.int .i64 (x.p.lv y.x k))).set_ 19 (.int .i64 (x.p.tm y.x k)); simpa using this
        rw [← hvz]
        clear hvz q18 q19 f18 f19 s1 s2 c1 c2
        have HXz : Hid (RQ x y w vZ #[.slice none 0 0, .slice none 0 0, .int .i64 0, .slice none 0 0, .slice none 0 0, .slice none 0 0, .int .i64 0, .int .i64 0, .int .i64 0, .int .i64 0, .int .i64 0, .int .i64 0, .int .i64 0, .int .i64 0, .int .i64 0, .slice none 0 0, .slice none 0 0, .slice none 0 0, .int .i64 0, .int .i64 0]) := HXo.out.above (B := w.heap.size + 3) ((Below.refl (w.heap.size + 3) wo).grown HGZ.out HXo.out.lt (fun k e => by injection e with e; have := HG3.out.1; omega)) (Nat.le_refl _)
        have HZ_buy := Lib.hid (HO_buy.out.other HGZ.out (fun ad e h => by injection h with h; have := HF_buy.out ad e; omega))
        have HZ_sell := Lib.hid (HO_sell.out.other HGZ.out (fun ad e h => by injection h with h; have := HF_sell.out ad e; omega))
        have HZ_solar := Lib.hid (HO_solar.out.other HGZ.out (fun ad e h => by injection h with h; have := HF_solar.out ad e; omega))
        have HZ_demand := Lib.hid (HO_demand.out.other HGZ.out (fun ad e h => by injection h with h; have := HF_demand.out ad e; omega))
        have HZ_outside := Lib.hid (HO_outside.out.other HGZ.out (fun ad e h => by injection h with h; have := HF_outside.out ad e; omega))
        have HZ_low := Lib.hid (HO_low.out.other HGZ.out (fun ad e h => by injection h with h; have := HF_low.out ad e; omega))
        have HZ_high := Lib.hid (HO_high.out.other HGZ.out (fun ad e h => by injection h with h; have := HF_high.out ad e; omega))
        obtain ⟨mm, hmm⟩ : ∃ mm : PbM, mm = ⟨⟨A0, e0, x.buy.l.drop k⟩, ⟨A1, e1, x.sell.l.drop k⟩, x.fuse, ⟨A2, e2, x.solar.l.drop k⟩, ⟨A3, e3, x.demand.l.drop k⟩, ⟨A4, e4, x.outside.l.drop k⟩, x.bat, x.gain, x.loss, x.steps, x.power, ⟨A5, e5, x.low.l.drop k⟩, ⟨A6, e6, x.high.l.drop k⟩, A9, c9, rows, x.p.lv y.x k, x.p.tm y.x k⟩ := ⟨_, rfl⟩
        have HBm : Hid (Blk vZ g 31 mm.cs) := by show Blk _ _ _ _; rw [hmm]; simpa [PbM.cs] using hQz.out
        have HMP : Hid (x.p.rest y.x k = mm.p) := by
          show _ = _
          rw [hmm]
          show _ = Pb.mk _ _ _ _ _ _ (rows.map LdM.r) _ _
          rw [HREL.out, show x.p.lv y.x k = x.p.lv y.x k from rfl, show x.p.tm y.x k = x.p.tm y.x k from rfl]
          rfl
        have HCm : Hid (mm.loads.length ≤ mm.lc) := by show _ ≤ _; rw [hmm]; exact HCA.out
        have HMM := Lib.hid hmm
        clear hmm
        go_wp2_with (refine wpList_load_problem rfl _ rfl g rfl mm HBm.out ?_; refine wpList_store_blk rfl 31 _ _ rfl (w.heap.size + 2) rfl mm.cs rfl (by kernel_rfl) (PbM.cs_one _) HXz.out.t rfl ?_; intro w3 hB3 hg3; have HB3 := Lib.hid hB3; have HGT := Lib.hid hg3; clear hB3 hg3)
        have hb3 : Below w.heap.size w w3 := HXz.out.px.bel.grown HGT.out HXz.out.px.bel.size (fun k e => by injection e with e; omega)
        have hrm3 : RPb w3 mm := by
          rw [HMM.out]
          exact ⟨(HZ_buy.out).other HGT.out (fun ad e h => by injection h with h; have := HF_buy.out ad e; have := HG3.out.1; omega), (HZ_sell.out).other HGT.out (fun ad e h => by injection h with h; have := HF_sell.out ad e; have := HG3.out.1; omega), (HZ_solar.out).other HGT.out (fun ad e h => by injection h with h; have := HF_solar.out ad e; have := HG3.out.1; omega), (HZ_demand.out).other HGT.out (fun ad e h => by injection h with h; have := HF_demand.out ad e; have := HG3.out.1; omega), (HZ_outside.out).other HGT.out (fun ad e h => by injection h with h; have := HF_outside.out ad e; have := HG3.out.1; omega), (HZ_low.out).other HGT.out (fun ad e h => by injection h with h; have := HF_low.out ad e; have := HG3.out.1; omega), (HZ_high.out).other HGT.out (fun ad e h => by injection h with h; have := HF_high.out ad e; have := HG3.out.1; omega), ((hMv.out.only HGZ.out hQL0.out).only HGT.out (by have := HG3.out.1; have := hQL0.out; omega)).reads.1⟩
        rw [HMP.out]
        exact rrest_ret (m := mm) HB3.out hrm3 HCm.out hb3 rfl rfl
end Go.Proofs.Ytdheockmphdakaa
