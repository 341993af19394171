/-
  The law PlanParts, walked.
-/
import Derived.Test.YtdheockmphdakaaQP18
import Derived.Test.YtdheockmphdakaaQP33
import Derived.Test.YtdheockmphdakaaQPP8
namespace Go.Proofs.Ytdheockmphdakaa
open Go.RowKit
attribute [local go_sem ↓] Go.wp_at_zero Go.wp_at_succ

theorem RInts.take2 {w : World} {A : Option Addr} {l : List Int} (h : RInts w A l) (m : Nat) : RInts w A (l.take m) := by
  unfold RInts at *
  obtain ⟨h1, h2⟩ := h
  refine ⟨by simp [ints], fun hm => ?_⟩
  rw [List.length_take] at hm
  obtain ⟨ad, e, hlt, hc⟩ := h2 (by omega)
  refine ⟨ad, e, hlt, fun j u hj => hc j u ?_⟩
  rw [show ints (l.take m) = (ints l).take m by simp [ints], List.getElem?_take] at hj
  split at hj
  · exact hj
  · cases hj
section
variable {ops : Array Oper} {rest : List Oper} {o : Oper} {a : Act} {W : World} {Q : Exit → Act → World → Prop}
theorem wpList_load_problemG (hw : Region.wanted o (yielded ops a.tmps) = true) (s : Operand) (ho : o.op = .load 31 s) (g : Nat) (hx : a.eval s = .pointer (some ⟨g, 0, none⟩)) (x : PbM) (h : Blk W g 31 x.cs) (hk : wpList Try.prog ops Q rest (a.put o.dst x.v) W) :
    wpList Try.prog ops Q (o :: rest) a W := wpList_step fun _ hK => step_load_blk hw 31 (by kernel_rfl) (by kernel_rfl) s ho g hx h (hK _ _ hk)
end
theorem total_bd {t : Tf} (h : t.chk = 0) (l : List Int) : -100000000000 ≤ t.total l ∧ t.total l ≤ 100000000000 := by
  have g := Tf.good h
  have h1 := Tf.totalTo_bd g l (min l.length t.buy.length)
  have h2 := g.n1
  have h3 : min l.length t.buy.length ≤ 96 := Nat.le_trans (Nat.min_le_right _ _) h2
  unfold Tf.total
  rw [if_pos h]
  omega
theorem fit_chk {m : PbM} (h : m.p.chk = 0) (hc : m.loads.length ≤ m.lc) : m.Fit := by
  have g := Pb.good h
  have hl : ∀ y ∈ m.loads, y.r.Good m.p.n := by
    intro y hy
    have hy2 : y.r ∈ m.p.loads := List.mem_map.2 ⟨y, hy, rfl⟩
    rw [List.mem_iff_getElem] at hy2
    obtain ⟨i, hi, e⟩ := hy2
    rw [← e]
    exact Ld.good (Pb.load_ok g hi)
  have hn := Pb.nbd g
  refine ⟨?_, ?_, hc, ?_, ?_⟩
  · intro y hy
    have := (hl y hy).name
    simp only [nameOk, Bool.and_eq_true, decide_eq_true_iff] at this
    have h2 := this.1.2
    unfold maxLen
    omega
  · intro y hy
    have := (hl y hy).p1
    omega
  · have : m.buy.l.length ≤ 96 := hn.2
    unfold maxLen
    omega
  · intro y hy
    have h1 := (hl y hy).l1; have h2 := (hl y hy).el; have h3 := (hl y hy).e0
    omega

set_option maxRecDepth 100000 in
set_option maxHeartbeats 64000000 in
theorem pparts_law (x : PbM) (y : PnM) (k : Int) (w : World) (hP0 : RPb w x) (hL0 : ∀ z ∈ x.loads, z.r.prof.length ≤ maxLen ∧ z.r.name.size ≤ maxLen ∧ -9223372036854775808 ≤ z.r.late ∧ z.r.late ≤ 9223372036854775807) (hc0 : x.loads.length ≤ x.lc) (hm0 : x.buy.l.length ≤ maxLen) (hC0 : x.Cap) (hQ0 : RPn w y) (hG0 : y.Fit) (hH0 : y.heat.l.length ≤ y.heat.c) :
    Calls Try.prog 9 #[x.v, y.v, .int .i64 k] w fun e w' => e = .returned (.bool true) ∧ Below w.heap.size w w' := by
  have hC := Lib.hid hC0
  clear hC0
  have hH := Lib.hid hH0
  clear hH0
  have hP := Lib.hid hP0
  have hQ := Lib.hid hQ0
  have hst0 := PX.start x y w
  have hsm := Lib.hid (fun W (h : RPb W x) => small_any x W h)
  have hbr := Lib.hid (fun W (h : RPn W y) => brief_any y W h)
  have haw := Lib.hid awake_any
  simp only [PbM.v, PnM.v]
  obtain ⟨W, hW⟩ : ∃ W, W = (w.alloc (.cells #[.slice x.buy.A x.buy.l.length x.buy.c, .slice x.sell.A x.sell.l.length x.sell.c, .int .i64 x.fuse, .slice x.solar.A x.solar.l.length x.solar.c, .slice x.demand.A x.demand.l.length x.demand.c, .slice x.outside.A x.outside.l.length x.outside.c, .int .i64 x.bat.cap, .int .i64 x.bat.reserve, .int .i64 x.bat.charge, .int .i64 x.bat.discharge, .int .i64 x.bat.eff, .int .i64 x.gain, .int .i64 x.loss, .int .i64 x.steps, .int .i64 x.power, .slice x.low.A x.low.l.length x.low.c, .slice x.high.A x.high.l.length x.high.c, .slice x.LA x.loads.length x.lc, .int .i64 x.level, .int .i64 x.temp] 31)).alloc (.cells #[.slice y.charge.A y.charge.l.length y.charge.c, .slice y.heat.A y.heat.l.length y.heat.c, .slice y.start.A y.start.l.length y.start.c] 37) := ⟨_, rfl⟩
  rw [show (w.alloc (.cells x.cs 31)).alloc (.cells y.cs 37) = W from hW.symm] at hst0
  have hst := Lib.hid hst0
  have hWH := Lib.hid hW
  clear hst0 hW hP0 hQ0
  cases qs : smallM x
  · rw [qs] at hsm
    go_enter Try.func9, Try.ntmps9
    go_upto_region 1 with fail
    rw [← hWH.out]
    clear hWH
    go_wp2_with (first | refine wpList_load_problem rfl _ rfl w.heap.size rfl x (hst.out).p ?_ | refine wpList_load_plan rfl _ rfl (w.heap.size + 1) rfl y (hst.out).q ?_)
    refine (hsm.out _ (hst.out.pr hP.out)).mono ?_
    rintro e w1 ⟨rfl, hb1⟩
    have HX1 := Lib.hid (hst.out.below hb1)
    clear hb1
    go_wp2_with fail
    refine (haw.out _).mono ?_
    rintro e w2 ⟨rfl, hb2⟩
    have HX2 := Lib.hid (HX1.out.below hb2)
    clear hb2
    go_wp2_with fail
    go_ret
    exact ⟨rfl, HX2.out.bel⟩
  · cases qb : briefM y
    · rw [qs] at hsm
      rw [qb] at hbr
      go_enter Try.func9, Try.ntmps9
      go_upto_region 1 with fail
      rw [← hWH.out]
      clear hWH
      go_wp2_with (first | refine wpList_load_problem rfl _ rfl w.heap.size rfl x (hst.out).p ?_ | refine wpList_load_plan rfl _ rfl (w.heap.size + 1) rfl y (hst.out).q ?_)
      refine (hsm.out _ (hst.out.pr hP.out)).mono ?_
      rintro e w1 ⟨rfl, hb1⟩
      have HX1 := Lib.hid (hst.out.below hb1)
      clear hb1 hst
      obtain ⟨q0, q1, q2⟩ := HX1.out.qc
      go_wp2_with fail
      refine (hbr.out _ (HX1.out.qr hQ.out)).mono ?_
      rintro e w2 ⟨rfl, hb2⟩
      have HX2 := Lib.hid (HX1.out.below hb2)
      clear q0 q1 q2
      clear hb2
      go_wp2_with fail
      refine (haw.out _).mono ?_
      rintro e w3 ⟨rfl, hb3⟩
      have HX3 := Lib.hid (HX2.out.below hb3)
      clear hb3
      go_wp2_with fail
      go_ret
      exact ⟨rfl, HX3.out.bel⟩
    · have HSM := Lib.hid qs
      have HBR := Lib.hid qb
      rw [qs] at hsm
      rw [qb] at hbr
      have hF := Lib.hid (fit_of qs hL0 hc0 hm0)
      have hG := Lib.hid hG0
      clear qs qb hL0 hc0 hm0 hG0
      go_enter Try.func9, Try.ntmps9
      go_upto_region 1 with fail
      rw [← hWH.out]
      clear hWH
      go_wp2_with (first | refine wpList_load_problem rfl _ rfl w.heap.size rfl x (hst.out).p ?_ | refine wpList_load_plan rfl _ rfl (w.heap.size + 1) rfl y (hst.out).q ?_)
      refine (hsm.out _ (hst.out.pr hP.out)).mono ?_
      rintro e w1 ⟨rfl, hb1⟩
      have HX1 := Lib.hid (hst.out.below hb1)
      clear hb1 hst
      obtain ⟨q0, q1, q2⟩ := HX1.out.qc
      go_wp2_with fail
      refine (hbr.out _ (HX1.out.qr hQ.out)).mono ?_
      rintro e w2 ⟨rfl, hb2⟩
      have HX2 := Lib.hid (HX1.out.below hb2)
      clear q0 q1 q2
      clear hb2 HX1 hsm hbr
      have hr0 := fun W (h : RPb W x) (h2 : RPn W y) => prun_any x y W h h2 hF.out hG.out
      by_cases he : x.p.err y.x = 0
      · rw [he] at hr0
        have hr1 := Lib.hid hr0
        by_cases hk : 0 ≤ k ∧ k < (x.buy.l.length : Int)
        · obtain ⟨k, rfl⟩ : ∃ n : Nat, k = (n : Int) := ⟨k.toNat, by omega⟩
          have hk : k < x.buy.l.length := by omega
          have hrs := Lib.hid (fun W (h : RPb W x) (h2 : RPn W y) => prest_ok x y k W h h2 hF.out hG.out hC.out he hk)
          have HRC := Lib.hid (Pb.rest_chk he hk)
          have HRE := Lib.hid (Pb.rest_err he hk)
          have HRT := Lib.hid (Pb.rest_trace he hk)
          have htl := Lib.hid (Pb.trace_ok he)
          obtain ⟨hck0, hfo0, -⟩ := Pb.err_zero he
          obtain ⟨hz1, hz2, hz3⟩ := Pb.sized_yes (Pb.form_good hfo0).1
          have HLC : Hid (y.charge.l.length = x.buy.l.length) := hz1
          have HLH : Hid (y.heat.l.length = x.buy.l.length) := hz2
          have HLS : Hid (y.start.l.length = x.loads.length) := hz3.trans (by simp [PbM.p])
          have HL1 : Hid (∀ tm : TrM, tm.x = x.p.trace y.x → tm.net.l.length = x.buy.l.length) := fun tm h => by
            rw [show tm.net.l = _ from congrArg Tr.net (h.trans htl.out)]; simp only [Pb.nets_len]; rfl
          have HN96 : Hid (x.buy.l.length ≤ 96) := (Pb.nbd (Pb.good hck0)).2
          have HFE := Lib.hid (fun j (hj : j < x.p.loads.length) => Pb.fit_each hfo0 hj)
          have HFT := Lib.hid hfo0
          have HTB : Hid (∀ l, -100000000000 ≤ x.p.t.total l ∧ x.p.t.total l ≤ 100000000000) := fun l => total_bd (Pb.good hck0).t l
          clear hr0 hck0 hfo0 hz1 hz2 hz3 he
          go_wp2_with (first | refine wpList_load_problem rfl _ rfl w.heap.size rfl x (HX2.out).p ?_ | refine wpList_load_plan rfl _ rfl (w.heap.size + 1) rfl y (HX2.out).q ?_)
          refine (hr1.out _ (HX2.out.pr hP.out) (HX2.out.qr hQ.out)).mono ?_
          rintro e w3 ⟨tm, htx, rfl, hrt, hbt⟩
          have HTX := Lib.hid htx
          simp only [TrM.v]
          clear htx
          go_upto_region 4 with fail
          obtain ⟨t7, ht⟩ : ∃ t, t = w3.heap.size := ⟨_, rfl⟩
          obtain ⟨v3, hv⟩ : ∃ v, v = w3.alloc (.cells #[.slice tm.net.A tm.net.l.length tm.net.c, .slice tm.level.A tm.level.l.length tm.level.c, .slice tm.temp.A tm.temp.l.length tm.temp.c, .int .i64 tm.cost] 40) := ⟨_, rfl⟩
          have HX3 : Hid (PX x y w v3) := by show PX _ _ _ _; rw [hv]; exact (HX2.out.below hbt).alloc _
          have HT3 : Hid (Blk v3 t7 40 #[.slice tm.net.A tm.net.l.length tm.net.c, .slice tm.level.A tm.level.l.length tm.level.c, .slice tm.temp.A tm.temp.l.length tm.temp.c, .int .i64 tm.cost]) := by show Blk _ _ _ _; rw [hv, ht]; exact Blk.new _ _ _
          have HR3 : Hid (RTr v3 tm) := by show RTr _ _; rw [hv]; exact hrt.below (below_al (Below.refl _ _))
          rw [← hv, ← ht]
          clear hv ht hbt hrt HX2
          have c0 := HX3.out.pc.1
          have k0 : ¬ (k : Int) < 0 := by omega
          have k1 : ¬ (x.buy.l.length : Int) ≤ (k : Int) := by omega
          go_upto_region 7 with fail
          clear c0
          go_wp2_with (first | refine wpList_load_problem rfl _ rfl w.heap.size rfl x (HX3.out).p ?_ | refine wpList_load_plan rfl _ rfl (w.heap.size + 1) rfl y (HX3.out).q ?_)
          refine (hrs.out _ (HX3.out.pr hP.out) (HX3.out.qr hQ.out)).mono ?_
          rintro e w4 ⟨m1, hxm1, rfl, hrm1, hcm1, hbm1⟩
          go_wp2_with (refine wpList_store_blk rfl 31 _ _ rfl w4.heap.size rfl m1.cs rfl (by kernel_rfl) (PbM.cs_one _) (Blk.new w4 _ _) rfl ?_)
          intro v4 hBm1 hgm1
          have hsm1 : Below w4.heap.size w4 v4 := ((Below.refl w4.heap.size w4).alloc (Nat.le_refl _) (.cells #[.slice none 0 0, .slice none 0 0, .int .i64 0, .slice none 0 0, .slice none 0 0, .slice none 0 0, .int .i64 0, .int .i64 0, .int .i64 0, .int .i64 0, .int .i64 0, .int .i64 0, .int .i64 0, .int .i64 0, .int .i64 0, .slice none 0 0, .slice none 0 0, .slice none 0 0, .int .i64 0, .int .i64 0] 31)).grown hgm1 (by simp) (fun k e => by injection e with e; omega)
          obtain ⟨t10, ht⟩ : ∃ t, t = w4.heap.size := ⟨_, rfl⟩
          rw [← ht] at hBm1
          go_upto_region 8 with fail
          rw [← ht]
          have HX4 : Hid (PX x y w v4) := (HX3.out.below hbm1).below hsm1
          have HM1 : Hid (RPb v4 m1) := hrm1.below hsm1
          have HQ4 : Hid (Blk v4 t10 31 m1.cs) := hBm1
          have HT4 : Hid (Blk v4 t7 40 #[.slice tm.net.A tm.net.l.length tm.net.c, .slice tm.level.A tm.level.l.length tm.level.c, .slice tm.temp.A tm.temp.l.length tm.temp.c, .int .i64 tm.cost]) := by
            have h := HT3.out.below hbm1 HT3.out.lt
            exact h.below hsm1 h.lt
          have HR4 : Hid (RTr v4 tm) := (HR3.out.below hbm1).below hsm1
          have HE1 : Hid (m1.p = x.p.rest y.x k) := hxm1
          have hfm : m1.Fit := fit_chk (by rw [hxm1]; exact HRC.out) hcm1
          have hck := fun W (h : RPb W m1) => pcheck_any m1 W h hfm
          rw [hxm1, HRC.out] at hck
          have HCK := Lib.hid hck
          have HFM := Lib.hid hfm
          clear ht hBm1 hgm1 hsm1 hrm1 hcm1 hbm1 hxm1 hck hfm HX3 HT3 HR3
          go_wp2_with (refine wpList_load_problemG (by rfl) _ rfl t10 rfl m1 HQ4.out ?_)
          refine (HCK.out _ HM1.out).mono ?_
          rintro e w5 ⟨rfl, hb5⟩
          have HX5 := Lib.hid (HX4.out.below hb5)
          have HM5 := Lib.hid (HM1.out.below hb5)
          have HQ5 := Lib.hid (HQ4.out.below hb5 HQ4.out.lt)
          have HT5 := Lib.hid (HT4.out.below hb5 HT4.out.lt)
          have HR5 := Lib.hid (HR4.out.below hb5)
          clear hb5 HX4 HM1 HQ4 HT4 HR4
          have z0 := HT5.out.cell 0
          simp at z0
          obtain ⟨q0, q1, q2⟩ := HX5.out.qc
          obtain ⟨-, -, -, -, -, -, -, -, -, -, -, -, -, -, -, -, -, c17, -, -⟩ := HX5.out.pc
          have e1 : ((tm.net.l.length : Int) != (x.buy.l.length : Int)) = false := by rw [bne_eq_false_iff_eq]; have := HL1.out tm HTX.out; omega
          have e2 : ((y.charge.l.length : Int) != (x.buy.l.length : Int)) = false := by rw [bne_eq_false_iff_eq]; have := HLC.out; omega
          have e3 : ((y.heat.l.length : Int) != (x.buy.l.length : Int)) = false := by rw [bne_eq_false_iff_eq]; have := HLH.out; omega
          have e4 : ((y.start.l.length : Int) != (x.loads.length : Int)) = false := by rw [bne_eq_false_iff_eq]; have := HLS.out; omega
          go_upto_region 10 with fail
          clear z0 c17 e1 e2 e3 e4
          have i1 : (0 : Int) ≤ (k : Int) := by omega
          have i2 : (k : Int) ≤ (y.charge.l.length : Int) := by have := HLC.out; omega
          have i3 : (k : Int) ≤ (y.heat.l.length : Int) := by have := HLH.out; omega
          have j2 : ¬ y.charge.c = k := by have := HLC.out; have := hG.out.cc; omega
          have j3 : ¬ y.heat.c = k := by have := HLH.out; have := hH.out; omega
          refine wp_region_held_drew (S := (fun w' => w'.cell? ⟨w.heap.size + 1, 0, none⟩ = some (.slice y.charge.A y.charge.l.length y.charge.c) ∧ w'.cell? ⟨w.heap.size + 1, 1, none⟩ = some (.slice y.heat.A y.heat.l.length y.heat.c))) (by kernel_rfl) ⟨q0, q1⟩ (fun hHeld => ?_)
          refine wpAnyH_take (i := 0) (v := ?_) rfl (by kernel_rfl) (by kernel_rfl) (by kernel_rfl) (fun _ _ _ h => h) (Or.inl ⟨by rfl, ?_⟩) (by assumption) ?_
          rotate_left
          · (intro w' hSw; (try dsimp only at hSw); go_simp; try with_reducible rfl)
          (try simp only [List.getElem_toArray, List.getElem_cons_zero, Act.put, List.setIfInBounds_toArray, List.set_cons_zero, List.set_cons_succ])
          refine wpAnyH_take (i := 1) (v := ?_) rfl (by kernel_rfl) (by kernel_rfl) (by kernel_rfl) (fun _ _ _ h => h) (Or.inl ⟨by rfl, ?_⟩) (by assumption) ?_
          rotate_left
          · (intro w' hSw; (try dsimp only at hSw); go_simp; try with_reducible rfl)
          (try simp only [List.getElem_toArray, List.getElem_cons_zero, List.getElem_cons_succ, Act.put, List.setIfInBounds_toArray, List.set_cons_zero, List.set_cons_succ])
          refine wpAnyH_take (i := 2) (v := ?_) rfl (by kernel_rfl) (by kernel_rfl) (by kernel_rfl) (fun _ _ _ h => h) (Or.inl ⟨by rfl, ?_⟩) (by assumption) ?_
          rotate_left
          · (intro w' hSw; (try dsimp only at hSw); go_simp; try with_reducible rfl)
          (try simp only [List.getElem_toArray, List.getElem_cons_zero, List.getElem_cons_succ, Act.put, List.setIfInBounds_toArray, List.set_cons_zero, List.set_cons_succ])
          refine wpAnyH_take (i := 3) (v := ?_) rfl (by kernel_rfl) (by kernel_rfl) (by kernel_rfl) (fun _ _ _ h => h) (Or.inl ⟨by rfl, ?_⟩) (by assumption) ?_
          rotate_left
          · (intro w' hSw; (try dsimp only at hSw); go_simp; try with_reducible rfl)
          (try simp only [List.getElem_toArray, List.getElem_cons_zero, List.getElem_cons_succ, Act.put, List.setIfInBounds_toArray, List.set_cons_zero, List.set_cons_succ])
          refine wpAnyH_take (i := 4) (v := ?_) rfl (by kernel_rfl) (by kernel_rfl) (by kernel_rfl) (fun _ _ _ h => h) (Or.inl ⟨by rfl, ?_⟩) (by assumption) ?_
          rotate_left
          · (intro w' hSw; (try dsimp only at hSw); go_simp; try with_reducible rfl)
          (try simp only [List.getElem_toArray, List.getElem_cons_zero, List.getElem_cons_succ, Act.put, List.setIfInBounds_toArray, List.set_cons_zero, List.set_cons_succ])
          refine wpAnyH_take (i := 5) (v := ?_) rfl (by kernel_rfl) (by kernel_rfl) (by kernel_rfl) (fun _ _ _ h => h) (Or.inl ⟨by rfl, ?_⟩) (by assumption) ?_
          rotate_left
          · (intro w' hSw; (try dsimp only at hSw); go_simp; try with_reducible rfl)
          (try simp only [List.getElem_toArray, List.getElem_cons_zero, List.getElem_cons_succ, Act.put, List.setIfInBounds_toArray, List.set_cons_zero, List.set_cons_succ])
          refine wpAnyH_take (i := 6) (v := ?_) rfl (by kernel_rfl) (by kernel_rfl) (by kernel_rfl) (fun _ _ _ h => h) (Or.inl ⟨by rfl, ?_⟩) (by assumption) ?_
          rotate_left
          · (intro w' hSw; (try dsimp only at hSw); go_simp; try with_reducible rfl)
          (try simp only [List.getElem_toArray, List.getElem_cons_zero, List.getElem_cons_succ, Act.put, List.setIfInBounds_toArray, List.set_cons_zero, List.set_cons_succ])
          refine wpAnyH_take (i := 7) (v := ?_) rfl (by kernel_rfl) (by kernel_rfl) (by kernel_rfl) (fun _ _ _ h => h) (Or.inl ⟨by rfl, ?_⟩) (by assumption) ?_
          rotate_left
          · (intro w' hSw; (try dsimp only at hSw); go_simp; try with_reducible rfl)
          (try simp only [List.getElem_toArray, List.getElem_cons_zero, List.getElem_cons_succ, Act.put, List.setIfInBounds_toArray, List.set_cons_zero, List.set_cons_succ])
          refine wpAnyH_take (i := 8) (v := ?_) rfl (by kernel_rfl) (by kernel_rfl) (by kernel_rfl) (fun _ _ _ h => h) (Or.inl ⟨by rfl, ?_⟩) (by assumption) ?_
          rotate_left
          · (intro w' hSw; (try dsimp only at hSw); go_simp; try with_reducible rfl)
          (try simp only [List.getElem_toArray, List.getElem_cons_zero, List.getElem_cons_succ, Act.put, List.setIfInBounds_toArray, List.set_cons_zero, List.set_cons_succ])
          refine wpAnyH_ready (rs := [9]) (by kernel_rfl) (by simp) ?_
          refine AllReadyH.cons rfl (fun K hK => ?_) AllReadyH.nil
          have HKK := Lib.hid hK
          clear hK
          go_simp
          refine HKK.out _ _ (⟨cell_alloc q0, cell_alloc q1⟩) (fun hH2 => ?_)
          clear HKK K
          replace hHeld := hH2
          clear hH2
          (try simp only [List.getElem_toArray, List.getElem_cons_zero, List.getElem_cons_succ, Act.put, List.setIfInBounds_toArray, List.set_cons_zero, List.set_cons_succ])
          refine wpAnyH_ready (rs := [10]) (by kernel_rfl) (by simp) ?_
          refine AllReadyH.cons rfl (fun K hK => ?_) AllReadyH.nil
          have HKK := Lib.hid hK
          clear hK
          go_simp
          refine HKK.out _ _ (⟨cell_alloc q0, cell_alloc q1⟩) (fun hH2 => ?_)
          clear HKK K
          replace hHeld := hH2
          clear hH2
          (try simp only [List.getElem_toArray, List.getElem_cons_zero, List.getElem_cons_succ, Act.put, List.setIfInBounds_toArray, List.set_cons_zero, List.set_cons_succ])
          refine wpAnyH_done (by kernel_rfl) ?_ _
          clear hHeld q0 q1 q2 i2 i3 j2 j3
          obtain ⟨t11, ht⟩ : ∃ t, t = w5.heap.size := ⟨_, rfl⟩
          obtain ⟨v6, hv⟩ : ∃ v, v = (w5.alloc (.cells #[.slice (y.charge.A.map (·.add k)) (y.charge.l.length - k) (y.charge.c - k), .slice (y.heat.A.map (·.add k)) (y.heat.l.length - k) (y.heat.c - k), .slice none 0 0] 37)).drew := ⟨_, rfl⟩
          have hb6 : Below w5.heap.size w5 v6 := by rw [hv]; exact Below.drew (below_al (Below.refl _ _))
          have HX6 := Lib.hid (HX5.out.below hb6)
          have HP6 : Hid (Blk v6 t11 37 #[.slice (y.charge.A.map (·.add k)) (y.charge.l.length - k) (y.charge.c - k), .slice (y.heat.A.map (·.add k)) (y.heat.l.length - k) (y.heat.c - k), .slice none 0 0]) := by
            have h : Blk (w5.alloc (.cells #[.slice (y.charge.A.map (·.add k)) (y.charge.l.length - k) (y.charge.c - k), .slice (y.heat.A.map (·.add k)) (y.heat.l.length - k) (y.heat.c - k), .slice none 0 0] 37)) w5.heap.size 37 #[.slice (y.charge.A.map (·.add k)) (y.charge.l.length - k) (y.charge.c - k), .slice (y.heat.A.map (·.add k)) (y.heat.l.length - k) (y.heat.c - k), .slice none 0 0] := Blk.new _ _ _
            show Blk _ _ _ _
            rw [hv, ht]
            exact h.below (Below.drew (Below.refl _ _)) h.lt
          have HG : Hid (w.heap.size + 2 ≤ t11 ∧ t7 < t11 ∧ t10 < t11 ∧ t11 < v6.heap.size) := by
            show _ ∧ _
            rw [ht]
            exact ⟨HX5.out.lt, HT5.out.lt, HQ5.out.lt, by rw [← ht]; exact HP6.out.lt⟩
          have HB6 : Hid (Below w5.heap.size w5 v6) := hb6
          have HT11 : Hid (t11 = w5.heap.size) := ht
          rw [← hv, ← ht]
          clear hv ht hb6
          obtain ⟨q0, q1, q2⟩ := HX6.out.qc
          obtain ⟨i0, hi, hz0, hz1, hz2⟩ := info_parts Try.infoInt
          go_upto_region 11 with fail
          go_wp2_with fail
          clear q0 q1 q2
          go_loopw [103] (fun s103 wr => ∃ (j : Nat) (v : Value), j ≤ y.start.l.length ∧ s103 = .int .i64 j ∧ Hid (v6.grownBy wr (some t11)) ∧ Hid (Blk wr t11 37 #[.slice (y.charge.A.map (·.add k)) (y.charge.l.length - k) (y.charge.c - k), .slice (y.heat.A.map (·.add k)) (y.heat.l.length - k) (y.heat.c - k), v]) ∧ Hid (wr.ownsRow v6.heap.size 3 1 v (x.p.later y.x k j).length (ints (x.p.later y.x k j))))
            (fun s103 _ => y.start.l.length - (intOf s103).toNat)
          case atStart => exact ⟨0, _, by omega, rfl, grown_refl _ _, HP6.out, World.ownsRow_nil _ _ _ _⟩
          case round =>
            obtain ⟨j, v, hj, rfl, hGB, hPv, hown⟩ := hrel
            obtain ⟨wo, hwo⟩ : ∃ wo : World, wo = wr := ⟨_, rfl⟩
            subst hwo
            have hbw : Below (w.heap.size + 2) v6 wo := (Below.refl (w.heap.size + 2) v6).grown hGB.out HX6.out.lt (fun k e => by injection e with e; have := HG.out.1; omega)
            have HXo := Lib.hid (HX6.out.above hbw (Nat.le_refl _))
            clear hbw
            by_cases hlt : j < y.start.l.length
            · have hjl : j < x.loads.length := by have := HLS.out; omega
              obtain ⟨b, of, hAe, _, -, y1, -, -⟩ := (HXo.out.pr hP.out).loads.at' hjl
              obtain ⟨bs, os, hSe, _, s0⟩ := (HXo.out.qr hQ.out).start.at' hlt
              obtain ⟨-, -, -, -, -, -, -, -, -, -, -, -, -, -, -, -, -, c17, -, -⟩ := HXo.out.pc
              rw [hAe] at c17
              have e1 : x.p.loads.getD j Ld.zero = x.loads[j].r := by simp [PbM.p, List.getD, hjl]
              have e2 : y.x.start.getD j 0 = y.start.l[j] := by simp [PnM.x, List.getD, hlt]
              have hfe := HFE.out j (by simp [PbM.p]; omega)
              have hlat : x.p.later y.x k (j + 1) = if (k : Int) < y.start.l[j] + (x.loads[j].r.prof.length : Int) then x.p.later y.x k j ++ [laterZ y.start.l[j] k] else x.p.later y.x k j := by rw [Pb.later, e1, e2]
              rw [e1, e2] at hfe
              simp only [Ld.fit, Bool.and_eq_true, decide_eq_true_iff] at hfe
              have g := Ld.good hfe.1
              have g1 := g.e0; have g2 := g.l1; have g3 := g.n1; have g4 := g.p1; have g5 := hfe.2.1; have g6 := hfe.2.2
              rw [hSe]
              have HLAT := Lib.hid hlat
              have hn96 := HN96.out
              have hl6 : y.start.l.length ≤ 6 := by have := (smallM_true HSM.out).1; have := HLS.out; omega
              have HLJ : Hid ((x.p.later y.x k j).length ≤ j) := by
                have h1 := Pb.later_len HFT.out hk (j := j) (by show j ≤ (x.loads.map LdM.r).length; rw [List.length_map]; omega)
                have h2 := Pb.lefts_len x.p y.x k j
                show _ ≤ _
                omega
              have i2 : (0 : Int) ≤ (j : Int) := by omega
              have i3 : (j : Int) < (y.start.l.length : Int) := by omega
              have i4 : (j : Int) < (x.loads.length : Int) := by omega
              clear hAe hSe e1 e2 hlat hfe g
              generalize x.loads[j] = X at *
              generalize y.start.l[j] = s at *
              have a1 : IntKind.i64.wrap (s + (X.r.prof.length : Int)) = s + (X.r.prof.length : Int) := IntWalk.i64_in _ (by omega)
              have a2 : IntKind.i64.wrap (s - (k : Int)) = s - (k : Int) := IntWalk.i64_in _ (by omega)
              clear g1 g2 g3 g4 g5 g6
              by_cases hc : (k : Int) < s + (X.r.prof.length : Int)
              · have HS2 : Hid (x.p.later y.x k (j + 1) = x.p.later y.x k j ++ [laterZ s k]) := by show _ = _; rw [HLAT.out, if_pos hc]
                obtain ⟨A3, c3, rfl⟩ := own_form hown.out
                have hp2 := hPv.out.cell 2
                have hpf := hPv.out.frozen 2
                simp at hp2
                have hlj := HLJ.out
                have HOW := Lib.hid hown.out
                have HBS : Hid (v6.heap.size ≤ wo.heap.size) := hGB.out.size
                have hgs := HG.out.2.2.2
                generalize x.p.later y.x k j = L at *
                have gne : (Value.slice A3 L.length c3).ownBlock ≠ some t11 := fun e => by have h1 := (hown.out.lt t11 e).1; omega
                have hvf : ∀ k, (Value.slice A3 L.length c3).ownBlock = some k → v6.heap.size ≤ k := fun k e => (hown.out.lt k e).1
                have GNE := Lib.hid gne
                have HVF := Lib.hid hvf
                clear gne hvf hgs
                by_cases hm : (0 : Int) < s - (k : Int)
                · have hm2 : laterZ s k = s - k := by unfold laterZ; split <;> omega
                  have HM2 := Lib.hid hm2
                  have hm3 : (k : Int) < s := by omega
                  clear hm2
                  go_wp2_with (at_builtin; refine wpList_append_newGH _ wo wo.heap.size rfl rfl _ _ 22 rfl v6.heap.size 3 i0 (.int .i64 0) 1 8 Try.underlying22 hi hz0 hz1 hz2 rfl (by decide) (by decide) _ L.length (ints L) rfl HOW.out #[.int .i64 (s - k)] rfl (one_int _ _) rfl rfl (by omega) HBS.out ?_)
                  intro v' w' hown' hg' hv'
                  obtain ⟨A4, c4, rfl⟩ := own_form hown'
                  have hQ9 := hPv.out.grown hg' (fun e => GNE.out e.symm)
                  have hG9 := grown_then hGB.out hg' HVF.out
                  have r2 := hQ9.cell 2
                  have rf := hQ9.frozen 2
                  simp at r2
                  have hS9 := hQ9.set_ 2 (.slice A4 (L.length + 1) c4)
                  simp at hS9
                  have HS9 := Lib.hid hS9
                  have HG9 := Lib.hid (only_setCell (p := ⟨t11, 2, none⟩) hG9 (.inl rfl) (.slice A4 (L.length + 1) c4))
                  have HO9 : Hid ((w'.setCell ⟨t11, 2, none⟩ (.slice A4 (L.length + 1) c4)).ownsRow v6.heap.size 3 1 (.slice A4 (L.length + 1) c4) (L.length + 1) (ints (L ++ [laterZ s k]))) := by
                    show World.ownsRow _ _ _ _ _ _ _
                    rw [ints_append, HM2.out]
                    exact own_setCell hown' (p := ⟨t11, 2, none⟩) HG.out.2.2.2 _
                  clear hQ9 hS9 hG9 hown' hg' hv' hp2 hpf
                  go_wp2_with fail
                  go_roundw
                  case rel => exact ⟨j + 1, _, by omega, by go_num, HG9.out, HS9, (by show World.ownsRow _ _ _ _ _ _ _; rw [HS2.out, List.length_append]; exact HO9.out)⟩
                  case measure => simp [intOf]; omega
                · have hm2 : laterZ s k = 0 := by unfold laterZ; split <;> omega
                  have HM2 := Lib.hid hm2
                  have hm3 : ¬ (k : Int) < s := by omega
                  clear hm2
                  go_wp2_with (at_builtin; refine wpList_append_newGH _ wo wo.heap.size rfl rfl _ _ 22 rfl v6.heap.size 3 i0 (.int .i64 0) 1 8 Try.underlying22 hi hz0 hz1 hz2 rfl (by decide) (by decide) _ L.length (ints L) rfl HOW.out #[.int .i64 0] rfl (one_int _ _) rfl rfl (by omega) HBS.out ?_)
                  intro v' w' hown' hg' hv'
                  obtain ⟨A4, c4, rfl⟩ := own_form hown'
                  have hQ9 := hPv.out.grown hg' (fun e => GNE.out e.symm)
                  have hG9 := grown_then hGB.out hg' HVF.out
                  have r2 := hQ9.cell 2
                  have rf := hQ9.frozen 2
                  simp at r2
                  have hS9 := hQ9.set_ 2 (.slice A4 (L.length + 1) c4)
                  simp at hS9
                  have HS9 := Lib.hid hS9
                  have HG9 := Lib.hid (only_setCell (p := ⟨t11, 2, none⟩) hG9 (.inl rfl) (.slice A4 (L.length + 1) c4))
                  have HO9 : Hid ((w'.setCell ⟨t11, 2, none⟩ (.slice A4 (L.length + 1) c4)).ownsRow v6.heap.size 3 1 (.slice A4 (L.length + 1) c4) (L.length + 1) (ints (L ++ [laterZ s k]))) := by
                    show World.ownsRow _ _ _ _ _ _ _
                    rw [ints_append, HM2.out]
                    exact own_setCell hown' (p := ⟨t11, 2, none⟩) HG.out.2.2.2 _
                  clear hQ9 hS9 hG9 hown' hg' hv' hp2 hpf
                  go_wp2_with fail
                  go_roundw
                  case rel => exact ⟨j + 1, _, by omega, by go_num, HG9.out, HS9, (by show World.ownsRow _ _ _ _ _ _ _; rw [HS2.out, List.length_append]; exact HO9.out)⟩
                  case measure => simp [intOf]; omega
              · have HS2 : Hid (x.p.later y.x k (j + 1) = x.p.later y.x k j) := by show _ = _; rw [HLAT.out, if_neg hc]
                have hc2 : s + (X.r.prof.length : Int) ≤ (k : Int) := by omega
                go_wp2_with fail
                go_roundw
                case rel => exact ⟨j + 1, v, by omega, by go_num, hGB.out, hPv.out, (by show World.ownsRow _ _ _ _ _ _ _; rw [HS2.out]; exact hown.out)⟩
                case measure => simp [intOf]; omega
            · have hjl : j = x.p.loads.length := by
                have h1 := HLS.out
                have h2 : x.p.loads.length = x.loads.length := by simp [PbM.p]
                omega
              have i3 : ¬ (j : Int) < (y.start.l.length : Int) := by omega
              obtain ⟨A3, c3, rfl⟩ := own_form hown.out
              have hbo : Below w5.heap.size w5 wo := HB6.out.grown hGB.out HB6.out.size (fun k e => by injection e with e; have := HT11.out; omega)
              have HXp := Lib.hid (HX5.out.below hbo)
              have HMp := Lib.hid (HM5.out.below hbo)
              have HQp := Lib.hid (HQ5.out.below hbo HQ5.out.lt)
              have HTp := Lib.hid (HT5.out.below hbo HT5.out.lt)
              have HRp := Lib.hid (HR5.out.below hbo)
              have HSR : Hid (RInts wo A3 (x.p.later y.x k j)) := by
                show RInts _ _ _
                unfold RInts
                exact Reads.of_own hown.out
              have HSC : Hid ((x.p.later y.x k j).length ≤ c3) := own_cap hown.out
              have HLB : Hid (∀ z ∈ x.p.later y.x k j, -9223372036854775808 ≤ z ∧ z ≤ 9223372036854775807) := by
                intro z hz
                rw [hjl, List.mem_iff_getElem] at hz
                obtain ⟨i, hi2, rfl⟩ := hz
                have h1 := Pb.later_len HFT.out hk (Nat.le_refl x.p.loads.length)
                have h2 := Pb.later_fits HFT.out hk (Nat.le_refl x.p.loads.length) i (by omega)
                rw [show (x.p.later y.x k x.p.loads.length).getD i 0 = (x.p.later y.x k x.p.loads.length)[i] by simp [List.getD, hi2]] at h2
                simp only [Ld.fit, Bool.and_eq_true, decide_eq_true_iff] at h2
                have g := Ld.good h2.1
                have g1 := g.e0; have g2 := g.l1; have g3 := g.n1
                omega
              obtain ⟨y2, hy2⟩ : ∃ y2 : PnM, y2 = ⟨⟨y.charge.A.map (·.add k), y.charge.c - k, y.charge.l.drop k⟩, ⟨y.heat.A.map (·.add k), y.heat.c - k, y.heat.l.drop k⟩, ⟨A3, c3, x.p.later y.x k j⟩⟩ := ⟨_, rfl⟩
              have HY2 : Hid (Blk wo t11 37 y2.cs) := by show Blk _ _ _ _; rw [hy2]; simpa [PnM.cs] using hPv.out
              have HYX : Hid (y2.x = Pn.rest x.p y.x k) := by show _ = _; rw [hy2, hjl]; rfl
              have HYR : Hid (RPn wo y2) := by
                have k1 : ¬ y.charge.c = k := by have := HLC.out; have := hG.out.cc; omega
                have k2 : ¬ y.heat.c = k := by have := HLH.out; have := hH.out; omega
                have h1 := RInts.cut (HXp.out.qr hQ.out).charge (k := k) (cap := y.charge.c) (by have := HLC.out; omega) hG.out.cc
                have h2 := RInts.cut (HXp.out.qr hQ.out).heat (k := k) (cap := y.heat.c) (by have := HLH.out; omega) hH.out
                rw [if_neg k1] at h1
                rw [if_neg k2] at h2
                rw [hy2]
                exact ⟨h1, h2, HSR.out⟩
              have HYF : Hid y2.Fit := by
                rw [hy2]
                refine ⟨?_, HSC.out, HLB.out, ?_⟩
                · show (y.charge.l.drop k).length ≤ y.charge.c - k
                  have := hG.out.cc
                  rw [List.length_drop]; omega
                · intro s hs
                  exact hG.out.ch s (List.mem_of_mem_drop hs)
              clear hbo hy2 HSR HSC HLB hjl hj hown hPv hGB HXo hi hz0 hz1 hz2
              have hru := fun W (h : RPb W m1) (h2 : RPn W y2) => prun_any m1 y2 W h h2 HFM.out HYF.out
              rw [HE1.out, HYX.out, HRE.out, HRT.out] at hru
              have HRU := Lib.hid hru
              clear hru
              go_upto_region 17 with fail
              go_wp2_with (first | refine wpList_load_problem rfl _ rfl t10 rfl m1 HQp.out ?_ | refine wpList_load_plan rfl _ rfl t11 rfl y2 HY2.out ?_)
              refine (HRU.out _ HMp.out HYR.out).mono ?_
              rintro e w7 ⟨tm2, htx2, rfl, hrt2, hbt2⟩
              have HTX2 := Lib.hid htx2
              simp only [TrM.v]
              clear htx2
              go_upto_region 18 with fail
              obtain ⟨t14, ht⟩ : ∃ t, t = w7.heap.size := ⟨_, rfl⟩
              obtain ⟨v7, hv⟩ : ∃ v, v = w7.alloc (.cells #[.slice tm2.net.A tm2.net.l.length tm2.net.c, .slice tm2.level.A tm2.level.l.length tm2.level.c, .slice tm2.temp.A tm2.temp.l.length tm2.temp.c, .int .i64 tm2.cost] 40) := ⟨_, rfl⟩
              have HX7 : Hid (PX x y w v7) := by show PX _ _ _ _; rw [hv]; exact (HXp.out.below hbt2).alloc _
              have HT7 : Hid (Blk v7 t7 40 #[.slice tm.net.A tm.net.l.length tm.net.c, .slice tm.level.A tm.level.l.length tm.level.c, .slice tm.temp.A tm.temp.l.length tm.temp.c, .int .i64 tm.cost]) := by show Blk _ _ _ _; rw [hv]; exact (HTp.out.below hbt2 HTp.out.lt).alloc _
              have HT14 : Hid (Blk v7 t14 40 #[.slice tm2.net.A tm2.net.l.length tm2.net.c, .slice tm2.level.A tm2.level.l.length tm2.level.c, .slice tm2.temp.A tm2.temp.l.length tm2.temp.c, .int .i64 tm2.cost]) := by show Blk _ _ _ _; rw [hv, ht]; exact Blk.new _ _ _
              have HR7 : Hid (RTr v7 tm) := by show RTr _ _; rw [hv]; exact (HRp.out.below hbt2).below (below_al (Below.refl _ _))
              have HR14 : Hid (RTr v7 tm2) := by show RTr _ _; rw [hv]; exact hrt2.below (below_al (Below.refl _ _))
              rw [← hv, ← ht]
              clear hv ht hbt2 hrt2 HXp HMp HQp HTp HRp HY2 HYR
              have l1 : tm.net.l.length = x.buy.l.length := HL1.out tm HTX.out
              have l2 : tm.level.l.length = x.buy.l.length := by rw [show tm.level.l = _ from congrArg Tr.level (HTX.out.trans htl.out)]; simp only [Pb.levels_len]; rfl
              have l3 : tm.temp.l.length = x.buy.l.length := by rw [show tm.temp.l = _ from congrArg Tr.temp (HTX.out.trans htl.out)]; simp only [Pb.temps_len]; rfl
              have z1 := HT7.out.cell 1
              have z2 := HT7.out.cell 2
              simp at z1 z2
              have e1 : ((tm.level.l.length : Int) != (x.buy.l.length : Int)) = false := by rw [bne_eq_false_iff_eq]; omega
              have e2 : ((tm.temp.l.length : Int) != (x.buy.l.length : Int)) = false := by rw [bne_eq_false_iff_eq]; omega
              go_upto_region 20 with fail
              clear z1 z2 e1 e2
              have z0 := HT7.out.cell 0
              simp at z0
              obtain ⟨c0, c1, c2, -, -, -, -, -, -, -, -, -, -, -, -, -, -, -, -, -⟩ := HX7.out.pc
              have i4 : (k : Int) ≤ (tm.net.l.length : Int) := by omega
              have j4 : (k : Int) ≤ (tm.net.c : Int) := by have := HR7.out.nc; omega
              have ht0 : ∀ W, RPb W x → RInts W tm.net.A tm.net.l → Calls Try.prog 26 #[.agg #[.slice x.buy.A x.buy.l.length x.buy.c, .slice x.sell.A x.sell.l.length x.sell.c, .int .i64 x.fuse], .slice tm.net.A k tm.net.c] W (fun e w' => e = .returned (.int .i64 (x.p.t.total (tm.net.l.take k))) ∧ Below W.heap.size W w') := fun W hp h => by
                have h1 := total_any x.t x.buy.A x.sell.A tm.net.A x.buy.c x.sell.c tm.net.c (tm.net.l.take k) W hp.buy hp.sell (h.take2 k) (by rw [List.length_take]; have := HR7.out.nc; omega)
                rw [List.length_take, Nat.min_eq_left (by omega)] at h1
                exact h1
              have HTO := Lib.hid ht0
              clear ht0
              refine wp_region_held_drew (S := (fun w' => Below v7.heap.size v7 w' ∧ w'.cell? ⟨w.heap.size, 0, none⟩ = some (.slice x.buy.A x.buy.l.length x.buy.c) ∧ w'.cell? ⟨w.heap.size, 1, none⟩ = some (.slice x.sell.A x.sell.l.length x.sell.c) ∧ w'.cell? ⟨w.heap.size, 2, none⟩ = some (.int .i64 x.fuse) ∧ w'.cell? ⟨t7, 0, none⟩ = some (.slice tm.net.A tm.net.l.length tm.net.c))) (by kernel_rfl) ⟨Below.drew (Below.refl _ _), c0, c1, c2, z0⟩ (fun hHeld => ?_)
              refine wpAnyH_take (i := 0) (v := ?_) rfl (by kernel_rfl) (by kernel_rfl) (by kernel_rfl) (fun _ _ _ h => h) (Or.inl ⟨by rfl, ?_⟩) (by assumption) ?_
              rotate_left
              · (intro w' hSw; (try dsimp only at hSw); go_simp; try with_reducible rfl)
              (try simp only [List.getElem_toArray, List.getElem_cons_zero, Act.put, List.setIfInBounds_toArray, List.set_cons_zero, List.set_cons_succ])
              refine wpAnyH_take (i := 1) (v := ?_) rfl (by kernel_rfl) (by kernel_rfl) (by kernel_rfl) (fun _ _ _ h => h) (Or.inl ⟨by rfl, ?_⟩) (by assumption) ?_
              rotate_left
              · (intro w' hSw; (try dsimp only at hSw); go_simp; try with_reducible rfl)
              (try simp only [List.getElem_toArray, List.getElem_cons_zero, List.getElem_cons_succ, Act.put, List.setIfInBounds_toArray, List.set_cons_zero, List.set_cons_succ])
              refine wpAnyH_take (i := 2) (v := ?_) rfl (by kernel_rfl) (by kernel_rfl) (by kernel_rfl) (fun _ _ _ h => h) (Or.inl ⟨by rfl, ?_⟩) (by assumption) ?_
              rotate_left
              · (intro w' hSw; (try dsimp only at hSw); go_simp; try with_reducible rfl)
              (try simp only [List.getElem_toArray, List.getElem_cons_zero, List.getElem_cons_succ, Act.put, List.setIfInBounds_toArray, List.set_cons_zero, List.set_cons_succ])
              refine wpAnyH_take (i := 3) (v := ?_) rfl (by kernel_rfl) (by kernel_rfl) (by kernel_rfl) (fun _ _ _ h => h) (Or.inl ⟨by rfl, ?_⟩) (by assumption) ?_
              rotate_left
              · (intro w' hSw; (try dsimp only at hSw); go_simp; try with_reducible rfl)
              (try simp only [List.getElem_toArray, List.getElem_cons_zero, List.getElem_cons_succ, Act.put, List.setIfInBounds_toArray, List.set_cons_zero, List.set_cons_succ])
              refine wpAnyH_take (i := 4) (v := ?_) rfl (by kernel_rfl) (by kernel_rfl) (by kernel_rfl) (fun _ _ _ h => h) (Or.inl ⟨by rfl, ?_⟩) (by assumption) ?_
              rotate_left
              · (intro w' hSw; (try dsimp only at hSw); go_simp; try with_reducible rfl)
              (try simp only [List.getElem_toArray, List.getElem_cons_zero, List.getElem_cons_succ, Act.put, List.setIfInBounds_toArray, List.set_cons_zero, List.set_cons_succ])
              refine wpAnyH_take (i := 5) (v := ?_) rfl (by kernel_rfl) (by kernel_rfl) (by kernel_rfl) (fun _ _ _ h => h) (Or.inl ⟨by rfl, ?_⟩) (by assumption) ?_
              rotate_left
              · (intro w' hSw; (try dsimp only at hSw); go_simp; try with_reducible rfl)
              (try simp only [List.getElem_toArray, List.getElem_cons_zero, List.getElem_cons_succ, Act.put, List.setIfInBounds_toArray, List.set_cons_zero, List.set_cons_succ])
              refine wpAnyH_ready (rs := [6]) (by kernel_rfl) (by simp) ?_
              refine AllReadyH.cons rfl (fun K hK => ?_) AllReadyH.nil
              have HKK := Lib.hid hK
              clear hK
              go_simp
              refine (HTO.out _ ((HX7.out.below hHeld.1).pr hP.out) (HR7.out.below hHeld.1).net).mono ?_
              rintro e' w8 ⟨rfl, hb8⟩
              have hB8 := below_tr hHeld.1 hb8
              go_wp2_with fail
              refine HKK.out _ _ (⟨hB8, cell_below c0 hB8, cell_below c1 hB8, cell_below c2 hB8, cell_below z0 hB8⟩) (fun hH2 => ?_)
              clear HKK K
              replace hHeld := hH2
              clear hH2
              (try simp only [List.getElem_toArray, List.getElem_cons_zero, List.getElem_cons_succ, Act.put, List.setIfInBounds_toArray, List.set_cons_zero, List.set_cons_succ])
              refine wpAnyH_take (i := 7) (v := ?_) rfl (by kernel_rfl) (by kernel_rfl) (by kernel_rfl) (fun _ _ _ h => h) (Or.inl ⟨by rfl, ?_⟩) (by assumption) ?_
              rotate_left
              · (intro w' hSw; (try dsimp only at hSw); go_simp; try with_reducible rfl)
              (try simp only [List.getElem_toArray, List.getElem_cons_zero, List.getElem_cons_succ, Act.put, List.setIfInBounds_toArray, List.set_cons_zero, List.set_cons_succ])
              refine wpAnyH_done (by kernel_rfl) ?_ _
              have HX8 := Lib.hid (HX7.out.below hB8)
              have HT8 := Lib.hid (HT7.out.below hB8 HT7.out.lt)
              have HT15 := Lib.hid (HT14.out.below hB8 HT14.out.lt)
              have HR8 := Lib.hid (HR7.out.below hB8)
              have HR15 := Lib.hid (HR14.out.below hB8)
              clear hHeld z0 c0 c1 c2 i4 j4 hB8 hb8 HX7 HT7 HT14 HR7 HR14
              go_upto_region 21 with fail
              have z0 := HT8.out.cell 0
              have z1 := HT8.out.cell 1
              have z2 := HT8.out.cell 2
              have z3 := HT8.out.cell 3
              have y0 := HT15.out.cell 0
              have y1 := HT15.out.cell 1
              have y2c := HT15.out.cell 2
              have y3 := HT15.out.cell 3
              simp at z0 z1 z2 z3 y0 y1 y2c y3
              obtain ⟨bf, hbf⟩ : ∃ b, b = x.p.t.total (tm.net.l.take k) := ⟨_, rfl⟩
              have HBF : Hid (bf = x.p.t.total (tm.net.l.take k)) := hbf
              have a3 : IntKind.i64.wrap (tm.cost - bf) = tm.cost - bf := by
                have h1 := HTB.out (tm.net.l.take k)
                have h2 : tm.cost = x.p.t.total (x.p.nets y.x x.p.n) := congrArg Tr.cost (HTX.out.trans htl.out)
                have h3 := HTB.out (x.p.nets y.x x.p.n)
                rw [← h2] at h3
                rw [← hbf] at h1
                exact IntWalk.i64_in _ (by omega)
              have m1n : ¬ tm.net.c = k := by have := HR8.out.nc; omega
              have m2n : ¬ tm.level.c = k := by have := HR8.out.lc; omega
              have m3n : ¬ tm.temp.c = k := by have := HR8.out.tc; omega
              have i1n : (k : Int) ≤ (tm.net.l.length : Int) := by omega
              have i2n : (k : Int) ≤ (tm.level.l.length : Int) := by omega
              have i3n : (k : Int) ≤ (tm.temp.l.length : Int) := by omega
              have hsa : ∀ W, Below w8.heap.size w8 W → Calls Try.prog 19 #[.agg #[.slice tm2.net.A tm2.net.l.length tm2.net.c, .slice tm2.level.A tm2.level.l.length tm2.level.c, .slice tm2.temp.A tm2.temp.l.length tm2.temp.c, .int .i64 tm2.cost], .agg #[.slice (tm.net.A.map (·.add k)) (tm.net.l.length - k) (tm.net.c - k), .slice (tm.level.A.map (·.add k)) (tm.level.l.length - k) (tm.level.c - k), .slice (tm.temp.A.map (·.add k)) (tm.temp.l.length - k) (tm.temp.c - k), .int .i64 (tm.cost - bf)]] W (fun e w' => e = .returned (.bool true) ∧ Below W.heap.size W w') := fun W hb => by
                have hr := HR8.out.below hb
                have hr2 := HR15.out.below hb
                have g1 := RInts.cut hr.net (k := k) (cap := tm.net.c) (by omega) hr.nc
                have g2 := RInts.cut hr.level (k := k) (cap := tm.level.c) (by omega) hr.lc
                have g3 := RInts.cut hr.temp (k := k) (cap := tm.temp.c) (by omega) hr.tc
                rw [if_neg m1n] at g1
                rw [if_neg m2n] at g2
                rw [if_neg m3n] at g3
                have hrt3 : RTr W ⟨⟨tm.net.A.map (·.add k), tm.net.c - k, tm.net.l.drop k⟩, ⟨tm.level.A.map (·.add k), tm.level.c - k, tm.level.l.drop k⟩, ⟨tm.temp.A.map (·.add k), tm.temp.c - k, tm.temp.l.drop k⟩, tm.cost - bf⟩ :=
                  ⟨g1, g2, g3, by show (tm.net.l.drop k).length ≤ tm.net.c - k; rw [List.length_drop]; have := hr.nc; omega, by show (tm.level.l.drop k).length ≤ tm.level.c - k; rw [List.length_drop]; have := hr.lc; omega, by show (tm.temp.l.drop k).length ≤ tm.temp.c - k; rw [List.length_drop]; have := hr.tc; omega⟩
                have hx2 : tm2.x = ⟨tm.net.l.drop k, tm.level.l.drop k, tm.temp.l.drop k, tm.cost - bf⟩ := by
                  have h1 := HTX2.out
                  rw [← HTX.out] at h1
                  rw [h1, HBF.out]
                  rfl
                have hn : tm2.net.l.length ≤ 96 ∧ tm2.level.l.length ≤ 96 ∧ tm2.temp.l.length ≤ 96 := by
                  have h1 : tm2.net.l = tm.net.l.drop k := congrArg Tr.net hx2
                  have h2 : tm2.level.l = tm.level.l.drop k := congrArg Tr.level hx2
                  have h3 : tm2.temp.l = tm.temp.l.drop k := congrArg Tr.temp hx2
                  have := HN96.out
                  rw [h1, h2, h3, List.length_drop, List.length_drop, List.length_drop]
                  omega
                have h := sametrace_true tm2 _ W hr2 hrt3 hx2 (by omega) (by omega) (by omega)
                simp only [TrM.v, List.length_drop] at h
                exact h
              have HSA := Lib.hid hsa
              rw [← hbf]
              clear hsa hbf l1 l2 l3
              refine wp_region_held_drew (S := (fun w' => Below w8.heap.size w8 w' ∧ w'.cell? ⟨t7, 0, none⟩ = some (.slice tm.net.A tm.net.l.length tm.net.c) ∧ w'.cell? ⟨t7, 1, none⟩ = some (.slice tm.level.A tm.level.l.length tm.level.c) ∧ w'.cell? ⟨t7, 2, none⟩ = some (.slice tm.temp.A tm.temp.l.length tm.temp.c) ∧ w'.cell? ⟨t7, 3, none⟩ = some (.int .i64 tm.cost) ∧ w'.cell? ⟨t14, 0, none⟩ = some (.slice tm2.net.A tm2.net.l.length tm2.net.c) ∧ w'.cell? ⟨t14, 1, none⟩ = some (.slice tm2.level.A tm2.level.l.length tm2.level.c) ∧ w'.cell? ⟨t14, 2, none⟩ = some (.slice tm2.temp.A tm2.temp.l.length tm2.temp.c) ∧ w'.cell? ⟨t14, 3, none⟩ = some (.int .i64 tm2.cost))) (by kernel_rfl) ⟨Below.drew (Below.refl _ _), z0, z1, z2, z3, y0, y1, y2c, y3⟩ (fun hHeld => ?_)
              refine wpAnyH_take (i := 0) (v := ?_) rfl (by kernel_rfl) (by kernel_rfl) (by kernel_rfl) (fun _ _ _ h => h) (Or.inl ⟨by rfl, ?_⟩) (by assumption) ?_
              rotate_left
              · (intro w' hSw; (try dsimp only at hSw); go_simp; try with_reducible rfl)
              (try simp only [List.getElem_toArray, List.getElem_cons_zero, Act.put, List.setIfInBounds_toArray, List.set_cons_zero, List.set_cons_succ])
              refine wpAnyH_take (i := 1) (v := ?_) rfl (by kernel_rfl) (by kernel_rfl) (by kernel_rfl) (fun _ _ _ h => h) (Or.inl ⟨by rfl, ?_⟩) (by assumption) ?_
              rotate_left
              · (intro w' hSw; (try dsimp only at hSw); go_simp; try with_reducible rfl)
              (try simp only [List.getElem_toArray, List.getElem_cons_zero, List.getElem_cons_succ, Act.put, List.setIfInBounds_toArray, List.set_cons_zero, List.set_cons_succ])
              refine wpAnyH_take (i := 2) (v := ?_) rfl (by kernel_rfl) (by kernel_rfl) (by kernel_rfl) (fun _ _ _ h => h) (Or.inl ⟨by rfl, ?_⟩) (by assumption) ?_
              rotate_left
              · (intro w' hSw; (try dsimp only at hSw); go_simp; try with_reducible rfl)
              (try simp only [List.getElem_toArray, List.getElem_cons_zero, List.getElem_cons_succ, Act.put, List.setIfInBounds_toArray, List.set_cons_zero, List.set_cons_succ])
              refine wpAnyH_take (i := 3) (v := ?_) rfl (by kernel_rfl) (by kernel_rfl) (by kernel_rfl) (fun _ _ _ h => h) (Or.inl ⟨by rfl, ?_⟩) (by assumption) ?_
              rotate_left
              · (intro w' hSw; (try dsimp only at hSw); go_simp; try with_reducible rfl)
              (try simp only [List.getElem_toArray, List.getElem_cons_zero, List.getElem_cons_succ, Act.put, List.setIfInBounds_toArray, List.set_cons_zero, List.set_cons_succ])
              refine wpAnyH_take (i := 4) (v := ?_) rfl (by kernel_rfl) (by kernel_rfl) (by kernel_rfl) (fun _ _ _ h => h) (Or.inl ⟨by rfl, ?_⟩) (by assumption) ?_
              rotate_left
              · (intro w' hSw; (try dsimp only at hSw); go_simp; try with_reducible rfl)
              (try simp only [List.getElem_toArray, List.getElem_cons_zero, List.getElem_cons_succ, Act.put, List.setIfInBounds_toArray, List.set_cons_zero, List.set_cons_succ])
              refine wpAnyH_take (i := 5) (v := ?_) rfl (by kernel_rfl) (by kernel_rfl) (by kernel_rfl) (fun _ _ _ h => h) (Or.inl ⟨by rfl, ?_⟩) (by assumption) ?_
              rotate_left
              · (intro w' hSw; (try dsimp only at hSw); go_simp; try with_reducible rfl)
              (try simp only [List.getElem_toArray, List.getElem_cons_zero, List.getElem_cons_succ, Act.put, List.setIfInBounds_toArray, List.set_cons_zero, List.set_cons_succ])
              refine wpAnyH_take (i := 6) (v := ?_) rfl (by kernel_rfl) (by kernel_rfl) (by kernel_rfl) (fun _ _ _ h => h) (Or.inl ⟨by rfl, ?_⟩) (by assumption) ?_
              rotate_left
              · (intro w' hSw; (try dsimp only at hSw); go_simp; try with_reducible rfl)
              (try simp only [List.getElem_toArray, List.getElem_cons_zero, List.getElem_cons_succ, Act.put, List.setIfInBounds_toArray, List.set_cons_zero, List.set_cons_succ])
              refine wpAnyH_take (i := 7) (v := ?_) rfl (by kernel_rfl) (by kernel_rfl) (by kernel_rfl) (fun _ _ _ h => h) (Or.inl ⟨by rfl, ?_⟩) (by assumption) ?_
              rotate_left
              · (intro w' hSw; (try dsimp only at hSw); go_simp; try with_reducible rfl)
              (try simp only [List.getElem_toArray, List.getElem_cons_zero, List.getElem_cons_succ, Act.put, List.setIfInBounds_toArray, List.set_cons_zero, List.set_cons_succ])
              refine wpAnyH_take (i := 8) (v := ?_) rfl (by kernel_rfl) (by kernel_rfl) (by kernel_rfl) (fun _ _ _ h => h) (Or.inl ⟨by rfl, ?_⟩) (by assumption) ?_
              rotate_left
              · (intro w' hSw; (try dsimp only at hSw); go_simp; try with_reducible rfl)
              (try simp only [List.getElem_toArray, List.getElem_cons_zero, List.getElem_cons_succ, Act.put, List.setIfInBounds_toArray, List.set_cons_zero, List.set_cons_succ])
              refine wpAnyH_take (i := 9) (v := ?_) rfl (by kernel_rfl) (by kernel_rfl) (by kernel_rfl) (fun _ _ _ h => h) (Or.inl ⟨by rfl, ?_⟩) (by assumption) ?_
              rotate_left
              · (intro w' hSw; (try dsimp only at hSw); go_simp; try with_reducible rfl)
              (try simp only [List.getElem_toArray, List.getElem_cons_zero, List.getElem_cons_succ, Act.put, List.setIfInBounds_toArray, List.set_cons_zero, List.set_cons_succ])
              refine wpAnyH_take (i := 10) (v := ?_) rfl (by kernel_rfl) (by kernel_rfl) (by kernel_rfl) (fun _ _ _ h => h) (Or.inl ⟨by rfl, ?_⟩) (by assumption) ?_
              rotate_left
              · (intro w' hSw; (try dsimp only at hSw); go_simp; try with_reducible rfl)
              (try simp only [List.getElem_toArray, List.getElem_cons_zero, List.getElem_cons_succ, Act.put, List.setIfInBounds_toArray, List.set_cons_zero, List.set_cons_succ])
              refine wpAnyH_take (i := 11) (v := ?_) rfl (by kernel_rfl) (by kernel_rfl) (by kernel_rfl) (fun _ _ _ h => h) (Or.inl ⟨by rfl, ?_⟩) (by assumption) ?_
              rotate_left
              · (intro w' hSw; (try dsimp only at hSw); go_simp; try with_reducible rfl)
              (try simp only [List.getElem_toArray, List.getElem_cons_zero, List.getElem_cons_succ, Act.put, List.setIfInBounds_toArray, List.set_cons_zero, List.set_cons_succ])
              refine wpAnyH_take (i := 12) (v := ?_) rfl (by kernel_rfl) (by kernel_rfl) (by kernel_rfl) (fun _ _ _ h => h) (Or.inl ⟨by rfl, ?_⟩) (by assumption) ?_
              rotate_left
              · (intro w' hSw; (try dsimp only at hSw); go_simp; try with_reducible rfl)
              (try simp only [List.getElem_toArray, List.getElem_cons_zero, List.getElem_cons_succ, Act.put, List.setIfInBounds_toArray, List.set_cons_zero, List.set_cons_succ])
              refine wpAnyH_take (i := 13) (v := ?_) rfl (by kernel_rfl) (by kernel_rfl) (by kernel_rfl) (fun _ _ _ h => h) (Or.inl ⟨by rfl, ?_⟩) (by assumption) ?_
              rotate_left
              · (intro w' hSw; (try dsimp only at hSw); go_simp; try with_reducible rfl)
              (try simp only [List.getElem_toArray, List.getElem_cons_zero, List.getElem_cons_succ, Act.put, List.setIfInBounds_toArray, List.set_cons_zero, List.set_cons_succ])
              refine wpAnyH_take (i := 14) (v := ?_) rfl (by kernel_rfl) (by kernel_rfl) (by kernel_rfl) (fun _ _ _ h => h) (Or.inl ⟨by rfl, ?_⟩) (by assumption) ?_
              rotate_left
              · (intro w' hSw; (try dsimp only at hSw); go_simp; try with_reducible rfl)
              (try simp only [List.getElem_toArray, List.getElem_cons_zero, List.getElem_cons_succ, Act.put, List.setIfInBounds_toArray, List.set_cons_zero, List.set_cons_succ])
              refine wpAnyH_take (i := 15) (v := ?_) rfl (by kernel_rfl) (by kernel_rfl) (by kernel_rfl) (fun _ _ _ h => h) (Or.inl ⟨by rfl, ?_⟩) (by assumption) ?_
              rotate_left
              · (intro w' hSw; (try dsimp only at hSw); go_simp; try with_reducible rfl)
              (try simp only [List.getElem_toArray, List.getElem_cons_zero, List.getElem_cons_succ, Act.put, List.setIfInBounds_toArray, List.set_cons_zero, List.set_cons_succ])
              refine wpAnyH_take (i := 16) (v := ?_) rfl (by kernel_rfl) (by kernel_rfl) (by kernel_rfl) (fun _ _ _ h => h) (Or.inl ⟨by rfl, ?_⟩) (by assumption) ?_
              rotate_left
              · (intro w' hSw; (try dsimp only at hSw); go_simp; try with_reducible rfl)
              (try simp only [List.getElem_toArray, List.getElem_cons_zero, List.getElem_cons_succ, Act.put, List.setIfInBounds_toArray, List.set_cons_zero, List.set_cons_succ])
              refine wpAnyH_take (i := 17) (v := ?_) rfl (by kernel_rfl) (by kernel_rfl) (by kernel_rfl) (fun _ _ _ h => h) (Or.inl ⟨by rfl, ?_⟩) (by assumption) ?_
              rotate_left
              · (intro w' hSw; (try dsimp only at hSw); go_simp; try with_reducible rfl)
              (try simp only [List.getElem_toArray, List.getElem_cons_zero, List.getElem_cons_succ, Act.put, List.setIfInBounds_toArray, List.set_cons_zero, List.set_cons_succ])
              refine wpAnyH_ready (rs := [18]) (by kernel_rfl) (by simp) ?_
              refine AllReadyH.cons rfl (fun K hK => ?_) AllReadyH.nil
              have HKK := Lib.hid hK
              clear hK
              go_simp
              refine (HSA.out _ hHeld.1).mono ?_
              rintro e' w9 ⟨rfl, hb9⟩
              have hB9 := below_tr hHeld.1 hb9
              go_wp2_with fail
              refine HKK.out _ _ (⟨hB9, cell_below z0 hB9, cell_below z1 hB9, cell_below z2 hB9, cell_below z3 hB9, cell_below y0 hB9, cell_below y1 hB9, cell_below y2c hB9, cell_below y3 hB9⟩) (fun hH2 => ?_)
              clear HKK K
              replace hHeld := hH2
              clear hH2
              (try simp only [List.getElem_toArray, List.getElem_cons_zero, List.getElem_cons_succ, Act.put, List.setIfInBounds_toArray, List.set_cons_zero, List.set_cons_succ])
              refine wpAnyH_take (i := 19) (v := ?_) rfl (by kernel_rfl) (by kernel_rfl) (by kernel_rfl) (fun _ _ _ h => h) (Or.inl ⟨by rfl, ?_⟩) (by assumption) ?_
              rotate_left
              · (intro w' hSw; (try dsimp only at hSw); go_simp; try with_reducible rfl)
              (try simp only [List.getElem_toArray, List.getElem_cons_zero, List.getElem_cons_succ, Act.put, List.setIfInBounds_toArray, List.set_cons_zero, List.set_cons_succ])
              refine wpAnyH_ready (rs := [20]) (by kernel_rfl) (by simp) ?_
              refine AllReadyH.cons rfl (fun K hK => ?_) AllReadyH.nil
              have HKK := Lib.hid hK
              clear hK
              go_simp
              refine (haw.out _).mono ?_
              rintro e' w10 ⟨rfl, hb10⟩
              have hB10 := below_tr hHeld.1 hb10
              go_wp2_with fail
              refine HKK.out _ _ (⟨hB10, cell_below z0 hB10, cell_below z1 hB10, cell_below z2 hB10, cell_below z3 hB10, cell_below y0 hB10, cell_below y1 hB10, cell_below y2c hB10, cell_below y3 hB10⟩) (fun hH2 => ?_)
              clear HKK K
              replace hHeld := hH2
              clear hH2
              (try simp only [List.getElem_toArray, List.getElem_cons_zero, List.getElem_cons_succ, Act.put, List.setIfInBounds_toArray, List.set_cons_zero, List.set_cons_succ])
              refine wpAnyH_take (i := 21) (v := ?_) rfl (by kernel_rfl) (by kernel_rfl) (by kernel_rfl) (fun _ _ _ h => h) (Or.inl ⟨by rfl, ?_⟩) (by assumption) ?_
              rotate_left
              · (intro w' hSw; (try dsimp only at hSw); go_simp; try with_reducible rfl)
              (try simp only [List.getElem_toArray, List.getElem_cons_zero, List.getElem_cons_succ, Act.put, List.setIfInBounds_toArray, List.set_cons_zero, List.set_cons_succ])
              refine wpAnyH_take (i := 22) (v := ?_) rfl (by kernel_rfl) (by kernel_rfl) (by kernel_rfl) (fun _ _ _ h => h) (Or.inl ⟨by rfl, ?_⟩) (by assumption) ?_
              rotate_left
              · (intro w' hSw; (try dsimp only at hSw); go_simp; try with_reducible rfl)
              (try simp only [List.getElem_toArray, List.getElem_cons_zero, List.getElem_cons_succ, Act.put, List.setIfInBounds_toArray, List.set_cons_zero, List.set_cons_succ])
              refine wpAnyH_done (by kernel_rfl) ?_ _
              go_wp2_with fail
              go_ret
              exact ⟨by simp, HX8.out.bel.trans (hHeld.1.mono HX8.out.bel.size)⟩
        · have hks : (k < 0) ∨ (¬ k < 0 ∧ (x.buy.l.length : Int) ≤ k) := by omega
          clear hr0 hk he
          rcases hks with g | ⟨g, g2⟩
          all_goals
            go_wp2_with (first | refine wpList_load_problem rfl _ rfl w.heap.size rfl x (HX2.out).p ?_ | refine wpList_load_plan rfl _ rfl (w.heap.size + 1) rfl y (HX2.out).q ?_)
            refine (hr1.out _ (HX2.out.pr hP.out) (HX2.out.qr hQ.out)).mono ?_
            rintro e w3 ⟨tm, htx, rfl, hrt, hbt⟩
            have HTX := Lib.hid htx
            simp only [TrM.v]
            clear htx
            go_upto_region 4 with fail
            obtain ⟨t7, ht⟩ : ∃ t, t = w3.heap.size := ⟨_, rfl⟩
            obtain ⟨v3, hv⟩ : ∃ v, v = w3.alloc (.cells #[.slice tm.net.A tm.net.l.length tm.net.c, .slice tm.level.A tm.level.l.length tm.level.c, .slice tm.temp.A tm.temp.l.length tm.temp.c, .int .i64 tm.cost] 40) := ⟨_, rfl⟩
            have HX3 : Hid (PX x y w v3) := by show PX _ _ _ _; rw [hv]; exact (HX2.out.below hbt).alloc _
            have HT3 : Hid (Blk v3 t7 40 #[.slice tm.net.A tm.net.l.length tm.net.c, .slice tm.level.A tm.level.l.length tm.level.c, .slice tm.temp.A tm.temp.l.length tm.temp.c, .int .i64 tm.cost]) := by show Blk _ _ _ _; rw [hv, ht]; exact Blk.new _ _ _
            have HR3 : Hid (RTr v3 tm) := by show RTr _ _; rw [hv]; exact hrt.below (below_al (Below.refl _ _))
            rw [← hv, ← ht]
            clear hv ht hbt hrt HX2
            have c0 := HX3.out.pc.1
            go_wp2_with fail
            refine (haw.out _).mono ?_
            rintro e w9 ⟨rfl, hb9⟩
            have HX9 := Lib.hid (HX3.out.below hb9)
            clear hb9
            go_wp2_with fail
            go_ret
            exact ⟨rfl, HX9.out.bel⟩
      · have hr1 := Lib.hid hr0
        have en : (x.p.err y.x != 0) = true := by simpa using he
        clear hr0 he
        generalize x.p.err y.x = er at *
        go_wp2_with (first | refine wpList_load_problem rfl _ rfl w.heap.size rfl x (HX2.out).p ?_ | refine wpList_load_plan rfl _ rfl (w.heap.size + 1) rfl y (HX2.out).q ?_)
        refine (hr1.out _ (HX2.out.pr hP.out) (HX2.out.qr hQ.out)).mono ?_
        rintro e w3 ⟨tm, htx, rfl, hrt, hbt⟩
        have HTX := Lib.hid htx
        simp only [TrM.v]
        clear htx
        go_upto_region 4 with fail
        obtain ⟨t7, ht⟩ : ∃ t, t = w3.heap.size := ⟨_, rfl⟩
        obtain ⟨v3, hv⟩ : ∃ v, v = w3.alloc (.cells #[.slice tm.net.A tm.net.l.length tm.net.c, .slice tm.level.A tm.level.l.length tm.level.c, .slice tm.temp.A tm.temp.l.length tm.temp.c, .int .i64 tm.cost] 40) := ⟨_, rfl⟩
        have HX3 : Hid (PX x y w v3) := by show PX _ _ _ _; rw [hv]; exact (HX2.out.below hbt).alloc _
        have HT3 : Hid (Blk v3 t7 40 #[.slice tm.net.A tm.net.l.length tm.net.c, .slice tm.level.A tm.level.l.length tm.level.c, .slice tm.temp.A tm.temp.l.length tm.temp.c, .int .i64 tm.cost]) := by show Blk _ _ _ _; rw [hv, ht]; exact Blk.new _ _ _
        have HR3 : Hid (RTr v3 tm) := by show RTr _ _; rw [hv]; exact hrt.below (below_al (Below.refl _ _))
        rw [← hv, ← ht]
        clear hv ht hbt hrt HX2
        have c0 := HX3.out.pc.1
        go_wp2_with fail
        refine (haw.out _).mono ?_
        rintro e w9 ⟨rfl, hb9⟩
        have HX9 := Lib.hid (HX3.out.below hb9)
        clear hb9
        go_wp2_with fail
        go_ret
        exact ⟨rfl, HX9.out.bel⟩
end Go.Proofs.Ytdheockmphdakaa
