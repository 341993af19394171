/-
  The walks of layer 43 (optimum), part 11: Best whole, Cost.
-/
import Derived.Test.YtnppngaabfhkpaaRU10
namespace Go.Proofs.Ytnppngaabfhkpaa
open Go.RowKit
attribute [local go_sem ↓] Go.wp_at_zero Go.wp_at_succ

theorem best_any (x : PbM) (w : World) (hP : RPb w x) (hF : x.Fit) : Calls Try.prog 19 #[x.v] w (BestOut x.p.best x.p.bestE w) := by
  by_cases hc : x.p.chk = 0
  · cases hl : x.p.lim with
    | true => exact best_run x w hP hF hc hl
    | false => exact best_bad x w hP hF (.inr hl)
  · exact best_bad x w hP hF (.inl hc)
/-- What Cost hands back. -/
def Pb.oc (p : Pb) : Int := if p.bestE = 0 then (p.trace p.best).cost else 0
/-- The box of a function of one problem. -/
structure PB (x : PbM) (w wr : World) : Prop where
  p : Blk wr w.heap.size 31 x.cs
  bel : Below w.heap.size w wr
theorem PB.start (x : PbM) (w : World) : PB x w (w.alloc (.cells x.cs 31)) := ⟨Blk.new _ _ _, below_al (Below.refl _ _)⟩
theorem PB.below {x : PbM} {w wr w1 : World} (h : PB x w wr) (hb : Below wr.heap.size wr w1) : PB x w w1 := ⟨h.p.below hb h.p.lt, h.bel.trans (hb.mono h.bel.size)⟩
theorem PB.pr {x : PbM} {w wr : World} (h : PB x w wr) (hP : RPb w x) : RPb wr x := hP.below h.bel
set_option maxRecDepth 100000 in
set_option maxHeartbeats 16000000 in
theorem ocost_any (x : PbM) (w : World) (hP0 : RPb w x) (hF : x.Fit) :
    Calls Try.prog 22 #[x.v] w fun e w' => e = .returned (.tuple #[.int .i64 x.p.oc, .bool (x.p.bestE == 0)]) ∧ Below w.heap.size w w' := by
  have hP := Lib.hid hP0
  have hb := Lib.hid (fun W (h : RPb W x) => best_any x W h hF)
  have hv := Lib.hid (fun W (y : PnM) (h : RPb W x) (h2 : RPn W y) (h3 : y.Fit) => pvalue_any x y W h h2 hF h3)
  have hoc : Hid (x.p.oc = if x.p.bestE = 0 then (x.p.trace x.p.best).cost else 0) := (rfl : _ = _)
  have hbt := fun h => (Pb.best_top (p := x.p) h).2.2.1
  have HBT := Lib.hid hbt
  clear hbt
  have hst0 := PB.start x w
  simp only [PbM.v]
  obtain ⟨W, hW⟩ : ∃ W, W = w.alloc (.cells #[.slice x.buy.A x.buy.l.length x.buy.c, .slice x.sell.A x.sell.l.length x.sell.c, .int .i64 x.fuse, .slice x.solar.A x.solar.l.length x.solar.c, .slice x.demand.A x.demand.l.length x.demand.c, .slice x.outside.A x.outside.l.length x.outside.c, .int .i64 x.bat.cap, .int .i64 x.bat.reserve, .int .i64 x.bat.charge, .int .i64 x.bat.discharge, .int .i64 x.bat.eff, .int .i64 x.gain, .int .i64 x.loss, .int .i64 x.steps, .int .i64 x.power, .slice x.low.A x.low.l.length x.low.c, .slice x.high.A x.high.l.length x.high.c, .slice x.LA x.loads.length x.lc, .int .i64 x.level, .int .i64 x.temp] 31) := ⟨_, rfl⟩
  rw [show w.alloc (.cells x.cs 31) = W from hW.symm] at hst0
  have hst := Lib.hid hst0
  have hWH := Lib.hid hW
  clear hst0 hW hP0
  generalize x.p.oc = oc at *
  generalize x.p.bestE = er at *
  generalize x.p.best = bp at *
  go_enter Try.func22, Try.ntmps22
  go_upto_region 1 with fail
  rw [← hWH.out]
  clear hWH
  go_wp2_with (refine wpList_load_problem rfl _ rfl w.heap.size rfl x hst.out.p ?_)
  refine (hb.out _ (hst.out.pr hP.out)).mono ?_
  rintro e w1 ⟨m, hmx, rfl, hrm, hmf, _, hb1⟩
  have HX1 := Lib.hid (hst.out.below hb1)
  go_wp2_with (refine wpList_store_blk rfl 33 _ _ rfl w1.heap.size rfl m.cs rfl (by kernel_rfl) (PnM.cs_one _) (Blk.new w1 _ _) rfl ?_)
  intro w2 hB2 hg2
  have hs2 : Below w1.heap.size w1 w2 := ((Below.refl w1.heap.size w1).alloc (Nat.le_refl _) (.cells PnM.zero.cs 33)).grown hg2 (by simp) (fun k e => by injection e with e; omega)
  obtain ⟨t, ht⟩ : ∃ t, t = w1.heap.size := ⟨_, rfl⟩
  have HX2 := Lib.hid (HX1.out.below hs2)
  have HM2 := Lib.hid (hrm.below hs2)
  have HMF := Lib.hid hmf
  have HMX := Lib.hid hmx
  rw [← ht] at hB2
  have HB2 := Lib.hid hB2
  have HT := Lib.hid ht
  clear hst hb1 HX1 hs2 hB2 hrm hmf hmx hg2 ht
  by_cases he : er = 0
  · have e1 : (er != 0) = false := by simp [he]
    have e2 := hoc.out
    rw [if_pos he] at e2
    have HE2 := Lib.hid e2
    have HHE := Lib.hid he
    clear e2 he hoc
    go_upto_region 4 with fail
    rw [← HT.out]
    go_wp2_with (first | refine wpList_load_problem rfl _ rfl w.heap.size rfl x HX2.out.p ?_ | refine wpList_load_plan rfl _ rfl t rfl m HB2.out ?_)
    refine (hv.out _ m (HX2.out.pr hP.out) HM2.out HMF.out).mono ?_
    rintro e w3 ⟨rfl, hb3⟩
    have HX3 := Lib.hid (HX2.out.below hb3)
    clear hb3
    go_wp2_with fail
    go_ret2
    have h1 := HBT.out HHE.out
    refine ⟨?_, HX3.out.bel⟩
    rw [HE2.out, HMX.out, h1, HHE.out]
    rfl
  · have e1 : (er != 0) = true := by simp [he]
    have e3 : (er == 0) = false := by simp [he]
    have e2 := hoc.out
    rw [if_neg he] at e2
    have HE2 := Lib.hid e2
    have HE3 := Lib.hid e3
    clear e2 e3 he hoc
    go_wp2_with fail
    go_ret2
    exact ⟨by rw [HE2.out, HE3.out]; rfl, HX2.out.bel⟩
end Go.Proofs.Ytnppngaabfhkpaa

/-
  The walks of layer 43 (optimum), part 12: Bound of the program and of the reference.
-/
namespace Go.Proofs.Ytnppngaabfhkpaa
open Go.RowKit
attribute [local go_sem ↓] Go.wp_at_zero Go.wp_at_succ

/-- The least power that a slot may have. -/
def Pb.low (p : Pb) (i : Nat) : Int := if p.demand.getD i 0 - p.solar.getD i 0 - p.bat.discharge < -p.t.fuse then -p.t.fuse else p.demand.getD i 0 - p.solar.getD i 0 - p.bat.discharge
def Pb.lows (p : Pb) : List Int := (List.range p.n).map p.low
def Pb.bound (p : Pb) : Int := if p.chk ≠ 0 then 0 else p.t.totalTo p.lows p.n
theorem Pb.lows_at {p : Pb} {i : Nat} (h : i < p.n) : p.lows.getD i 0 = p.low i := by
  simp [Pb.lows, List.getD, h]
theorem Pb.bound_succ (p : Pb) {i : Nat} (h : i < p.n) : p.t.totalTo p.lows (i + 1) = p.t.totalTo p.lows i + p.t.cost i (p.low i) := by
  rw [Tf.totalTo_succ, Pb.lows_at h]


set_option maxRecDepth 100000 in
set_option maxHeartbeats 16000000 in
theorem bound_any (x : PbM) (w : World) (hP0 : RPb w x) (hF : x.Fit) :
    Calls Try.prog 31 #[x.v] w fun e w' => e = .returned (.int .i64 x.p.bound) ∧ Below w.heap.size w w' := by
  have hP := Lib.hid hP0
  have hck0 := fun W (h : RPb W x) => pcheck_any x W h hF
  have hst0 := PB.start x w
  simp only [PbM.v]
  obtain ⟨W, hW⟩ : ∃ W, W = w.alloc (.cells #[.slice x.buy.A x.buy.l.length x.buy.c, .slice x.sell.A x.sell.l.length x.sell.c, .int .i64 x.fuse, .slice x.solar.A x.solar.l.length x.solar.c, .slice x.demand.A x.demand.l.length x.demand.c, .slice x.outside.A x.outside.l.length x.outside.c, .int .i64 x.bat.cap, .int .i64 x.bat.reserve, .int .i64 x.bat.charge, .int .i64 x.bat.discharge, .int .i64 x.bat.eff, .int .i64 x.gain, .int .i64 x.loss, .int .i64 x.steps, .int .i64 x.power, .slice x.low.A x.low.l.length x.low.c, .slice x.high.A x.high.l.length x.high.c, .slice x.LA x.loads.length x.lc, .int .i64 x.level, .int .i64 x.temp] 31) := ⟨_, rfl⟩
  rw [show w.alloc (.cells x.cs 31) = W from hW.symm] at hst0
  have hst := Lib.hid hst0
  have hWH := Lib.hid hW
  clear hst0 hW hP0 hF
  by_cases hc : x.p.chk = 0
  · have hbo : x.p.bound = x.p.t.totalTo x.p.lows x.p.n := by unfold Pb.bound; rw [if_neg (by rw [hc]; simp)]
    rw [hbo]
    have hgd := Pb.good hc
    rw [hc] at hck0
    have hck := Lib.hid hck0
    have hsu := fun i (h : i < x.p.n) => Pb.bound_succ x.p h
    have HSU := Lib.hid hsu
    have hbd := Tf.totalTo_bd (Tf.good hgd.t) x.p.lows
    have HBD := Lib.hid hbd
    have hz := Tf.totalTo_zero x.p.t x.p.lows
    obtain ⟨BT, hBT⟩ : ∃ F, F = x.p.t.totalTo x.p.lows := ⟨_, rfl⟩
    rw [← hBT] at HSU HBD hz
    rw [← hBT]
    have HZ := Lib.hid hz
    obtain ⟨e1, e2, _⟩ := hgd.lens
    have hn96 : x.buy.l.length ≤ 96 := (Pb.nbd hgd).2
    have hsd : ∀ i, i < x.buy.l.length → i < x.demand.l.length := fun i hi => by have : x.demand.l.length = x.buy.l.length := e2; omega
    have hss : ∀ i, i < x.buy.l.length → i < x.solar.l.length := fun i hi => by have : x.solar.l.length = x.buy.l.length := e1; omega
    have hfu := Pb.fuse_bd hgd
    have hfu : 1 ≤ x.fuse ∧ x.fuse ≤ 1000 := hfu
    have hB := Lib.hid (fun i => And.intro (allB_getD hgd.de (by omega) (by omega) i : 0 ≤ x.demand.l.getD i 0 ∧ x.demand.l.getD i 0 ≤ 1000) (allB_getD hgd.so (by omega) (by omega) i : 0 ≤ x.solar.l.getD i 0 ∧ x.solar.l.getD i 0 ≤ 1000))
    have HDI : Hid (0 ≤ x.bat.discharge ∧ x.bat.discharge ≤ 1000) := by
      have h1 := (Pb.bat_good hgd).2
      have h2 := h1.di0; have h3 := h1.di1
      exact ⟨by have : x.p.bat.discharge = x.bat.discharge := rfl; omega, by have : x.p.bat.discharge = x.bat.discharge := rfl; omega⟩
    have hst2 : ∀ i : Nat, i < x.buy.l.length → x.p.t.slot (i : Int) = true := fun i hi => by
      have ht : x.p.t.chk = 0 := hgd.t
      have hl : (i : Int) < (x.p.t.buy.length : Int) := by show (i : Int) < (x.buy.l.length : Int); omega
      simp only [Tf.slot, Bool.and_eq_true, decide_eq_true_eq]
      exact ⟨by omega, hl, ht⟩
    have HCO := Lib.hid (fun W (i : Nat) n (hi : i < x.buy.l.length) (q : RPb W x) => tcost_any x.p.t x.buy.A x.sell.A x.buy.c x.sell.c i n W q.buy q.sell (hst2 i hi))
    have hD0 : ∀ W i, i < x.buy.l.length → RPb W x → ∃ b o, x.demand.A = some ⟨b, o, none⟩ ∧ W.cell? ⟨b, o + i, none⟩ = some (.int .i64 (x.demand.l.getD i 0)) := fun W i hi q => by
      obtain ⟨b, o, h1, _, h2⟩ := q.demand.at' (hsd i hi)
      exact ⟨b, o, h1, by rw [h2, getD_eq (hsd i hi)]⟩
    have hS0 : ∀ W i, i < x.buy.l.length → RPb W x → ∃ b o, x.solar.A = some ⟨b, o, none⟩ ∧ W.cell? ⟨b, o + i, none⟩ = some (.int .i64 (x.solar.l.getD i 0)) := fun W i hi q => by
      obtain ⟨b, o, h1, _, h2⟩ := q.solar.at' (hss i hi)
      exact ⟨b, o, h1, by rw [h2, getD_eq (hss i hi)]⟩
    have HD := Lib.hid hD0
    have HS := Lib.hid hS0
    have HSD := Lib.hid hsd
    have HSS := Lib.hid hss
    have hlo : ∀ i, x.p.low i = if x.demand.l.getD i 0 - x.solar.l.getD i 0 - x.bat.discharge < -x.fuse then -x.fuse else x.demand.l.getD i 0 - x.solar.l.getD i 0 - x.bat.discharge := fun i => rfl
    have HLO := Lib.hid hlo
    have HFU := Lib.hid hfu
    have hpn : x.p.n = x.buy.l.length := rfl
    rw [hpn] at HSU
    rw [hpn]
    clear hbo hgd hck0 hsu hbd hz hBT e1 e2 hsd hss hst2 hD0 hS0 hlo hfu hpn hc
    generalize x.p.low = LW at *
    generalize x.p.t.cost = CST at *
    go_enter Try.func31, Try.ntmps31
    go_upto_region 1 with fail
    rw [← hWH.out]
    clear hWH
    go_wp2_with (refine wpList_load_problem rfl _ rfl w.heap.size rfl x hst.out.p ?_)
    refine (hck.out _ (hst.out.pr hP.out)).mono ?_
    rintro e w1 ⟨rfl, hb1⟩
    have HX1 := Lib.hid (hst.out.below hb1)
    clear hb1 hst hck
    obtain ⟨c0, -, -, -, -, -, -, -, -, -, -, -, -, -, -, -, -, -, -, -⟩ := PbC.of_blk HX1.out.p
    go_wp2_with fail
    clear c0
    go_loopw [12, 3] (fun s12 s3 wr => ∃ i : Nat, i ≤ x.buy.l.length ∧ s12 = .int .i64 i ∧ s3 = .int .i64 (BT i) ∧ Hid (PB x w wr))
      (fun s12 _ _ => x.buy.l.length - (intOf s12).toNat)
    case atStart => exact ⟨0, by omega, rfl, by rw [HZ.out], HX1.out⟩
    case round =>
      obtain ⟨i, hi, rfl, rfl, hPBx⟩ := hrel
      obtain ⟨wo, hwo⟩ : ∃ wo : World, wo = wr := ⟨_, rfl⟩
      subst hwo
      by_cases hlt : i < x.buy.l.length
      · skip
        have j1 : (0 : Int) ≤ (i : Int) := by omega
        have j2 : (i : Int) < (x.buy.l.length : Int) := by omega
        have j3 : (i : Int) < (x.demand.l.length : Int) := by have := HSD.out i hlt; omega
        have j4 : (i : Int) < (x.solar.l.length : Int) := by have := HSS.out i hlt; omega
        have HXo := Lib.hid hPBx.out
        obtain ⟨bD, oD, hDA, eD⟩ := HD.out wo i hlt (HXo.out.pr hP.out)
        obtain ⟨bS, oS, hSA, eS⟩ := HS.out wo i hlt (HXo.out.pr hP.out)
        have b1 : 0 ≤ x.demand.l.getD i 0 ∧ x.demand.l.getD i 0 ≤ 1000 := (hB.out i).1
        have b2 : 0 ≤ x.solar.l.getD i 0 ∧ x.solar.l.getD i 0 ≤ 1000 := (hB.out i).2
        have b3 := HDI.out
        have b4 := HFU.out
        have hsu := HSU.out i hlt
        have bd1 := HBD.out i
        have bd2 := HBD.out (i + 1)
        have hlow : LW i = if x.demand.l.getD i 0 - x.solar.l.getD i 0 - x.bat.discharge < -x.fuse then -x.fuse else x.demand.l.getD i 0 - x.solar.l.getD i 0 - x.bat.discharge := HLO.out i
        have hCO := HCO.out
        generalize x.demand.l.getD i 0 = dz at *
        generalize x.solar.l.getD i 0 = sz at *
        generalize LW i = lo at *
        obtain ⟨cz, hcz⟩ : ∃ z, z = CST i lo := ⟨_, rfl⟩
        rw [← hcz] at hsu
        have HCO2 := Lib.hid (fun W (q : RPb W x) => (hcz.symm ▸ hCO W i lo hlt q))
        obtain ⟨ac, hac⟩ : ∃ z, z = BT i := ⟨_, rfl⟩
        rw [← hac] at hsu bd1
        rw [← hac]
        have a1 : IntKind.i64.wrap (dz - sz) = dz - sz := IntWalk.i64_in _ (by omega)
        have a2 : IntKind.i64.wrap (dz - sz - x.bat.discharge) = dz - sz - x.bat.discharge := IntWalk.i64_in _ (by omega)
        have a3 : IntKind.i64.wrap (-x.fuse) = -x.fuse := IntWalk.i64_in _ (by omega)
        have a4 : IntKind.i64.wrap (ac + cz) = ac + cz := IntWalk.i64_in _ (by omega)
        have HSU2 := Lib.hid hsu
        have HLW := Lib.hid hlow
        have HAC := Lib.hid hac
        clear b1 b2 b3 b4 bd1 bd2 hsu hCO hcz hac hlow
        obtain ⟨c0, c1, c2, c3, c4, -, -, -, -, c9, -, -, -, -, -, -, -, -, -, -⟩ := PbC.of_blk HXo.out.p
        rw [hSA] at c3
        rw [hDA] at c4
        rw [hDA, hSA]
        clear hDA hSA
        by_cases hm : dz - sz - x.bat.discharge < -x.fuse
        · have HM := Lib.hid hm
          have hlw := HLW.out
          rw [if_pos hm] at hlw
          have HLW2 := Lib.hid hlw
          clear hlw
          go_upto_region 7 with fail
          refine wp_region_held_drew (S := (fun w' => Below wo.heap.size wo w' ∧ w'.cell? ⟨w.heap.size, 0, none⟩ = some (.slice x.buy.A x.buy.l.length x.buy.c) ∧ w'.cell? ⟨w.heap.size, 1, none⟩ = some (.slice x.sell.A x.sell.l.length x.sell.c) ∧ w'.cell? ⟨w.heap.size, 2, none⟩ = some (.int .i64 x.fuse) ∧ w'.cell? ⟨w.heap.size, 3, none⟩ = some (.slice (some ⟨bS, oS, none⟩) x.solar.l.length x.solar.c) ∧ w'.cell? ⟨w.heap.size, 4, none⟩ = some (.slice (some ⟨bD, oD, none⟩) x.demand.l.length x.demand.c) ∧ w'.cell? ⟨w.heap.size, 9, none⟩ = some (.int .i64 x.bat.discharge) ∧ w'.cell? ⟨bD, oD + i, none⟩ = some (.int .i64 dz) ∧ w'.cell? ⟨bS, oS + i, none⟩ = some (.int .i64 sz))) (by kernel_rfl) (⟨(Below.drew (Below.refl _ _)), c0, c1, c2, c3, c4, c9, eD, eS⟩) (fun hHeld => ?_)
          refine wpAnyH_take (i := 0) (v := ?_) rfl (by kernel_rfl) (by kernel_rfl) (by kernel_rfl) (fun _ _ _ h => h) (Or.inl ⟨by rfl, ?_⟩) (by assumption) ?_
          rotate_left
          · (intro w' hSw; (try dsimp only at hSw); go_simp; try with_reducible rfl)
          (try simp only [List.getElem_toArray, List.getElem_cons_zero, Act.put, List.setIfInBounds_toArray, List.set_cons_zero, List.set_cons_succ])
          refine wpAnyH_take (i := 1) (v := ?_) rfl (by kernel_rfl) (by kernel_rfl) (by kernel_rfl) (fun _ _ _ h => h) (Or.inl ⟨by rfl, ?_⟩) (by assumption) ?_
          rotate_left
          · (intro w' hSw; (try dsimp only at hSw); go_simp; try with_reducible rfl)
          (try simp only [List.getElem_toArray, List.getElem_cons_zero, List.getElem_cons_succ, Act.put, List.setIfInBounds_toArray, List.set_cons_zero, List.set_cons_succ])
          refine wpAnyH_take (i := 2) (v := ?_) rfl (by kernel_rfl) (by kernel_rfl) (by kernel_rfl) (fun _ _ _ h => h) (Or.inl ⟨by rfl, ?_⟩) (by assumption) ?_
          rotate_left
          · (intro w' hSw; (try dsimp only at hSw); go_simp; try with_reducible rfl)
          (try simp only [List.getElem_toArray, List.getElem_cons_zero, List.getElem_cons_succ, Act.put, List.setIfInBounds_toArray, List.set_cons_zero, List.set_cons_succ])
          refine wpAnyH_take (i := 3) (v := ?_) rfl (by kernel_rfl) (by kernel_rfl) (by kernel_rfl) (fun _ _ _ h => h) (Or.inl ⟨by rfl, ?_⟩) (by assumption) ?_
          rotate_left
          · (intro w' hSw; (try dsimp only at hSw); go_simp; try with_reducible rfl)
          (try simp only [List.getElem_toArray, List.getElem_cons_zero, List.getElem_cons_succ, Act.put, List.setIfInBounds_toArray, List.set_cons_zero, List.set_cons_succ])
          refine wpAnyH_take (i := 4) (v := ?_) rfl (by kernel_rfl) (by kernel_rfl) (by kernel_rfl) (fun _ _ _ h => h) (Or.inl ⟨by rfl, ?_⟩) (by assumption) ?_
          rotate_left
          · (intro w' hSw; (try dsimp only at hSw); go_simp; try with_reducible rfl)
          (try simp only [List.getElem_toArray, List.getElem_cons_zero, List.getElem_cons_succ, Act.put, List.setIfInBounds_toArray, List.set_cons_zero, List.set_cons_succ])
          refine wpAnyH_take (i := 5) (v := ?_) rfl (by kernel_rfl) (by kernel_rfl) (by kernel_rfl) (fun _ _ _ h => h) (Or.inl ⟨by rfl, ?_⟩) (by assumption) ?_
          rotate_left
          · (intro w' hSw; (try dsimp only at hSw); go_simp; try with_reducible rfl)
          (try simp only [List.getElem_toArray, List.getElem_cons_zero, List.getElem_cons_succ, Act.put, List.setIfInBounds_toArray, List.set_cons_zero, List.set_cons_succ])
          refine wpAnyH_take (i := 6) (v := ?_) rfl (by kernel_rfl) (by kernel_rfl) (by kernel_rfl) (fun _ _ _ h => h) (Or.inl ⟨by rfl, ?_⟩) (by assumption) ?_
          rotate_left
          · (intro w' hSw; (try dsimp only at hSw); go_simp; try with_reducible rfl)
          (try simp only [List.getElem_toArray, List.getElem_cons_zero, List.getElem_cons_succ, Act.put, List.setIfInBounds_toArray, List.set_cons_zero, List.set_cons_succ])
          refine wpAnyH_take (i := 7) (v := ?_) rfl (by kernel_rfl) (by kernel_rfl) (by kernel_rfl) (fun _ _ _ h => h) (Or.inl ⟨by rfl, ?_⟩) (by assumption) ?_
          rotate_left
          · (intro w' hSw; (try dsimp only at hSw); go_simp; try with_reducible rfl)
          (try simp only [List.getElem_toArray, List.getElem_cons_zero, List.getElem_cons_succ, Act.put, List.setIfInBounds_toArray, List.set_cons_zero, List.set_cons_succ])
          refine wpAnyH_take (i := 8) (v := ?_) rfl (by kernel_rfl) (by kernel_rfl) (by kernel_rfl) (fun _ _ _ h => h) (Or.inl ⟨by rfl, ?_⟩) (by assumption) ?_
          rotate_left
          · (intro w' hSw; (try dsimp only at hSw); go_simp; try with_reducible rfl)
          (try simp only [List.getElem_toArray, List.getElem_cons_zero, List.getElem_cons_succ, Act.put, List.setIfInBounds_toArray, List.set_cons_zero, List.set_cons_succ])
          refine wpAnyH_take (i := 9) (v := ?_) rfl (by kernel_rfl) (by kernel_rfl) (by kernel_rfl) (fun _ _ _ h => h) (Or.inl ⟨by rfl, ?_⟩) (by assumption) ?_
          rotate_left
          · (intro w' hSw; (try dsimp only at hSw); go_simp; try with_reducible rfl)
          (try simp only [List.getElem_toArray, List.getElem_cons_zero, List.getElem_cons_succ, Act.put, List.setIfInBounds_toArray, List.set_cons_zero, List.set_cons_succ])
          refine wpAnyH_take (i := 10) (v := ?_) rfl (by kernel_rfl) (by kernel_rfl) (by kernel_rfl) (fun _ _ _ h => h) (Or.inl ⟨by rfl, ?_⟩) (by assumption) ?_
          rotate_left
          · (intro w' hSw; (try dsimp only at hSw); go_simp; try with_reducible rfl)
          (try simp only [List.getElem_toArray, List.getElem_cons_zero, List.getElem_cons_succ, Act.put, List.setIfInBounds_toArray, List.set_cons_zero, List.set_cons_succ])
          refine wpAnyH_take (i := 11) (v := ?_) rfl (by kernel_rfl) (by kernel_rfl) (by kernel_rfl) (fun _ _ _ h => h) (Or.inl ⟨by rfl, ?_⟩) (by assumption) ?_
          rotate_left
          · (intro w' hSw; (try dsimp only at hSw); go_simp; try with_reducible rfl)
          (try simp only [List.getElem_toArray, List.getElem_cons_zero, List.getElem_cons_succ, Act.put, List.setIfInBounds_toArray, List.set_cons_zero, List.set_cons_succ])
          refine wpAnyH_take (i := 12) (v := ?_) rfl (by kernel_rfl) (by kernel_rfl) (by kernel_rfl) (fun _ _ _ h => h) (Or.inl ⟨by rfl, ?_⟩) (by assumption) ?_
          rotate_left
          · (intro w' hSw; (try dsimp only at hSw); go_simp; try with_reducible rfl)
          (try simp only [List.getElem_toArray, List.getElem_cons_zero, List.getElem_cons_succ, Act.put, List.setIfInBounds_toArray, List.set_cons_zero, List.set_cons_succ])
          refine wpAnyH_take (i := 13) (v := ?_) rfl (by kernel_rfl) (by kernel_rfl) (by kernel_rfl) (fun _ _ _ h => h) (Or.inl ⟨by rfl, ?_⟩) (by assumption) ?_
          rotate_left
          · (intro w' hSw; (try dsimp only at hSw); go_simp; try with_reducible rfl)
          (try simp only [List.getElem_toArray, List.getElem_cons_zero, List.getElem_cons_succ, Act.put, List.setIfInBounds_toArray, List.set_cons_zero, List.set_cons_succ])
          refine wpAnyH_take (i := 14) (v := ?_) rfl (by kernel_rfl) (by kernel_rfl) (by kernel_rfl) (fun _ _ _ h => h) (Or.inl ⟨by rfl, ?_⟩) (by assumption) ?_
          rotate_left
          · (intro w' hSw; (try dsimp only at hSw); go_simp; try with_reducible rfl)
          (try simp only [List.getElem_toArray, List.getElem_cons_zero, List.getElem_cons_succ, Act.put, List.setIfInBounds_toArray, List.set_cons_zero, List.set_cons_succ])
          refine wpAnyH_take (i := 15) (v := ?_) rfl (by kernel_rfl) (by kernel_rfl) (by kernel_rfl) (fun _ _ _ h => h) (Or.inl ⟨by rfl, ?_⟩) (by assumption) ?_
          rotate_left
          · (intro w' hSw; (try dsimp only at hSw); go_simp; try with_reducible rfl)
          (try simp only [List.getElem_toArray, List.getElem_cons_zero, List.getElem_cons_succ, Act.put, List.setIfInBounds_toArray, List.set_cons_zero, List.set_cons_succ])
          refine wpAnyH_take (i := 16) (v := ?_) rfl (by kernel_rfl) (by kernel_rfl) (by kernel_rfl) (fun _ _ _ h => h) (Or.inl ⟨by rfl, ?_⟩) (by assumption) ?_
          rotate_left
          · (intro w' hSw; (try dsimp only at hSw); go_simp; try with_reducible rfl)
          (try simp only [List.getElem_toArray, List.getElem_cons_zero, List.getElem_cons_succ, Act.put, List.setIfInBounds_toArray, List.set_cons_zero, List.set_cons_succ])
          refine wpAnyH_take (i := 17) (v := ?_) rfl (by kernel_rfl) (by kernel_rfl) (by kernel_rfl) (fun _ _ _ h => h) (Or.inl ⟨by rfl, ?_⟩) (by assumption) ?_
          rotate_left
          · (intro w' hSw; (try dsimp only at hSw); go_simp; try with_reducible rfl)
          (try simp only [List.getElem_toArray, List.getElem_cons_zero, List.getElem_cons_succ, Act.put, List.setIfInBounds_toArray, List.set_cons_zero, List.set_cons_succ])
          refine wpAnyH_take (i := 18) (v := ?_) rfl (by kernel_rfl) (by kernel_rfl) (by kernel_rfl) (fun _ _ _ h => h) (Or.inl ⟨by rfl, ?_⟩) (by assumption) ?_
          rotate_left
          · (intro w' hSw; (try dsimp only at hSw); go_simp; try with_reducible rfl)
          (try simp only [List.getElem_toArray, List.getElem_cons_zero, List.getElem_cons_succ, Act.put, List.setIfInBounds_toArray, List.set_cons_zero, List.set_cons_succ])
          refine wpAnyH_take (i := 19) (v := ?_) rfl (by kernel_rfl) (by kernel_rfl) (by kernel_rfl) (fun _ _ _ h => h) (Or.inl ⟨by rfl, ?_⟩) (by assumption) ?_
          rotate_left
          · (intro w' hSw; (try dsimp only at hSw); go_simp; try with_reducible rfl)
          (try simp only [List.getElem_toArray, List.getElem_cons_zero, List.getElem_cons_succ, Act.put, List.setIfInBounds_toArray, List.set_cons_zero, List.set_cons_succ])
          refine wpAnyH_take (i := 20) (v := ?_) rfl (by kernel_rfl) (by kernel_rfl) (by kernel_rfl) (fun _ _ _ h => h) (Or.inl ⟨by rfl, ?_⟩) (by assumption) ?_
          rotate_left
          · (intro w' hSw; (try dsimp only at hSw); go_simp; try with_reducible rfl)
          (try simp only [List.getElem_toArray, List.getElem_cons_zero, List.getElem_cons_succ, Act.put, List.setIfInBounds_toArray, List.set_cons_zero, List.set_cons_succ])
          refine wpAnyH_take (i := 21) (v := ?_) rfl (by kernel_rfl) (by kernel_rfl) (by kernel_rfl) (fun _ _ _ h => h) (Or.inl ⟨by rfl, ?_⟩) (by assumption) ?_
          rotate_left
          · (intro w' hSw; (try dsimp only at hSw); go_simp; try with_reducible rfl)
          (try simp only [List.getElem_toArray, List.getElem_cons_zero, List.getElem_cons_succ, Act.put, List.setIfInBounds_toArray, List.set_cons_zero, List.set_cons_succ])
          refine wpAnyH_take (i := 22) (v := ?_) rfl (by kernel_rfl) (by kernel_rfl) (by kernel_rfl) (fun _ _ _ h => h) (Or.inl ⟨by rfl, ?_⟩) (by assumption) ?_
          rotate_left
          · (intro w' hSw; (try dsimp only at hSw); go_simp; try with_reducible rfl)
          (try simp only [List.getElem_toArray, List.getElem_cons_zero, List.getElem_cons_succ, Act.put, List.setIfInBounds_toArray, List.set_cons_zero, List.set_cons_succ])
          refine wpAnyH_ready (rs := [23]) (by kernel_rfl) (by simp) ?_
          refine AllReadyH.cons rfl (fun K hK => ?_) AllReadyH.nil
          have HKK := Lib.hid hK
          clear hK
          go_simp
          refine HKK.out _ _ (⟨(Below.drew (Below.refl wo.heap.size wo)), cell_below c0 (Below.drew (Below.refl wo.heap.size wo)), cell_below c1 (Below.drew (Below.refl wo.heap.size wo)), cell_below c2 (Below.drew (Below.refl wo.heap.size wo)), cell_below c3 (Below.drew (Below.refl wo.heap.size wo)), cell_below c4 (Below.drew (Below.refl wo.heap.size wo)), cell_below c9 (Below.drew (Below.refl wo.heap.size wo)), cell_below eD (Below.drew (Below.refl wo.heap.size wo)), cell_below eS (Below.drew (Below.refl wo.heap.size wo))⟩) (fun hH2 => ?_)
          clear HKK K
          replace hHeld := hH2
          clear hH2
          (try simp only [List.getElem_toArray, List.getElem_cons_zero, List.getElem_cons_succ, Act.put, List.setIfInBounds_toArray, List.set_cons_zero, List.set_cons_succ])
          have hco := HCO2.out
          rw [HLW2.out] at hco
          have HCO3 := Lib.hid hco
          clear hco
          refine wpAnyH_ready (rs := [24]) (by kernel_rfl) (by simp) ?_
          refine AllReadyH.cons rfl (fun K hK => ?_) AllReadyH.nil
          have HKK := Lib.hid hK
          clear hK
          go_simp
          refine (HCO3.out _ ((HXo.out.below (Below.drew (Below.refl wo.heap.size wo))).pr hP.out)).mono ?_
          rintro e' w5 ⟨rfl, hbw5⟩
          have hBw5 := below_tr hHeld.1 hbw5
          go_wp2_with fail
          refine HKK.out _ _ (⟨hBw5, cell_below c0 hBw5, cell_below c1 hBw5, cell_below c2 hBw5, cell_below c3 hBw5, cell_below c4 hBw5, cell_below c9 hBw5, cell_below eD hBw5, cell_below eS hBw5⟩) (fun hH2 => ?_)
          clear HKK K
          replace hHeld := hH2
          clear hH2
          (try simp only [List.getElem_toArray, List.getElem_cons_zero, List.getElem_cons_succ, Act.put, List.setIfInBounds_toArray, List.set_cons_zero, List.set_cons_succ])
          refine wpAnyH_take (i := 25) (v := ?_) rfl (by kernel_rfl) (by kernel_rfl) (by kernel_rfl) (fun _ _ _ h => h) (Or.inl ⟨by rfl, ?_⟩) (by assumption) ?_
          rotate_left
          · (intro w' hSw; (try dsimp only at hSw); go_simp; try with_reducible rfl)
          (try simp only [List.getElem_toArray, List.getElem_cons_zero, List.getElem_cons_succ, Act.put, List.setIfInBounds_toArray, List.set_cons_zero, List.set_cons_succ])
          refine wpAnyH_take (i := 26) (v := ?_) rfl (by kernel_rfl) (by kernel_rfl) (by kernel_rfl) (fun _ _ _ h => h) (Or.inl ⟨by rfl, ?_⟩) (by assumption) ?_
          rotate_left
          · (intro w' hSw; (try dsimp only at hSw); go_simp; try with_reducible rfl)
          (try simp only [List.getElem_toArray, List.getElem_cons_zero, List.getElem_cons_succ, Act.put, List.setIfInBounds_toArray, List.set_cons_zero, List.set_cons_succ])
          refine wpAnyH_done (by kernel_rfl) ?_ _
          have HX5 := Lib.hid (HXo.out.below hBw5)
          have HSB := Lib.hid (HSU2.out.symm)
          clear hHeld hBw5 hbw5 c0 c1 c2 c3 c4 c9 eD eS
          go_wp2_with fail
          go_roundw
          case rel => exact ⟨i + 1, by omega, by go_num, by rw [← HSU2.out], HX5.out⟩
          case measure => simp [intOf]; omega
        · have HM := Lib.hid hm
          have hlw := HLW.out
          rw [if_neg hm] at hlw
          have HLW2 := Lib.hid hlw
          clear hlw
          go_upto_region 7 with fail
          refine wp_region_held_drew (S := (fun w' => Below wo.heap.size wo w' ∧ w'.cell? ⟨w.heap.size, 0, none⟩ = some (.slice x.buy.A x.buy.l.length x.buy.c) ∧ w'.cell? ⟨w.heap.size, 1, none⟩ = some (.slice x.sell.A x.sell.l.length x.sell.c) ∧ w'.cell? ⟨w.heap.size, 2, none⟩ = some (.int .i64 x.fuse) ∧ w'.cell? ⟨w.heap.size, 3, none⟩ = some (.slice (some ⟨bS, oS, none⟩) x.solar.l.length x.solar.c) ∧ w'.cell? ⟨w.heap.size, 4, none⟩ = some (.slice (some ⟨bD, oD, none⟩) x.demand.l.length x.demand.c) ∧ w'.cell? ⟨w.heap.size, 9, none⟩ = some (.int .i64 x.bat.discharge) ∧ w'.cell? ⟨bD, oD + i, none⟩ = some (.int .i64 dz) ∧ w'.cell? ⟨bS, oS + i, none⟩ = some (.int .i64 sz))) (by kernel_rfl) (⟨(Below.drew (Below.refl _ _)), c0, c1, c2, c3, c4, c9, eD, eS⟩) (fun hHeld => ?_)
          refine wpAnyH_take (i := 0) (v := ?_) rfl (by kernel_rfl) (by kernel_rfl) (by kernel_rfl) (fun _ _ _ h => h) (Or.inl ⟨by rfl, ?_⟩) (by assumption) ?_
          rotate_left
          · (intro w' hSw; (try dsimp only at hSw); go_simp; try with_reducible rfl)
          (try simp only [List.getElem_toArray, List.getElem_cons_zero, Act.put, List.setIfInBounds_toArray, List.set_cons_zero, List.set_cons_succ])
          refine wpAnyH_take (i := 1) (v := ?_) rfl (by kernel_rfl) (by kernel_rfl) (by kernel_rfl) (fun _ _ _ h => h) (Or.inl ⟨by rfl, ?_⟩) (by assumption) ?_
          rotate_left
          · (intro w' hSw; (try dsimp only at hSw); go_simp; try with_reducible rfl)
          (try simp only [List.getElem_toArray, List.getElem_cons_zero, List.getElem_cons_succ, Act.put, List.setIfInBounds_toArray, List.set_cons_zero, List.set_cons_succ])
          refine wpAnyH_take (i := 2) (v := ?_) rfl (by kernel_rfl) (by kernel_rfl) (by kernel_rfl) (fun _ _ _ h => h) (Or.inl ⟨by rfl, ?_⟩) (by assumption) ?_
          rotate_left
          · (intro w' hSw; (try dsimp only at hSw); go_simp; try with_reducible rfl)
          (try simp only [List.getElem_toArray, List.getElem_cons_zero, List.getElem_cons_succ, Act.put, List.setIfInBounds_toArray, List.set_cons_zero, List.set_cons_succ])
          refine wpAnyH_take (i := 3) (v := ?_) rfl (by kernel_rfl) (by kernel_rfl) (by kernel_rfl) (fun _ _ _ h => h) (Or.inl ⟨by rfl, ?_⟩) (by assumption) ?_
          rotate_left
          · (intro w' hSw; (try dsimp only at hSw); go_simp; try with_reducible rfl)
          (try simp only [List.getElem_toArray, List.getElem_cons_zero, List.getElem_cons_succ, Act.put, List.setIfInBounds_toArray, List.set_cons_zero, List.set_cons_succ])
          refine wpAnyH_take (i := 4) (v := ?_) rfl (by kernel_rfl) (by kernel_rfl) (by kernel_rfl) (fun _ _ _ h => h) (Or.inl ⟨by rfl, ?_⟩) (by assumption) ?_
          rotate_left
          · (intro w' hSw; (try dsimp only at hSw); go_simp; try with_reducible rfl)
          (try simp only [List.getElem_toArray, List.getElem_cons_zero, List.getElem_cons_succ, Act.put, List.setIfInBounds_toArray, List.set_cons_zero, List.set_cons_succ])
          refine wpAnyH_take (i := 5) (v := ?_) rfl (by kernel_rfl) (by kernel_rfl) (by kernel_rfl) (fun _ _ _ h => h) (Or.inl ⟨by rfl, ?_⟩) (by assumption) ?_
          rotate_left
          · (intro w' hSw; (try dsimp only at hSw); go_simp; try with_reducible rfl)
          (try simp only [List.getElem_toArray, List.getElem_cons_zero, List.getElem_cons_succ, Act.put, List.setIfInBounds_toArray, List.set_cons_zero, List.set_cons_succ])
          refine wpAnyH_take (i := 6) (v := ?_) rfl (by kernel_rfl) (by kernel_rfl) (by kernel_rfl) (fun _ _ _ h => h) (Or.inl ⟨by rfl, ?_⟩) (by assumption) ?_
          rotate_left
          · (intro w' hSw; (try dsimp only at hSw); go_simp; try with_reducible rfl)
          (try simp only [List.getElem_toArray, List.getElem_cons_zero, List.getElem_cons_succ, Act.put, List.setIfInBounds_toArray, List.set_cons_zero, List.set_cons_succ])
          refine wpAnyH_take (i := 7) (v := ?_) rfl (by kernel_rfl) (by kernel_rfl) (by kernel_rfl) (fun _ _ _ h => h) (Or.inl ⟨by rfl, ?_⟩) (by assumption) ?_
          rotate_left
          · (intro w' hSw; (try dsimp only at hSw); go_simp; try with_reducible rfl)
          (try simp only [List.getElem_toArray, List.getElem_cons_zero, List.getElem_cons_succ, Act.put, List.setIfInBounds_toArray, List.set_cons_zero, List.set_cons_succ])
          refine wpAnyH_take (i := 8) (v := ?_) rfl (by kernel_rfl) (by kernel_rfl) (by kernel_rfl) (fun _ _ _ h => h) (Or.inl ⟨by rfl, ?_⟩) (by assumption) ?_
          rotate_left
          · (intro w' hSw; (try dsimp only at hSw); go_simp; try with_reducible rfl)
          (try simp only [List.getElem_toArray, List.getElem_cons_zero, List.getElem_cons_succ, Act.put, List.setIfInBounds_toArray, List.set_cons_zero, List.set_cons_succ])
          refine wpAnyH_take (i := 9) (v := ?_) rfl (by kernel_rfl) (by kernel_rfl) (by kernel_rfl) (fun _ _ _ h => h) (Or.inl ⟨by rfl, ?_⟩) (by assumption) ?_
          rotate_left
          · (intro w' hSw; (try dsimp only at hSw); go_simp; try with_reducible rfl)
          (try simp only [List.getElem_toArray, List.getElem_cons_zero, List.getElem_cons_succ, Act.put, List.setIfInBounds_toArray, List.set_cons_zero, List.set_cons_succ])
          refine wpAnyH_take (i := 10) (v := ?_) rfl (by kernel_rfl) (by kernel_rfl) (by kernel_rfl) (fun _ _ _ h => h) (Or.inl ⟨by rfl, ?_⟩) (by assumption) ?_
          rotate_left
          · (intro w' hSw; (try dsimp only at hSw); go_simp; try with_reducible rfl)
          (try simp only [List.getElem_toArray, List.getElem_cons_zero, List.getElem_cons_succ, Act.put, List.setIfInBounds_toArray, List.set_cons_zero, List.set_cons_succ])
          refine wpAnyH_take (i := 11) (v := ?_) rfl (by kernel_rfl) (by kernel_rfl) (by kernel_rfl) (fun _ _ _ h => h) (Or.inl ⟨by rfl, ?_⟩) (by assumption) ?_
          rotate_left
          · (intro w' hSw; (try dsimp only at hSw); go_simp; try with_reducible rfl)
          (try simp only [List.getElem_toArray, List.getElem_cons_zero, List.getElem_cons_succ, Act.put, List.setIfInBounds_toArray, List.set_cons_zero, List.set_cons_succ])
          refine wpAnyH_take (i := 12) (v := ?_) rfl (by kernel_rfl) (by kernel_rfl) (by kernel_rfl) (fun _ _ _ h => h) (Or.inl ⟨by rfl, ?_⟩) (by assumption) ?_
          rotate_left
          · (intro w' hSw; (try dsimp only at hSw); go_simp; try with_reducible rfl)
          (try simp only [List.getElem_toArray, List.getElem_cons_zero, List.getElem_cons_succ, Act.put, List.setIfInBounds_toArray, List.set_cons_zero, List.set_cons_succ])
          refine wpAnyH_take (i := 13) (v := ?_) rfl (by kernel_rfl) (by kernel_rfl) (by kernel_rfl) (fun _ _ _ h => h) (Or.inl ⟨by rfl, ?_⟩) (by assumption) ?_
          rotate_left
          · (intro w' hSw; (try dsimp only at hSw); go_simp; try with_reducible rfl)
          (try simp only [List.getElem_toArray, List.getElem_cons_zero, List.getElem_cons_succ, Act.put, List.setIfInBounds_toArray, List.set_cons_zero, List.set_cons_succ])
          refine wpAnyH_take (i := 14) (v := ?_) rfl (by kernel_rfl) (by kernel_rfl) (by kernel_rfl) (fun _ _ _ h => h) (Or.inl ⟨by rfl, ?_⟩) (by assumption) ?_
          rotate_left
          · (intro w' hSw; (try dsimp only at hSw); go_simp; try with_reducible rfl)
          (try simp only [List.getElem_toArray, List.getElem_cons_zero, List.getElem_cons_succ, Act.put, List.setIfInBounds_toArray, List.set_cons_zero, List.set_cons_succ])
          refine wpAnyH_take (i := 15) (v := ?_) rfl (by kernel_rfl) (by kernel_rfl) (by kernel_rfl) (fun _ _ _ h => h) (Or.inl ⟨by rfl, ?_⟩) (by assumption) ?_
          rotate_left
          · (intro w' hSw; (try dsimp only at hSw); go_simp; try with_reducible rfl)
          (try simp only [List.getElem_toArray, List.getElem_cons_zero, List.getElem_cons_succ, Act.put, List.setIfInBounds_toArray, List.set_cons_zero, List.set_cons_succ])
          refine wpAnyH_take (i := 16) (v := ?_) rfl (by kernel_rfl) (by kernel_rfl) (by kernel_rfl) (fun _ _ _ h => h) (Or.inl ⟨by rfl, ?_⟩) (by assumption) ?_
          rotate_left
          · (intro w' hSw; (try dsimp only at hSw); go_simp; try with_reducible rfl)
          (try simp only [List.getElem_toArray, List.getElem_cons_zero, List.getElem_cons_succ, Act.put, List.setIfInBounds_toArray, List.set_cons_zero, List.set_cons_succ])
          refine wpAnyH_take (i := 17) (v := ?_) rfl (by kernel_rfl) (by kernel_rfl) (by kernel_rfl) (fun _ _ _ h => h) (Or.inl ⟨by rfl, ?_⟩) (by assumption) ?_
          rotate_left
          · (intro w' hSw; (try dsimp only at hSw); go_simp; try with_reducible rfl)
          (try simp only [List.getElem_toArray, List.getElem_cons_zero, List.getElem_cons_succ, Act.put, List.setIfInBounds_toArray, List.set_cons_zero, List.set_cons_succ])
          refine wpAnyH_take (i := 18) (v := ?_) rfl (by kernel_rfl) (by kernel_rfl) (by kernel_rfl) (fun _ _ _ h => h) (Or.inl ⟨by rfl, ?_⟩) (by assumption) ?_
          rotate_left
          · (intro w' hSw; (try dsimp only at hSw); go_simp; try with_reducible rfl)
          (try simp only [List.getElem_toArray, List.getElem_cons_zero, List.getElem_cons_succ, Act.put, List.setIfInBounds_toArray, List.set_cons_zero, List.set_cons_succ])
          refine wpAnyH_take (i := 19) (v := ?_) rfl (by kernel_rfl) (by kernel_rfl) (by kernel_rfl) (fun _ _ _ h => h) (Or.inl ⟨by rfl, ?_⟩) (by assumption) ?_
          rotate_left
          · (intro w' hSw; (try dsimp only at hSw); go_simp; try with_reducible rfl)
          (try simp only [List.getElem_toArray, List.getElem_cons_zero, List.getElem_cons_succ, Act.put, List.setIfInBounds_toArray, List.set_cons_zero, List.set_cons_succ])
          refine wpAnyH_take (i := 20) (v := ?_) rfl (by kernel_rfl) (by kernel_rfl) (by kernel_rfl) (fun _ _ _ h => h) (Or.inl ⟨by rfl, ?_⟩) (by assumption) ?_
          rotate_left
          · (intro w' hSw; (try dsimp only at hSw); go_simp; try with_reducible rfl)
          (try simp only [List.getElem_toArray, List.getElem_cons_zero, List.getElem_cons_succ, Act.put, List.setIfInBounds_toArray, List.set_cons_zero, List.set_cons_succ])
          refine wpAnyH_take (i := 21) (v := ?_) rfl (by kernel_rfl) (by kernel_rfl) (by kernel_rfl) (fun _ _ _ h => h) (Or.inl ⟨by rfl, ?_⟩) (by assumption) ?_
          rotate_left
          · (intro w' hSw; (try dsimp only at hSw); go_simp; try with_reducible rfl)
          (try simp only [List.getElem_toArray, List.getElem_cons_zero, List.getElem_cons_succ, Act.put, List.setIfInBounds_toArray, List.set_cons_zero, List.set_cons_succ])
          refine wpAnyH_take (i := 22) (v := ?_) rfl (by kernel_rfl) (by kernel_rfl) (by kernel_rfl) (fun _ _ _ h => h) (Or.inl ⟨by rfl, ?_⟩) (by assumption) ?_
          rotate_left
          · (intro w' hSw; (try dsimp only at hSw); go_simp; try with_reducible rfl)
          (try simp only [List.getElem_toArray, List.getElem_cons_zero, List.getElem_cons_succ, Act.put, List.setIfInBounds_toArray, List.set_cons_zero, List.set_cons_succ])
          refine wpAnyH_ready (rs := [23]) (by kernel_rfl) (by simp) ?_
          refine AllReadyH.cons rfl (fun K hK => ?_) AllReadyH.nil
          have HKK := Lib.hid hK
          clear hK
          go_simp
          refine HKK.out _ _ (⟨(Below.drew (Below.refl wo.heap.size wo)), cell_below c0 (Below.drew (Below.refl wo.heap.size wo)), cell_below c1 (Below.drew (Below.refl wo.heap.size wo)), cell_below c2 (Below.drew (Below.refl wo.heap.size wo)), cell_below c3 (Below.drew (Below.refl wo.heap.size wo)), cell_below c4 (Below.drew (Below.refl wo.heap.size wo)), cell_below c9 (Below.drew (Below.refl wo.heap.size wo)), cell_below eD (Below.drew (Below.refl wo.heap.size wo)), cell_below eS (Below.drew (Below.refl wo.heap.size wo))⟩) (fun hH2 => ?_)
          clear HKK K
          replace hHeld := hH2
          clear hH2
          (try simp only [List.getElem_toArray, List.getElem_cons_zero, List.getElem_cons_succ, Act.put, List.setIfInBounds_toArray, List.set_cons_zero, List.set_cons_succ])
          have hco := HCO2.out
          rw [HLW2.out] at hco
          have HCO3 := Lib.hid hco
          clear hco
          refine wpAnyH_ready (rs := [24]) (by kernel_rfl) (by simp) ?_
          refine AllReadyH.cons rfl (fun K hK => ?_) AllReadyH.nil
          have HKK := Lib.hid hK
          clear hK
          go_simp
          refine (HCO3.out _ ((HXo.out.below (Below.drew (Below.refl wo.heap.size wo))).pr hP.out)).mono ?_
          rintro e' w5 ⟨rfl, hbw5⟩
          have hBw5 := below_tr hHeld.1 hbw5
          go_wp2_with fail
          refine HKK.out _ _ (⟨hBw5, cell_below c0 hBw5, cell_below c1 hBw5, cell_below c2 hBw5, cell_below c3 hBw5, cell_below c4 hBw5, cell_below c9 hBw5, cell_below eD hBw5, cell_below eS hBw5⟩) (fun hH2 => ?_)
          clear HKK K
          replace hHeld := hH2
          clear hH2
          (try simp only [List.getElem_toArray, List.getElem_cons_zero, List.getElem_cons_succ, Act.put, List.setIfInBounds_toArray, List.set_cons_zero, List.set_cons_succ])
          refine wpAnyH_take (i := 25) (v := ?_) rfl (by kernel_rfl) (by kernel_rfl) (by kernel_rfl) (fun _ _ _ h => h) (Or.inl ⟨by rfl, ?_⟩) (by assumption) ?_
          rotate_left
          · (intro w' hSw; (try dsimp only at hSw); go_simp; try with_reducible rfl)
          (try simp only [List.getElem_toArray, List.getElem_cons_zero, List.getElem_cons_succ, Act.put, List.setIfInBounds_toArray, List.set_cons_zero, List.set_cons_succ])
          refine wpAnyH_take (i := 26) (v := ?_) rfl (by kernel_rfl) (by kernel_rfl) (by kernel_rfl) (fun _ _ _ h => h) (Or.inl ⟨by rfl, ?_⟩) (by assumption) ?_
          rotate_left
          · (intro w' hSw; (try dsimp only at hSw); go_simp; try with_reducible rfl)
          (try simp only [List.getElem_toArray, List.getElem_cons_zero, List.getElem_cons_succ, Act.put, List.setIfInBounds_toArray, List.set_cons_zero, List.set_cons_succ])
          refine wpAnyH_done (by kernel_rfl) ?_ _
          have HX5 := Lib.hid (HXo.out.below hBw5)
          have HSB := Lib.hid (HSU2.out.symm)
          clear hHeld hBw5 hbw5 c0 c1 c2 c3 c4 c9 eD eS
          go_wp2_with fail
          go_roundw
          case rel => exact ⟨i + 1, by omega, by go_num, by rw [← HSU2.out], HX5.out⟩
          case measure => simp [intOf]; omega
      · have hie : i = x.buy.l.length := by omega
        have j2 : ¬ (i : Int) < (x.buy.l.length : Int) := by omega
        have HE := Lib.hid hie
        clear hie
        go_wp2_with fail
        go_ret
        exact ⟨by rw [HE.out]; rfl, hPBx.out.bel⟩

  · have hbo : x.p.bound = 0 := by unfold Pb.bound; rw [if_pos hc]
    rw [hbo]
    have hen : (x.p.chk != 0) = true := by simpa using hc
    clear hbo hc
    generalize x.p.chk = ck at *
    have hck := Lib.hid hck0
    clear hck0
    go_enter Try.func31, Try.ntmps31
    go_upto_region 1 with fail
    rw [← hWH.out]
    clear hWH
    go_wp2_with (refine wpList_load_problem rfl _ rfl w.heap.size rfl x hst.out.p ?_)
    refine (hck.out _ (hst.out.pr hP.out)).mono ?_
    rintro e w1 ⟨rfl, hb1⟩
    have HX1 := Lib.hid (hst.out.below hb1)
    clear hb1 hst hck
    go_wp2_with fail
    go_ret
    exact ⟨rfl, HX1.out.bel⟩

end Go.Proofs.Ytnppngaabfhkpaa
