/-
  The laws OptimumBetter and OptimumStrict, walked.
-/
import Derived.Test.YtnppngaabfhkpaaQOP6
import Derived.Test.YtnppngaabfhkpaaQU19
namespace Go.Proofs.Ytnppngaabfhkpaa
open Go.RowKit
attribute [local go_sem ↓] Go.wp_at_zero Go.wp_at_succ

section
variable {ops : Array Oper} {rest : List Oper} {o : Oper} {a : Act} {W : World} {Q : Exit → Act → World → Prop}
theorem wpList_load_planG (hw : Region.wanted o (yielded ops a.tmps) = true) (s : Operand) (ho : o.op = .load 33 s) (g : Nat) (hx : a.eval s = .pointer (some ⟨g, 0, none⟩)) (y : PnM) (h : Blk W g 33 y.cs) (hk : wpList Try.prog ops Q rest (a.put o.dst y.v) W) :
    wpList Try.prog ops Q (o :: rest) a W := wpList_step fun _ hK => step_load_blk hw 33 (by kernel_rfl) (by kernel_rfl) s ho g hx h (hK _ _ hk)
end


set_option maxRecDepth 100000 in
set_option maxHeartbeats 64000000 in
theorem obetter_law (x : PbM) (a b : PnM) (w : World) (hP0 : RPb w x) (hL0 : ∀ z ∈ x.loads, z.r.prof.length ≤ maxLen ∧ z.r.name.size ≤ maxLen ∧ -9223372036854775808 ≤ z.r.late ∧ z.r.late ≤ 9223372036854775807) (hc0 : x.loads.length ≤ x.lc) (hm0 : x.buy.l.length ≤ maxLen) (hA0 : RPn w a) (hFa : a.Fit) (hB0 : RPn w b) (hFb : b.Fit) :
    Calls Try.prog 9 #[x.v, a.v, b.v] w fun e w' => e = .returned (.bool true) ∧ Below w.heap.size w w' := by
  have hF0 : x.Fit := ⟨fun y h => (hL0 y h).2.1, fun y h => (hL0 y h).1, hc0, hm0, fun y h => (hL0 y h).2.2⟩
  have hP := Lib.hid hP0
  have hA := Lib.hid hA0
  have hB := Lib.hid hB0
  have hlv := Lib.hid lives_any
  have hwd := Lib.hid wide_any
  have hbt := Lib.hid (fun (l : x.loads.length ≤ 1000) W (y z : PnM) (h : RPb W x) (h2 : RPn W y) (h3 : RPn W z) (f2 : y.Fit) (f3 : z.Fit) => better_any x y z W h h2 h3 hF0 f2 f3 l)
  have hrb := Lib.hid (fun (l : x.loads.length ≤ 1000) W (y z : PnM) (h : RPb W x) (h2 : RPn W y) (h3 : RPn W z) (f2 : y.Fit) (f3 : z.Fit) => rbetter_any x y z W h h2 h3 hF0 f2 f3 l)
  have hst0 := B3.start x a b w
  simp only [PbM.v, PnM.v]
  obtain ⟨W, hW⟩ : ∃ W, W = ((w.alloc (.cells #[.slice x.buy.A x.buy.l.length x.buy.c, .slice x.sell.A x.sell.l.length x.sell.c, .int .i64 x.fuse, .slice x.solar.A x.solar.l.length x.solar.c, .slice x.demand.A x.demand.l.length x.demand.c, .slice x.outside.A x.outside.l.length x.outside.c, .int .i64 x.bat.cap, .int .i64 x.bat.reserve, .int .i64 x.bat.charge, .int .i64 x.bat.discharge, .int .i64 x.bat.eff, .int .i64 x.gain, .int .i64 x.loss, .int .i64 x.steps, .int .i64 x.power, .slice x.low.A x.low.l.length x.low.c, .slice x.high.A x.high.l.length x.high.c, .slice x.LA x.loads.length x.lc, .int .i64 x.level, .int .i64 x.temp] 31)).alloc (.cells #[.slice a.charge.A a.charge.l.length a.charge.c, .slice a.heat.A a.heat.l.length a.heat.c, .slice a.start.A a.start.l.length a.start.c] 33)).alloc (.cells #[.slice b.charge.A b.charge.l.length b.charge.c, .slice b.heat.A b.heat.l.length b.heat.c, .slice b.start.A b.start.l.length b.start.c] 33) := ⟨_, rfl⟩
  rw [show ((w.alloc (.cells x.cs 31)).alloc (.cells a.cs 33)).alloc (.cells b.cs 33) = W from hW.symm] at hst0
  have hst := Lib.hid hst0
  have k0 := hst0.p.cell 0
  have k17 := hst0.p.cell 17
  simp [PbM.cs] at k0 k17
  have hWH := Lib.hid hW
  clear hst0 hW hP0 hA0 hB0 hL0 hc0 hm0 hF0
  go_enter Try.func9, Try.ntmps9
  go_upto_region 1 with fail
  rw [← hWH.out]
  clear hWH
  by_cases h1 : (30 : Int) < (x.buy.l.length : Int)
  · go_wp2_with fail
    refine (hlv.out _).mono ?_
    rintro e wl ⟨rfl, hbl⟩
    go_wp2_with fail
    go_ret
    exact ⟨rfl, hst.out.bel.trans (hbl.mono hst.out.bel.size)⟩
  · by_cases h2 : (20 : Int) < (x.loads.length : Int)
    · go_wp2_with fail
      refine (hlv.out _).mono ?_
      rintro e wl ⟨rfl, hbl⟩
      go_wp2_with fail
      go_ret
      exact ⟨rfl, hst.out.bel.trans (hbl.mono hst.out.bel.size)⟩
    · have hl2 : x.loads.length ≤ 1000 := by omega
      replace hbt := Lib.hid (hbt.out hl2)
      replace hrb := Lib.hid (hrb.out hl2)
      go_wp2_with (first | refine wpList_load_problemG (by rfl) _ rfl w.heap.size rfl x hst.out.p ?_ | refine wpList_load_planG (by rfl) _ rfl (w.heap.size + 1) rfl a hst.out.a ?_ | refine wpList_load_planG (by rfl) _ rfl (w.heap.size + 2) rfl b hst.out.b ?_)
      refine (hwd.out a _).mono ?_
      rintro e w1 ⟨g1, rfl, _, hb1⟩
      have HX1 := Lib.hid (hst.out.below hb1)
      clear hb1 k0 k17 hst
      cases g1
      rotate_left
      · go_wp2_with fail
        refine (hlv.out _).mono ?_
        rintro e wl ⟨rfl, hbl⟩
        go_wp2_with fail
        go_ret
        exact ⟨rfl, HX1.out.bel.trans (hbl.mono HX1.out.bel.size)⟩
      go_wp2_with (first | refine wpList_load_problemG (by rfl) _ rfl w.heap.size rfl x HX1.out.p ?_ | refine wpList_load_planG (by rfl) _ rfl (w.heap.size + 1) rfl a HX1.out.a ?_ | refine wpList_load_planG (by rfl) _ rfl (w.heap.size + 2) rfl b HX1.out.b ?_)
      refine (hwd.out b _).mono ?_
      rintro e w2 ⟨g2, rfl, _, hb2⟩
      have HX2 := Lib.hid (HX1.out.below hb2)
      clear hb2 HX1 hwd
      cases g2
      rotate_left
      · go_wp2_with fail
        refine (hlv.out _).mono ?_
        rintro e wl ⟨rfl, hbl⟩
        go_wp2_with fail
        go_ret
        exact ⟨rfl, HX2.out.bel.trans (hbl.mono HX2.out.bel.size)⟩
      have HK2 : Hid (∀ W', Below w2.heap.size w2 W' → Below w2.heap.size w2 W' ∧ Blk W' w.heap.size 31 x.cs ∧ Blk W' (w.heap.size + 1) 33 a.cs ∧ Blk W' (w.heap.size + 2) 33 b.cs) := fun W' hb => ⟨hb, HX2.out.p.below hb HX2.out.p.lt, HX2.out.a.below hb HX2.out.a.lt, HX2.out.b.below hb HX2.out.b.lt⟩
      have HR2 : Hid (∀ W', Below w2.heap.size w2 W' → RPb W' x ∧ RPn W' a ∧ RPn W' b) := fun W' hb => ⟨(HX2.out.pr hP.out).below hb, (hA.out.below HX2.out.bel).below hb, (hB.out.below HX2.out.bel).below hb⟩
      go_upto_region 3 with fail
      refine wp_region_held_drew (S := (fun w' => Below w2.heap.size w2 w' ∧ Blk w' w.heap.size 31 x.cs ∧ Blk w' (w.heap.size + 1) 33 a.cs ∧ Blk w' (w.heap.size + 2) 33 b.cs)) (by kernel_rfl) (HK2.out _ (Below.drew (Below.refl _ _))) (fun hHeld => ?_)
      refine wpAnyH_take (i := 0) (v := .agg x.cs) rfl (by kernel_rfl) (by kernel_rfl) (by kernel_rfl) (fun _ _ _ h => h) (yieldsIf_load_blk (by rfl) 31 (by kernel_rfl) (by kernel_rfl) _ rfl w.heap.size rfl (fun _ h => h.2.1)) (by assumption) ?_
      (try simp only [List.getElem_toArray, List.getElem_cons_zero, Act.put, List.setIfInBounds_toArray, List.set_cons_zero, List.set_cons_succ])
      refine wpAnyH_take (i := 1) (v := .agg a.cs) rfl (by kernel_rfl) (by kernel_rfl) (by kernel_rfl) (fun _ _ _ h => h) (yieldsIf_load_blk (by rfl) 33 (by kernel_rfl) (by kernel_rfl) _ rfl (w.heap.size + 1) rfl (fun _ h => h.2.2.1)) (by assumption) ?_
      (try simp only [List.getElem_toArray, List.getElem_cons_zero, List.getElem_cons_succ, Act.put, List.setIfInBounds_toArray, List.set_cons_zero, List.set_cons_succ])
      refine wpAnyH_take (i := 2) (v := .agg b.cs) rfl (by kernel_rfl) (by kernel_rfl) (by kernel_rfl) (fun _ _ _ h => h) (yieldsIf_load_blk (by rfl) 33 (by kernel_rfl) (by kernel_rfl) _ rfl (w.heap.size + 2) rfl (fun _ h => h.2.2.2)) (by assumption) ?_
      (try simp only [List.getElem_toArray, List.getElem_cons_zero, List.getElem_cons_succ, Act.put, List.setIfInBounds_toArray, List.set_cons_zero, List.set_cons_succ])
      refine wpAnyH_take (i := 4) (v := .agg x.cs) rfl (by kernel_rfl) (by kernel_rfl) (by kernel_rfl) (fun _ _ _ h => h) (yieldsIf_load_blk (by rfl) 31 (by kernel_rfl) (by kernel_rfl) _ rfl w.heap.size rfl (fun _ h => h.2.1)) (by assumption) ?_
      (try simp only [List.getElem_toArray, List.getElem_cons_zero, List.getElem_cons_succ, Act.put, List.setIfInBounds_toArray, List.set_cons_zero, List.set_cons_succ])
      refine wpAnyH_take (i := 5) (v := .agg a.cs) rfl (by kernel_rfl) (by kernel_rfl) (by kernel_rfl) (fun _ _ _ h => h) (yieldsIf_load_blk (by rfl) 33 (by kernel_rfl) (by kernel_rfl) _ rfl (w.heap.size + 1) rfl (fun _ h => h.2.2.1)) (by assumption) ?_
      (try simp only [List.getElem_toArray, List.getElem_cons_zero, List.getElem_cons_succ, Act.put, List.setIfInBounds_toArray, List.set_cons_zero, List.set_cons_succ])
      refine wpAnyH_take (i := 6) (v := .agg b.cs) rfl (by kernel_rfl) (by kernel_rfl) (by kernel_rfl) (fun _ _ _ h => h) (yieldsIf_load_blk (by rfl) 33 (by kernel_rfl) (by kernel_rfl) _ rfl (w.heap.size + 2) rfl (fun _ h => h.2.2.2)) (by assumption) ?_
      (try simp only [List.getElem_toArray, List.getElem_cons_zero, List.getElem_cons_succ, Act.put, List.setIfInBounds_toArray, List.set_cons_zero, List.set_cons_succ])
      refine wpAnyH_ready (rs := [3]) (by kernel_rfl) (by simp) ?_
      refine AllReadyH.cons rfl (fun K hK => ?_) AllReadyH.nil
      have HKK := Lib.hid hK
      clear hK
      go_simp
      refine (hbt.out _ a b (HR2.out _ hHeld.1).1 (HR2.out _ hHeld.1).2.1 (HR2.out _ hHeld.1).2.2 hFa hFb).mono ?_
      rintro e' w3 ⟨rfl, hbw3⟩
      have hBw3 := below_tr hHeld.1 hbw3
      go_wp2_with fail
      refine HKK.out _ _ (HK2.out _ hBw3) (fun hH2 => ?_)
      clear HKK K
      replace hHeld := hH2
      clear hH2
      (try simp only [List.getElem_toArray, List.getElem_cons_zero, List.getElem_cons_succ, Act.put, List.setIfInBounds_toArray, List.set_cons_zero, List.set_cons_succ])
      refine wpAnyH_ready (rs := [7]) (by kernel_rfl) (by simp) ?_
      refine AllReadyH.cons rfl (fun K hK => ?_) AllReadyH.nil
      have HKK := Lib.hid hK
      clear hK
      go_simp
      refine (hrb.out _ a b (HR2.out _ hHeld.1).1 (HR2.out _ hHeld.1).2.1 (HR2.out _ hHeld.1).2.2 hFa hFb).mono ?_
      rintro e' w4 ⟨rfl, hbw4⟩
      have hBw4 := below_tr hHeld.1 hbw4
      go_wp2_with fail
      refine HKK.out _ _ (HK2.out _ hBw4) (fun hH2 => ?_)
      clear HKK K
      replace hHeld := hH2
      clear hH2
      (try simp only [List.getElem_toArray, List.getElem_cons_zero, List.getElem_cons_succ, Act.put, List.setIfInBounds_toArray, List.set_cons_zero, List.set_cons_succ])
      refine wpAnyH_take (i := 8) (v := ?_) rfl (by kernel_rfl) (by kernel_rfl) (by kernel_rfl) (fun _ _ _ h => h) (Or.inl ⟨by rfl, ?_⟩) (by assumption) ?_
      rotate_left
      · (intro w' hSw; (try dsimp only at hSw); go_simp; try with_reducible rfl)
      (try simp only [List.getElem_toArray, List.getElem_cons_zero, List.getElem_cons_succ, Act.put, List.setIfInBounds_toArray, List.set_cons_zero, List.set_cons_succ])
      refine wpAnyH_take (i := 9) (v := ?_) rfl (by kernel_rfl) (by kernel_rfl) (by kernel_rfl) (fun _ _ _ h => h) (Or.inl ⟨by rfl, ?_⟩) (by assumption) ?_
      rotate_left
      · (intro w' hSw; (try dsimp only at hSw); go_simp; try with_reducible rfl)
      (try simp only [List.getElem_toArray, List.getElem_cons_zero, List.getElem_cons_succ, Act.put, List.setIfInBounds_toArray, List.set_cons_zero, List.set_cons_succ])
      refine wpAnyH_ready (rs := [10]) (by kernel_rfl) (by simp) ?_
      refine AllReadyH.cons rfl (fun K hK => ?_) AllReadyH.nil
      have HKK := Lib.hid hK
      clear hK
      go_simp
      refine (hlv.out _).mono ?_
      rintro e' w5 ⟨rfl, hbw5⟩
      have hBw5 := below_tr hHeld.1 hbw5
      go_wp2_with fail
      refine HKK.out _ _ (HK2.out _ hBw5) (fun hH2 => ?_)
      clear HKK K
      replace hHeld := hH2
      clear hH2
      (try simp only [List.getElem_toArray, List.getElem_cons_zero, List.getElem_cons_succ, Act.put, List.setIfInBounds_toArray, List.set_cons_zero, List.set_cons_succ])
      refine wpAnyH_take (i := 11) (v := ?_) rfl (by kernel_rfl) (by kernel_rfl) (by kernel_rfl) (fun _ _ _ h => h) (Or.inl ⟨by rfl, ?_⟩) (by assumption) ?_
      rotate_left
      · (intro w' hSw; (try dsimp only at hSw); go_simp; try with_reducible rfl)
      (try simp only [List.getElem_toArray, List.getElem_cons_zero, List.getElem_cons_succ, Act.put, List.setIfInBounds_toArray, List.set_cons_zero, List.set_cons_succ])
      refine wpAnyH_take (i := 12) (v := ?_) rfl (by kernel_rfl) (by kernel_rfl) (by kernel_rfl) (fun _ _ _ h => h) (Or.inl ⟨by rfl, ?_⟩) (by assumption) ?_
      rotate_left
      · (intro w' hSw; (try dsimp only at hSw); go_simp; try with_reducible rfl)
      (try simp only [List.getElem_toArray, List.getElem_cons_zero, List.getElem_cons_succ, Act.put, List.setIfInBounds_toArray, List.set_cons_zero, List.set_cons_succ])
      refine wpAnyH_done (by kernel_rfl) ?_ _

      go_wp2_with fail
      go_ret
      exact ⟨by simp, HX2.out.bel.trans (hHeld.1.mono HX2.out.bel.size)⟩

set_option maxRecDepth 100000 in
set_option maxHeartbeats 64000000 in
theorem ostrict_law (x : PbM) (a b : PnM) (w : World) (hP0 : RPb w x) (hL0 : ∀ z ∈ x.loads, z.r.prof.length ≤ maxLen ∧ z.r.name.size ≤ maxLen ∧ -9223372036854775808 ≤ z.r.late ∧ z.r.late ≤ 9223372036854775807) (hc0 : x.loads.length ≤ x.lc) (hm0 : x.buy.l.length ≤ maxLen) (hA0 : RPn w a) (hFa : a.Fit) (hB0 : RPn w b) (hFb : b.Fit) :
    Calls Try.prog 10 #[x.v, a.v, b.v] w fun e w' => e = .returned (.bool true) ∧ Below w.heap.size w w' := by
  have hF0 : x.Fit := ⟨fun y h => (hL0 y h).2.1, fun y h => (hL0 y h).1, hc0, hm0, fun y h => (hL0 y h).2.2⟩
  have hP := Lib.hid hP0
  have hA := Lib.hid hA0
  have hB := Lib.hid hB0
  have hlv := Lib.hid lives_any
  have hwd := Lib.hid wide_any
  have hbt := Lib.hid (fun (l : x.loads.length ≤ 1000) W (y z : PnM) (h : RPb W x) (h2 : RPn W y) (h3 : RPn W z) (f2 : y.Fit) (f3 : z.Fit) => better_any x y z W h h2 h3 hF0 f2 f3 l)
  have hrb := Lib.hid (fun (l : x.loads.length ≤ 1000) W (y z : PnM) (h : RPb W x) (h2 : RPn W y) (h3 : RPn W z) (f2 : y.Fit) (f3 : z.Fit) => rbetter_any x y z W h h2 h3 hF0 f2 f3 l)
  have hst0 := B3.start x a b w
  simp only [PbM.v, PnM.v]
  obtain ⟨W, hW⟩ : ∃ W, W = ((w.alloc (.cells #[.slice x.buy.A x.buy.l.length x.buy.c, .slice x.sell.A x.sell.l.length x.sell.c, .int .i64 x.fuse, .slice x.solar.A x.solar.l.length x.solar.c, .slice x.demand.A x.demand.l.length x.demand.c, .slice x.outside.A x.outside.l.length x.outside.c, .int .i64 x.bat.cap, .int .i64 x.bat.reserve, .int .i64 x.bat.charge, .int .i64 x.bat.discharge, .int .i64 x.bat.eff, .int .i64 x.gain, .int .i64 x.loss, .int .i64 x.steps, .int .i64 x.power, .slice x.low.A x.low.l.length x.low.c, .slice x.high.A x.high.l.length x.high.c, .slice x.LA x.loads.length x.lc, .int .i64 x.level, .int .i64 x.temp] 31)).alloc (.cells #[.slice a.charge.A a.charge.l.length a.charge.c, .slice a.heat.A a.heat.l.length a.heat.c, .slice a.start.A a.start.l.length a.start.c] 33)).alloc (.cells #[.slice b.charge.A b.charge.l.length b.charge.c, .slice b.heat.A b.heat.l.length b.heat.c, .slice b.start.A b.start.l.length b.start.c] 33) := ⟨_, rfl⟩
  rw [show ((w.alloc (.cells x.cs 31)).alloc (.cells a.cs 33)).alloc (.cells b.cs 33) = W from hW.symm] at hst0
  have hst := Lib.hid hst0
  have k0 := hst0.p.cell 0
  have k17 := hst0.p.cell 17
  simp [PbM.cs] at k0 k17
  have hWH := Lib.hid hW
  clear hst0 hW hP0 hA0 hB0 hL0 hc0 hm0 hF0
  go_enter Try.func10, Try.ntmps10
  go_upto_region 1 with fail
  rw [← hWH.out]
  clear hWH
  by_cases h1 : (30 : Int) < (x.buy.l.length : Int)
  · go_wp2_with fail
    refine (hlv.out _).mono ?_
    rintro e wl ⟨rfl, hbl⟩
    go_wp2_with fail
    go_ret
    exact ⟨rfl, hst.out.bel.trans (hbl.mono hst.out.bel.size)⟩
  · by_cases h2 : (20 : Int) < (x.loads.length : Int)
    · go_wp2_with fail
      refine (hlv.out _).mono ?_
      rintro e wl ⟨rfl, hbl⟩
      go_wp2_with fail
      go_ret
      exact ⟨rfl, hst.out.bel.trans (hbl.mono hst.out.bel.size)⟩
    · have hl2 : x.loads.length ≤ 1000 := by omega
      replace hbt := Lib.hid (hbt.out hl2)
      replace hrb := Lib.hid (hrb.out hl2)
      have hab := fun W (h : RPb W x) (h2 : RPn W a) (h3 : RPn W b) => hbt.out W a b h h2 h3 hFa hFb
      have hba := fun W (h : RPb W x) (h2 : RPn W a) (h3 : RPn W b) => hbt.out W b a h h3 h2 hFb hFa
      have haa := fun W (h : RPb W x) (h2 : RPn W a) => hbt.out W a a h h2 h2 hFa hFa
      have hbb := fun W (h : RPb W x) (h2 : RPn W b) => hbt.out W b b h h2 h2 hFb hFb
      have hasy := fun (h : x.p.better a.x b.x = true) => Pb.better_asymm h
      rw [Pb.better_irrefl] at haa hbb
      generalize x.p.better a.x b.x = p1 at *
      generalize x.p.better b.x a.x = p2 at *
      have HAB := Lib.hid hab
      have HBA := Lib.hid hba
      have HAA := Lib.hid haa
      have HBB := Lib.hid hbb
      have HASY := Lib.hid hasy
      clear hab hba haa hbb hasy hbt hrb
      go_wp2_with (first | refine wpList_load_problemG (by rfl) _ rfl w.heap.size rfl x hst.out.p ?_ | refine wpList_load_planG (by rfl) _ rfl (w.heap.size + 1) rfl a hst.out.a ?_ | refine wpList_load_planG (by rfl) _ rfl (w.heap.size + 2) rfl b hst.out.b ?_)
      refine (hwd.out a _).mono ?_
      rintro e w1 ⟨g1, rfl, _, hb1⟩
      have HX1 := Lib.hid (hst.out.below hb1)
      clear hb1 k0 k17 hst
      cases g1
      rotate_left
      · go_wp2_with fail
        refine (hlv.out _).mono ?_
        rintro e wl ⟨rfl, hbl⟩
        go_wp2_with fail
        go_ret
        exact ⟨rfl, HX1.out.bel.trans (hbl.mono HX1.out.bel.size)⟩
      go_wp2_with (first | refine wpList_load_problemG (by rfl) _ rfl w.heap.size rfl x HX1.out.p ?_ | refine wpList_load_planG (by rfl) _ rfl (w.heap.size + 1) rfl a HX1.out.a ?_ | refine wpList_load_planG (by rfl) _ rfl (w.heap.size + 2) rfl b HX1.out.b ?_)
      refine (hwd.out b _).mono ?_
      rintro e w2 ⟨g2, rfl, _, hb2⟩
      have HX2 := Lib.hid (HX1.out.below hb2)
      clear hb2 HX1 hwd
      cases g2
      rotate_left
      · go_wp2_with fail
        refine (hlv.out _).mono ?_
        rintro e wl ⟨rfl, hbl⟩
        go_wp2_with fail
        go_ret
        exact ⟨rfl, HX2.out.bel.trans (hbl.mono HX2.out.bel.size)⟩
      have HK2 : Hid (∀ W', Below w2.heap.size w2 W' → Below w2.heap.size w2 W' ∧ Blk W' w.heap.size 31 x.cs ∧ Blk W' (w.heap.size + 1) 33 a.cs ∧ Blk W' (w.heap.size + 2) 33 b.cs) := fun W' hb => ⟨hb, HX2.out.p.below hb HX2.out.p.lt, HX2.out.a.below hb HX2.out.a.lt, HX2.out.b.below hb HX2.out.b.lt⟩
      have HR2 : Hid (∀ W', Below w2.heap.size w2 W' → RPb W' x ∧ RPn W' a ∧ RPn W' b) := fun W' hb => ⟨(HX2.out.pr hP.out).below hb, (hA.out.below HX2.out.bel).below hb, (hB.out.below HX2.out.bel).below hb⟩
      go_upto_region 3 with fail
      refine wp_region_held_drew (S := (fun w' => Below w2.heap.size w2 w' ∧ Blk w' w.heap.size 31 x.cs ∧ Blk w' (w.heap.size + 1) 33 a.cs ∧ Blk w' (w.heap.size + 2) 33 b.cs)) (by kernel_rfl) (HK2.out _ (Below.drew (Below.refl _ _))) (fun hHeld => ?_)
      refine wpAnyH_take (i := 0) (v := .agg x.cs) rfl (by kernel_rfl) (by kernel_rfl) (by kernel_rfl) (fun _ _ _ h => h) (yieldsIf_load_blk (by rfl) 31 (by kernel_rfl) (by kernel_rfl) _ rfl w.heap.size rfl (fun _ h => h.2.1)) (by assumption) ?_
      (try simp only [List.getElem_toArray, List.getElem_cons_zero, Act.put, List.setIfInBounds_toArray, List.set_cons_zero, List.set_cons_succ])
      refine wpAnyH_take (i := 1) (v := .agg a.cs) rfl (by kernel_rfl) (by kernel_rfl) (by kernel_rfl) (fun _ _ _ h => h) (yieldsIf_load_blk (by rfl) 33 (by kernel_rfl) (by kernel_rfl) _ rfl (w.heap.size + 1) rfl (fun _ h => h.2.2.1)) (by assumption) ?_
      (try simp only [List.getElem_toArray, List.getElem_cons_zero, List.getElem_cons_succ, Act.put, List.setIfInBounds_toArray, List.set_cons_zero, List.set_cons_succ])
      refine wpAnyH_take (i := 2) (v := .agg b.cs) rfl (by kernel_rfl) (by kernel_rfl) (by kernel_rfl) (fun _ _ _ h => h) (yieldsIf_load_blk (by rfl) 33 (by kernel_rfl) (by kernel_rfl) _ rfl (w.heap.size + 2) rfl (fun _ h => h.2.2.2)) (by assumption) ?_
      (try simp only [List.getElem_toArray, List.getElem_cons_zero, List.getElem_cons_succ, Act.put, List.setIfInBounds_toArray, List.set_cons_zero, List.set_cons_succ])
      refine wpAnyH_take (i := 4) (v := .agg x.cs) rfl (by kernel_rfl) (by kernel_rfl) (by kernel_rfl) (fun _ _ _ h => h) (yieldsIf_load_blk (by rfl) 31 (by kernel_rfl) (by kernel_rfl) _ rfl w.heap.size rfl (fun _ h => h.2.1)) (by assumption) ?_
      (try simp only [List.getElem_toArray, List.getElem_cons_zero, List.getElem_cons_succ, Act.put, List.setIfInBounds_toArray, List.set_cons_zero, List.set_cons_succ])
      refine wpAnyH_take (i := 5) (v := .agg b.cs) rfl (by kernel_rfl) (by kernel_rfl) (by kernel_rfl) (fun _ _ _ h => h) (yieldsIf_load_blk (by rfl) 33 (by kernel_rfl) (by kernel_rfl) _ rfl (w.heap.size + 2) rfl (fun _ h => h.2.2.2)) (by assumption) ?_
      (try simp only [List.getElem_toArray, List.getElem_cons_zero, List.getElem_cons_succ, Act.put, List.setIfInBounds_toArray, List.set_cons_zero, List.set_cons_succ])
      refine wpAnyH_take (i := 6) (v := .agg a.cs) rfl (by kernel_rfl) (by kernel_rfl) (by kernel_rfl) (fun _ _ _ h => h) (yieldsIf_load_blk (by rfl) 33 (by kernel_rfl) (by kernel_rfl) _ rfl (w.heap.size + 1) rfl (fun _ h => h.2.2.1)) (by assumption) ?_
      (try simp only [List.getElem_toArray, List.getElem_cons_zero, List.getElem_cons_succ, Act.put, List.setIfInBounds_toArray, List.set_cons_zero, List.set_cons_succ])
      refine wpAnyH_ready (rs := [3]) (by kernel_rfl) (by simp) ?_
      refine AllReadyH.cons rfl (fun K hK => ?_) AllReadyH.nil
      have HKK := Lib.hid hK
      clear hK
      go_simp
      refine (HAB.out _ (HR2.out _ hHeld.1).1 (HR2.out _ hHeld.1).2.1 (HR2.out _ hHeld.1).2.2).mono ?_
      rintro e' w3 ⟨rfl, hbw3⟩
      have hBw3 := below_tr hHeld.1 hbw3
      go_wp2_with fail
      refine HKK.out _ _ (HK2.out _ hBw3) (fun hH2 => ?_)
      clear HKK K
      replace hHeld := hH2
      clear hH2
      (try simp only [List.getElem_toArray, List.getElem_cons_zero, List.getElem_cons_succ, Act.put, List.setIfInBounds_toArray, List.set_cons_zero, List.set_cons_succ])
      refine wpAnyH_ready (rs := [7]) (by kernel_rfl) (by simp) ?_
      refine AllReadyH.cons rfl (fun K hK => ?_) AllReadyH.nil
      have HKK := Lib.hid hK
      clear hK
      go_simp
      refine (HBA.out _ (HR2.out _ hHeld.1).1 (HR2.out _ hHeld.1).2.1 (HR2.out _ hHeld.1).2.2).mono ?_
      rintro e' w4 ⟨rfl, hbw4⟩
      have hBw4 := below_tr hHeld.1 hbw4
      go_wp2_with fail
      refine HKK.out _ _ (HK2.out _ hBw4) (fun hH2 => ?_)
      clear HKK K
      replace hHeld := hH2
      clear hH2
      (try simp only [List.getElem_toArray, List.getElem_cons_zero, List.getElem_cons_succ, Act.put, List.setIfInBounds_toArray, List.set_cons_zero, List.set_cons_succ])
      refine wpAnyH_take (i := 8) (v := ?_) rfl (by kernel_rfl) (by kernel_rfl) (by kernel_rfl) (fun _ _ _ h => h) (Or.inl ⟨by rfl, ?_⟩) (by assumption) ?_
      rotate_left
      · (intro w' hSw; (try dsimp only at hSw); go_simp; try with_reducible rfl)
      (try simp only [List.getElem_toArray, List.getElem_cons_zero, List.getElem_cons_succ, Act.put, List.setIfInBounds_toArray, List.set_cons_zero, List.set_cons_succ])
      refine wpAnyH_take (i := 9) (v := ?_) rfl (by kernel_rfl) (by kernel_rfl) (by kernel_rfl) (fun _ _ _ h => h) (Or.inl ⟨by rfl, ?_⟩) (by assumption) ?_
      rotate_left
      · (intro w' hSw; (try dsimp only at hSw); go_simp; try with_reducible rfl)
      (try simp only [List.getElem_toArray, List.getElem_cons_zero, List.getElem_cons_succ, Act.put, List.setIfInBounds_toArray, List.set_cons_zero, List.set_cons_succ])
      refine wpAnyH_done (by kernel_rfl) ?_ _

      have HX4 := Lib.hid (HX2.out.below hHeld.1)
      clear hHeld HK2 HR2 HX2
      go_upto_region 4 with fail
      have HN := HASY.out
      cases p1 <;> cases p2
      rotate_right
      · (have := HN rfl; cases this)
      all_goals
        go_wp2_with (first | refine wpList_load_problemG (by rfl) _ rfl w.heap.size rfl x HX4.out.p ?_ | refine wpList_load_planG (by rfl) _ rfl (w.heap.size + 1) rfl a HX4.out.a ?_ | refine wpList_load_planG (by rfl) _ rfl (w.heap.size + 2) rfl b HX4.out.b ?_)
        refine (HAA.out _ (HX4.out.pr hP.out) (hA.out.below HX4.out.bel)).mono ?_
        rintro e w5 ⟨rfl, hb5⟩
        have HX5 := Lib.hid (HX4.out.below hb5)
        go_wp2_with (first | refine wpList_load_problemG (by rfl) _ rfl w.heap.size rfl x HX5.out.p ?_ | refine wpList_load_planG (by rfl) _ rfl (w.heap.size + 1) rfl a HX5.out.a ?_ | refine wpList_load_planG (by rfl) _ rfl (w.heap.size + 2) rfl b HX5.out.b ?_)
        refine (HBB.out _ (HX5.out.pr hP.out) (hB.out.below HX5.out.bel)).mono ?_
        rintro e w6 ⟨rfl, hb6⟩
        have HX6 := Lib.hid (HX5.out.below hb6)
        go_wp2_with fail
        refine (hlv.out _).mono ?_
        rintro e wl ⟨rfl, hbl⟩
        go_wp2_with fail
        go_ret
        exact ⟨by simp, HX6.out.bel.trans (hbl.mono HX6.out.bel.size)⟩
end Go.Proofs.Ytnppngaabfhkpaa
