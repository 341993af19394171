/-
  The law TopFrugal, walked.
-/
import Derived.Test.YtnppngaabfhkpaaFV1
import Derived.Test.YtnppngaabfhkpaaFV2
namespace Go.Proofs.Ytnppngaabfhkpaa
open Go.RowKit
attribute [local go_sem ↓] Go.wp_at_zero Go.wp_at_succ

theorem PbM.little_lim {x : PbM} (h : x.little = true) : x.p.lim = true := by
  unfold PbM.little at h
  simp only [Bool.and_eq_true, decide_eq_true_iff] at h
  obtain ⟨h1, h2, h3, h4⟩ := h
  unfold Pb.lim
  simp only [Bool.and_eq_true, decide_eq_true_iff]
  exact ⟨show x.buy.l.length ≤ 24 by omega, show x.bat.cap ≤ 20 by omega, show x.steps ≤ 8 by omega, by show (x.loads.map _).length ≤ 2; rw [List.length_map]; omega⟩
section
variable {ops : Array Oper} {rest : List Oper} {o : Oper} {a : Act} {W : World} {Q : Exit → Act → World → Prop}
theorem wpList_load_planG (hw : Region.wanted o (yielded ops a.tmps) = true) (s : Operand) (ho : o.op = .load 33 s) (g : Nat) (hx : a.eval s = .pointer (some ⟨g, 0, none⟩)) (y : PnM) (h : Blk W g 33 y.cs) (hk : wpList Try.prog ops Q rest (a.put o.dst y.v) W) :
    wpList Try.prog ops Q (o :: rest) a W := wpList_step fun _ hK => step_load_blk hw 33 (by kernel_rfl) (by kernel_rfl) s ho g hx h (hK _ _ hk)
end

set_option maxRecDepth 100000 in
set_option maxHeartbeats 64000000 in
theorem tfrugal_law (x : PbM) (y : PnM) (w : World) (hP0 : RPb w x) (hL0 : ∀ z ∈ x.loads, z.r.prof.length ≤ maxLen ∧ z.r.name.size ≤ maxLen ∧ -9223372036854775808 ≤ z.r.late ∧ z.r.late ≤ 9223372036854775807) (hc0 : x.loads.length ≤ x.lc) (hm0 : x.buy.l.length ≤ maxLen) (hQ0 : RPn w y) (hG0 : y.Fit) :
    Calls Try.prog 3 #[x.v, y.v] w fun e w' => e = .returned (.bool true) ∧ Below w.heap.size w w' := by
  have hF0 : x.Fit := ⟨fun y h => (hL0 y h).2.1, fun y h => (hL0 y h).1, hc0, hm0, fun y h => (hL0 y h).2.2⟩
  have _ := hG0
  have hP := Lib.hid hP0
  have hQ := Lib.hid hQ0
  have hlv := Lib.hid frugal_any
  have hli := little_any x
  have hck0 := fun W (h : RPb W x) => pcheck_any x W h hF0
  have hbe := fun W (h : RPb W x) => best_any x W h hF0
  have hwi := fun (hc : x.p.chk = 0) W (h : RPb W x) (h2 : RPn W y) => topwithin_any x y W h h2 hc
  have hw2 := fun (hc : x.p.chk = 0) (m : PnM) W (h : RPb W x) (h2 : RPn W m) (hm : m.x = x.p.best) => (by have h := topwithin_any x m W h h2 hc; rw [hm] at h; exact h : Calls Try.prog 20 #[x.v, m.v] W (fun e w' => e = .returned (.tuple #[.int .i64 (x.p.win x.p.best), .bool (x.p.err x.p.best == 0)]) ∧ Below W.heap.size W w'))
  have hst0 := PX.start x y w
  simp only [PbM.v, PnM.v]
  obtain ⟨W, hW⟩ : ∃ W, W = (w.alloc (.cells #[.slice x.buy.A x.buy.l.length x.buy.c, .slice x.sell.A x.sell.l.length x.sell.c, .int .i64 x.fuse, .slice x.solar.A x.solar.l.length x.solar.c, .slice x.demand.A x.demand.l.length x.demand.c, .slice x.outside.A x.outside.l.length x.outside.c, .int .i64 x.bat.cap, .int .i64 x.bat.reserve, .int .i64 x.bat.charge, .int .i64 x.bat.discharge, .int .i64 x.bat.eff, .int .i64 x.gain, .int .i64 x.loss, .int .i64 x.steps, .int .i64 x.power, .slice x.low.A x.low.l.length x.low.c, .slice x.high.A x.high.l.length x.high.c, .slice x.LA x.loads.length x.lc, .int .i64 x.level, .int .i64 x.temp] 31)).alloc (.cells #[.slice y.charge.A y.charge.l.length y.charge.c, .slice y.heat.A y.heat.l.length y.heat.c, .slice y.start.A y.start.l.length y.start.c] 33) := ⟨_, rfl⟩
  rw [show (w.alloc (.cells x.cs 31)).alloc (.cells y.cs 33) = W from hW.symm] at hst0
  have hst := Lib.hid hst0
  have hWH := Lib.hid hW
  clear hst0 hW hP0 hQ0 hL0 hc0 hm0 hF0
  cases hs : x.little
  · rw [hs] at hli
    have HLI := Lib.hid hli
    clear hli hck0 hbe hwi hw2 hs
    go_enter Try.func3, Try.ntmps3
    go_upto_region 1 with fail
    rw [← hWH.out]
    clear hWH
    go_wp2_with (first | refine wpList_load_problemG (by rfl) _ rfl w.heap.size rfl x hst.out.p ?_ | refine wpList_load_planG (by rfl) _ rfl (w.heap.size + 1) rfl y hst.out.q ?_)
    refine (HLI.out _).mono ?_
    rintro e w1 ⟨rfl, hb1⟩
    have HX1 := Lib.hid (hst.out.below hb1)
    clear hb1 hst HLI
    go_wp2_with fail
    refine (hlv.out _).mono ?_
    rintro e wl ⟨rfl, hbl⟩
    go_wp2_with fail
    go_ret
    exact ⟨rfl, HX1.out.bel.trans (hbl.mono HX1.out.bel.size)⟩
  · rw [hs] at hli
    have HLI := Lib.hid hli
    clear hli
    by_cases hc : x.p.chk = 0
    · have hbc := Pb.bestE_cases hc (PbM.little_lim hs)
      have hf20 : x.p.bestE = 20 → (x.p.err y.x == 0) = false := fun h => by have := Pb.best_none h hc y.x; simp [this]
      have hf0 : x.p.bestE = 0 → (x.p.err x.p.best == 0) = true ∧ ((x.p.err y.x == 0) = true → x.p.win x.p.best ≤ x.p.win y.x) := fun h => by
        obtain ⟨_, _, h1, _, h2⟩ := Pb.best_top h
        refine ⟨(Pb.win_yes h1).2, fun h3 => ?_⟩
        have h4 : x.p.err y.x = 0 := by simpa using h3
        rw [(Pb.win_yes h1).1, (Pb.win_yes h4).1]
        rcases h2 _ h4 with h5 | ⟨h5, _⟩ <;> omega
      rw [hc] at hck0
      have hwi := hwi hc
      have hw2 := hw2 hc
      generalize x.p.bestE = be at *
      generalize x.p.win y.x = wy at *
      generalize x.p.win x.p.best = wb at *
      generalize (x.p.err y.x == 0) = gy at *
      generalize (x.p.err x.p.best == 0) = gb at *
      generalize x.p.best = bp at *
      have HCK := Lib.hid hck0
      have HBE := Lib.hid hbe
      have HWI := Lib.hid hwi
      have HW2 := Lib.hid hw2
      have HF20 := Lib.hid hf20
      have HF0 := Lib.hid hf0
      have HBC := Lib.hid hbc
      clear hck0 hbe hwi hw2 hf20 hf0 hbc hc hs
      go_enter Try.func3, Try.ntmps3
      go_upto_region 1 with fail
      rw [← hWH.out]
      clear hWH
      go_wp2_with (first | refine wpList_load_problemG (by rfl) _ rfl w.heap.size rfl x hst.out.p ?_ | refine wpList_load_planG (by rfl) _ rfl (w.heap.size + 1) rfl y hst.out.q ?_)
      refine (HLI.out _).mono ?_
      rintro e w1 ⟨rfl, hb1⟩
      have HX1 := Lib.hid (hst.out.below hb1)
      clear hb1 hst HLI
      go_wp2_with (first | refine wpList_load_problemG (by rfl) _ rfl w.heap.size rfl x HX1.out.p ?_ | refine wpList_load_planG (by rfl) _ rfl (w.heap.size + 1) rfl y HX1.out.q ?_)
      refine (HCK.out _ (HX1.out.pr hP.out)).mono ?_
      rintro e w2 ⟨rfl, hb2⟩
      have HX2 := Lib.hid (HX1.out.below hb2)
      clear hb2 HX1 HCK
      go_upto_region 3 with fail
      go_wp2_with (first | refine wpList_load_problemG (by rfl) _ rfl w.heap.size rfl x HX2.out.p ?_ | refine wpList_load_planG (by rfl) _ rfl (w.heap.size + 1) rfl y HX2.out.q ?_)
      refine (HBE.out _ (HX2.out.pr hP.out)).mono ?_
      rintro e w5 ⟨m2, hmx, rfl, hrm, hmf, _, hb5⟩
      have HX5 := Lib.hid (HX2.out.below hb5)
      clear hb5 HX2 HBE
      go_wp2_with (refine wpList_store_blk rfl 33 _ _ rfl w5.heap.size rfl m2.cs rfl (by kernel_rfl) (PnM.cs_one _) (Blk.new w5 _ _) rfl ?_)
      intro w6 hB6 hg6
      have hs6 : Below w5.heap.size w5 w6 := ((Below.refl w5.heap.size w5).alloc (Nat.le_refl _) (.cells #[.slice none 0 0, .slice none 0 0, .slice none 0 0] 33)).grown hg6 (by simp) (fun k e => by injection e with e; omega)
      obtain ⟨t5, ht⟩ : ∃ t, t = w5.heap.size := ⟨_, rfl⟩
      have HX6 := Lib.hid (HX5.out.below hs6)
      have HY6 := Lib.hid (ly_store hrm hs6 hB6)
      rw [← ht] at HY6
      have HMX := Lib.hid hmx
      have HT := Lib.hid ht
      clear hg6 hs6 hB6 hrm hmf hmx ht HX5
      go_upto_region 4 with fail
      rw [← HT.out]
      go_wp2_with (first | refine wpList_load_problemG (by rfl) _ rfl w.heap.size rfl x HX6.out.p ?_ | refine wpList_load_planG (by rfl) _ rfl (w.heap.size + 1) rfl y HX6.out.q ?_ | refine wpList_load_planG (by rfl) _ rfl t5 rfl m2 HY6.out.p ?_)
      refine (HWI.out _ (HX6.out.pr hP.out) (HX6.out.qr hQ.out)).mono ?_
      rintro e w7 ⟨rfl, hb7⟩
      have HX7 := Lib.hid (HX6.out.below hb7)
      have HY7 := Lib.hid (HY6.out.below hb7)
      clear hb7 HX6 HY6 HWI HT
      go_upto_region 5 with fail
      rcases HBC.out with rfl | rfl
      rotate_left
      · obtain rfl := HF20.out rfl
        go_wp2_with fail
        refine (hlv.out _).mono ?_
        rintro e wl ⟨rfl, hbl⟩
        go_wp2_with fail
        go_ret
        exact ⟨rfl, HX7.out.bel.trans (hbl.mono HX7.out.bel.size)⟩
      · obtain ⟨f1, f2⟩ := HF0.out rfl
        subst f1
        have HF2 := Lib.hid f2
        clear f2
        go_upto_region 7 with fail
        go_wp2_with (first | refine wpList_load_problemG (by rfl) _ rfl w.heap.size rfl x HX7.out.p ?_ | refine wpList_load_planG (by rfl) _ rfl (w.heap.size + 1) rfl y HX7.out.q ?_ | refine wpList_load_planG (by rfl) _ rfl t5 rfl m2 HY7.out.p ?_)
        refine (HW2.out m2 _ (HX7.out.pr hP.out) HY7.out.r HMX.out).mono ?_
        rintro e w8 ⟨rfl, hb8⟩
        have HX8 := Lib.hid (HX7.out.below hb8)
        clear hb8 HX7 HY7 HW2
        go_upto_region 8 with fail
        cases gy
        · skip
          go_wp2_with fail
          refine (hlv.out _).mono ?_
          rintro e wl ⟨rfl, hbl⟩
          go_wp2_with fail
          go_ret
          exact ⟨rfl, HX8.out.bel.trans (hbl.mono HX8.out.bel.size)⟩
        · have q1 : wb ≤ wy := HF2.out rfl
          go_wp2_with fail
          refine (hlv.out _).mono ?_
          rintro e wl ⟨rfl, hbl⟩
          go_wp2_with fail
          go_ret
          exact ⟨rfl, HX8.out.bel.trans (hbl.mono HX8.out.bel.size)⟩
    · have hn : (x.p.chk != 0) = true := by simp [hc]
      generalize x.p.chk = ck at *
      have HCK := Lib.hid hck0
      clear hck0 hbe hwi hw2 hs hc
      go_enter Try.func3, Try.ntmps3
      go_upto_region 1 with fail
      rw [← hWH.out]
      clear hWH
      go_wp2_with (first | refine wpList_load_problemG (by rfl) _ rfl w.heap.size rfl x hst.out.p ?_ | refine wpList_load_planG (by rfl) _ rfl (w.heap.size + 1) rfl y hst.out.q ?_)
      refine (HLI.out _).mono ?_
      rintro e w1 ⟨rfl, hb1⟩
      have HX1 := Lib.hid (hst.out.below hb1)
      clear hb1 hst HLI
      go_wp2_with (first | refine wpList_load_problemG (by rfl) _ rfl w.heap.size rfl x HX1.out.p ?_ | refine wpList_load_planG (by rfl) _ rfl (w.heap.size + 1) rfl y HX1.out.q ?_)
      refine (HCK.out _ (HX1.out.pr hP.out)).mono ?_
      rintro e w2 ⟨rfl, hb2⟩
      have HX2 := Lib.hid (HX1.out.below hb2)
      clear hb2 HX1 HCK
      go_wp2_with fail
      refine (hlv.out _).mono ?_
      rintro e wl ⟨rfl, hbl⟩
      go_wp2_with fail
      go_ret
      exact ⟨rfl, HX2.out.bel.trans (hbl.mono HX2.out.bel.size)⟩
end Go.Proofs.Ytnppngaabfhkpaa
