/-
  The law TopFrugal, walked.
-/
import Derived.Test.YtnppngaabfhkpaaKV1
import Derived.Test.YtnppngaabfhkpaaKV2
import Derived.Test.YtnppngaabfhkpaaKCX
import Derived.Test.YtnppngaabfhkpaaKOP7
namespace Go.Proofs.Ytnppngaabfhkpaa
open Go.RowKit
attribute [local go_sem ↓] Go.wp_at_zero Go.wp_at_succ

section
variable {ops : Array Oper} {rest : List Oper} {o : Oper} {a : Act} {W : World} {Q : Exit → Act → World → Prop}
end

end Go.Proofs.Ytnppngaabfhkpaa

/-
  The law TopRolling, walked.
-/
namespace Go.Proofs.Ytnppngaabfhkpaa
open Go.RowKit
attribute [local go_sem ↓] Go.wp_at_zero Go.wp_at_succ

set_option maxRecDepth 100000 in
set_option maxHeartbeats 64000000 in
theorem trolling_law (x : PbM) (w : World) (hP0 : RPb w x) (hL0 : ∀ z ∈ x.loads, z.r.prof.length ≤ maxLen ∧ z.r.name.size ≤ maxLen ∧ -9223372036854775808 ≤ z.r.late ∧ z.r.late ≤ 9223372036854775807) (hc0 : x.loads.length ≤ x.lc) (hm0 : x.buy.l.length ≤ maxLen) (hC0 : x.Cap) :
    Calls Try.prog 4 #[x.v] w fun e w' => e = .returned (.bool true) ∧ Below w.heap.size w w' := by
  have hF0 : x.Fit := ⟨fun y h => (hL0 y h).2.1, fun y h => (hL0 y h).1, hc0, hm0, fun y h => (hL0 y h).2.2⟩
  have hP := Lib.hid hP0
  have hlv := Lib.hid frugal_any
  have hli := little_any x
  have hck0 := fun W (h : RPb W x) => pcheck_any x W h hF0
  have hsi := fun W (h : RPb W x) => simulateX_any x W h hF0 hC0
  have hco := fun W (h : RPb W x) => ocost_any x W h hF0
  have hw2 := fun (hc : x.p.chk = 0) (m : PnM) W (h : RPb W x) (h2 : RPn W m) (hm : m.x = x.p.simP) => (by have h := topwithin_any x m W h h2 hc; rw [hm] at h; exact h : Calls Try.prog 20 #[x.v, m.v] W (fun e w' => e = .returned (.tuple #[.int .i64 (x.p.win x.p.simP), .bool (x.p.err x.p.simP == 0)]) ∧ Below W.heap.size W w'))
  have hst0 := PB.start x w
  simp only [PbM.v]
  obtain ⟨W, hW⟩ : ∃ W, W = w.alloc (.cells #[.slice x.buy.A x.buy.l.length x.buy.c, .slice x.sell.A x.sell.l.length x.sell.c, .int .i64 x.fuse, .slice x.solar.A x.solar.l.length x.solar.c, .slice x.demand.A x.demand.l.length x.demand.c, .slice x.outside.A x.outside.l.length x.outside.c, .int .i64 x.bat.cap, .int .i64 x.bat.reserve, .int .i64 x.bat.charge, .int .i64 x.bat.discharge, .int .i64 x.bat.eff, .int .i64 x.gain, .int .i64 x.loss, .int .i64 x.steps, .int .i64 x.power, .slice x.low.A x.low.l.length x.low.c, .slice x.high.A x.high.l.length x.high.c, .slice x.LA x.loads.length x.lc, .int .i64 x.level, .int .i64 x.temp] 31) := ⟨_, rfl⟩
  rw [show w.alloc (.cells x.cs 31) = W from hW.symm] at hst0
  have hst := Lib.hid hst0
  have hWH := Lib.hid hW
  clear hst0 hW hP0 hL0 hc0 hm0 hF0 hC0
  cases hs : x.little
  · rw [hs] at hli
    have HLI := Lib.hid hli
    clear hli hck0 hsi hco hw2 hs
    go_enter Try.func4, Try.ntmps4
    go_upto_region 1 with fail
    rw [← hWH.out]
    clear hWH
    go_wp2_with (first | refine wpList_load_problemG (by rfl) _ rfl w.heap.size rfl x hst.out.p ?_)
    refine (HLI.out _).mono ?_
    rintro e w1 ⟨rfl, hb1⟩
    have HX1 := Lib.hid (hst.out.below hb1)
    clear hb1 hst HLI
    go_wp2_with fail
    refine (hlv.out _).mono ?_
    rintro e wl ⟨rfl, hbl⟩
    go_wp2_with fail
    go_ret
    exact ⟨rfl, HX1.out.bel.trans (hbl.mono HX1.out.bel.size)⟩
  · rw [hs] at hli
    have HLI := Lib.hid hli
    clear hli
    by_cases hc : x.p.chk = 0
    · have hf0 : x.p.bestE = 0 → (x.p.err x.p.simP == 0) = true ∧ x.p.win x.p.simP = x.p.oc := fun h => by
        obtain ⟨_, _, h1, _, _⟩ := Pb.best_top h
        rw [Pb.sim_opt h]
        refine ⟨by simp [h1], ?_⟩
        rw [(Pb.win_yes h1).1]
        unfold Pb.oc
        rw [if_pos h]
      have hsi := (fun W h => (hsi W h).mono (fun e w' hh => by
        obtain ⟨y, he, ⟨hy, _⟩, hr, hb⟩ := hh
        rw [hc] at he
        exact ⟨y, he, hy, hr, hb⟩) : ∀ W, RPb W x → Calls Try.prog 21 #[x.v] W (fun e w' => ∃ y : PnM, e = .returned (.tuple #[y.v, .int .i64 0]) ∧ y.x = x.p.simP ∧ RPn w' y ∧ Below W.heap.size W w'))
      rw [hc] at hck0
      have hw2 := hw2 hc
      generalize x.p.bestE = be at *
      generalize x.p.oc = oc at *
      generalize x.p.win x.p.simP = wb at *
      generalize (x.p.err x.p.simP == 0) = gb at *
      generalize x.p.simP = bp at *
      have HCK := Lib.hid hck0
      have HSI := Lib.hid hsi
      have HCO := Lib.hid hco
      have HW2 := Lib.hid hw2
      have HF0 := Lib.hid hf0
      clear hck0 hsi hco hw2 hf0 hc hs
      go_enter Try.func4, Try.ntmps4
      go_upto_region 1 with fail
      rw [← hWH.out]
      clear hWH
      go_wp2_with (first | refine wpList_load_problemG (by rfl) _ rfl w.heap.size rfl x hst.out.p ?_)
      refine (HLI.out _).mono ?_
      rintro e w1 ⟨rfl, hb1⟩
      have HX1 := Lib.hid (hst.out.below hb1)
      clear hb1 hst HLI
      go_wp2_with (first | refine wpList_load_problemG (by rfl) _ rfl w.heap.size rfl x HX1.out.p ?_)
      refine (HCK.out _ (HX1.out.pr hP.out)).mono ?_
      rintro e w2 ⟨rfl, hb2⟩
      have HX2 := Lib.hid (HX1.out.below hb2)
      clear hb2 HX1 HCK
      go_upto_region 3 with fail
      go_wp2_with (first | refine wpList_load_problemG (by rfl) _ rfl w.heap.size rfl x HX2.out.p ?_)
      refine (HSI.out _ (HX2.out.pr hP.out)).mono ?_
      rintro e w5 ⟨m2, rfl, hmx, hrm, hb5⟩
      have HX5 := Lib.hid (HX2.out.below hb5)
      clear hb5 HX2 HSI
      go_wp2_with (refine wpList_store_blk rfl 33 _ _ rfl w5.heap.size rfl m2.cs rfl (by kernel_rfl) (PnM.cs_one _) (Blk.new w5 _ _) rfl ?_)
      intro w6 hB6 hg6
      have hs6 : Below w5.heap.size w5 w6 := ((Below.refl w5.heap.size w5).alloc (Nat.le_refl _) (.cells #[.slice none 0 0, .slice none 0 0, .slice none 0 0] 33)).grown hg6 (by simp) (fun k e => by injection e with e; omega)
      obtain ⟨t5, ht⟩ : ∃ t, t = w5.heap.size := ⟨_, rfl⟩
      have HX6 := Lib.hid (HX5.out.below hs6)
      have HY6 := Lib.hid (ly_store hrm hs6 hB6)
      rw [← ht] at HY6
      have HMX := Lib.hid hmx
      have HT := Lib.hid ht
      clear hg6 hs6 hB6 hrm hmx ht HX5
      go_upto_region 4 with fail
      rw [← HT.out]
      clear HT
      go_upto_region 6 with fail
      go_wp2_with (first | refine wpList_load_problemG (by rfl) _ rfl w.heap.size rfl x HX6.out.p ?_ | refine wpList_load_planG (by rfl) _ rfl t5 rfl m2 HY6.out.p ?_)
      refine (HCO.out _ (HX6.out.pr hP.out)).mono ?_
      rintro e w7 ⟨rfl, hb7⟩
      have HX7 := Lib.hid (HX6.out.below hb7)
      have HY7 := Lib.hid (HY6.out.below hb7)
      clear hb7 HX6 HY6 HCO
      go_upto_region 7 with fail
      go_wp2_with (first | refine wpList_load_problemG (by rfl) _ rfl w.heap.size rfl x HX7.out.p ?_ | refine wpList_load_planG (by rfl) _ rfl t5 rfl m2 HY7.out.p ?_)
      refine (HW2.out m2 _ (HX7.out.pr hP.out) HY7.out.r HMX.out).mono ?_
      rintro e w8 ⟨rfl, hb8⟩
      have HX8 := Lib.hid (HX7.out.below hb8)
      clear hb8 HX7 HY7 HW2
      go_upto_region 8 with fail
      by_cases h0 : be = 0
      · obtain ⟨f1, f2⟩ := HF0.out h0
        have e0 : (be == 0) = true := by simp [h0]
        subst f1
        subst f2
        clear h0 HF0
        go_wp2_with fail
        refine (hlv.out _).mono ?_
        rintro e wl ⟨rfl, hbl⟩
        go_wp2_with fail
        go_ret
        exact ⟨rfl, HX8.out.bel.trans (hbl.mono HX8.out.bel.size)⟩
      · have e0 : (be == 0) = false := by simp [h0]
        clear h0 HF0
        go_wp2_with fail
        refine (hlv.out _).mono ?_
        rintro e wl ⟨rfl, hbl⟩
        go_wp2_with fail
        go_ret
        exact ⟨rfl, HX8.out.bel.trans (hbl.mono HX8.out.bel.size)⟩
    · have hn : (x.p.chk != 0) = true := by simp [hc]
      generalize x.p.chk = ck at *
      have HCK := Lib.hid hck0
      clear hck0 hsi hco hw2 hs hc
      go_enter Try.func4, Try.ntmps4
      go_upto_region 1 with fail
      rw [← hWH.out]
      clear hWH
      go_wp2_with (first | refine wpList_load_problemG (by rfl) _ rfl w.heap.size rfl x hst.out.p ?_)
      refine (HLI.out _).mono ?_
      rintro e w1 ⟨rfl, hb1⟩
      have HX1 := Lib.hid (hst.out.below hb1)
      clear hb1 hst HLI
      go_wp2_with (first | refine wpList_load_problemG (by rfl) _ rfl w.heap.size rfl x HX1.out.p ?_)
      refine (HCK.out _ (HX1.out.pr hP.out)).mono ?_
      rintro e w2 ⟨rfl, hb2⟩
      have HX2 := Lib.hid (HX1.out.below hb2)
      clear hb2 HX1 HCK
      go_wp2_with fail
      refine (hlv.out _).mono ?_
      rintro e wl ⟨rfl, hbl⟩
      go_wp2_with fail
      go_ret
      exact ⟨rfl, HX2.out.bel.trans (hbl.mono HX2.out.bel.size)⟩
end Go.Proofs.Ytnppngaabfhkpaa
