/-
  The law ControlLimits, walked.
-/
import Derived.Test.YtnppngaabfhkpaaKV4
import Derived.Test.YtnppngaabfhkpaaKOP7
import Derived.Test.YtnppngaabfhkpaaKT3
namespace Go.Proofs.Ytnppngaabfhkpaa
open Go.RowKit
attribute [local go_sem ↓] Go.wp_at_zero Go.wp_at_succ

set_option maxRecDepth 100000 in
set_option maxHeartbeats 64000000 in
theorem climits_law (x : PbM) (w : World) (hP0 : RPb w x) (hL0 : ∀ z ∈ x.loads, z.r.prof.length ≤ maxLen ∧ z.r.name.size ≤ maxLen ∧ -9223372036854775808 ≤ z.r.late ∧ z.r.late ≤ 9223372036854775807) (hc0 : x.loads.length ≤ x.lc) (hm0 : x.buy.l.length ≤ maxLen) (hC0 : x.Cap) :
    Calls Try.prog 12 #[x.v] w fun e w' => e = .returned (.bool true) ∧ Below w.heap.size w w' := by
  have hF0 : x.Fit := ⟨fun y h => (hL0 y h).2.1, fun y h => (hL0 y h).1, hc0, hm0, fun y h => (hL0 y h).2.2⟩
  have hP := Lib.hid hP0
  have haw := Lib.hid awake44_any
  have _ := hC0
  have hsm := fun W (h : RPb W x) => small44_any x W h hF0
  have hde := fun W (h : RPb W x) => decide_any x W h hF0
  have hap := fun (d : DcM) W (hd : d.d = x.p.dec) (h : RPb W x) (h2 : RBools W d.A d.l) => ((apply_any x d W h hF0 h2).mono (by
    intro e w' hh
    rw [hd] at hh
    exact hh) : Calls Try.prog 37 #[x.v, d.v] W (fun e w' => e = .returned (.tuple #[.int .i64 (x.p.apL x.p.dec), .int .i64 (x.p.apT x.p.dec), .int .i64 (x.p.apN x.p.dec), .int .i64 (x.p.doE x.p.dec)]) ∧ Below W.heap.size W w'))
  have hok := fun (i t : Int) W (h : RPb W x) => (tok_any x.room x.low.A x.high.A x.low.c x.high.c i t W h.low h.high : Calls Try.prog 44 #[.agg #[.int .i64 x.gain, .int .i64 x.loss, .int .i64 x.steps, .int .i64 x.power, .slice x.low.A x.low.l.length x.low.c, .slice x.high.A x.high.l.length x.high.c], .int .i64 i, .int .i64 t] W (fun e w' => e = .returned (.bool (x.room.valid.okAt i t)) ∧ Below W.heap.size W w'))
  have hf : x.p.chk = 0 → x.p.doE x.p.dec = 0 ∧ 0 ≤ x.p.apL x.p.dec ∧ x.p.apL x.p.dec ≤ x.bat.cap ∧ (x.p.apL x.p.dec < x.level → x.bat.reserve ≤ x.p.apL x.p.dec) ∧ (x.p.bestE = 0 ∨ x.p.bestE = 20 ∨ x.p.bestE = 3) ∧ (1 ≤ x.fuse ∧ x.fuse ≤ 1000) ∧
      (x.p.bestE = 0 → -x.fuse ≤ x.p.apN x.p.dec ∧ x.p.apN x.p.dec ≤ x.fuse ∧ x.room.valid.okAt 0 (x.p.apT x.p.dec) = true) := fun hc => by
    obtain ⟨h1, h2, h3, h4⟩ := Pb.dec_limits hc
    obtain ⟨a1, a2, a3⟩ := Pb.ap_ok h1
    rw [a1, a2, a3]
    have gt := Tf.good (Pb.good hc).t
    refine ⟨h1, h2, h3, h4, Pb.bestE_all hc, ⟨gt.f0, gt.f1⟩, fun hb => Pb.dec_fine hb⟩
  have hst0 := PB.start x w
  simp only [PbM.v]
  obtain ⟨W, hW⟩ : ∃ W, W = w.alloc (.cells #[.slice x.buy.A x.buy.l.length x.buy.c, .slice x.sell.A x.sell.l.length x.sell.c, .int .i64 x.fuse, .slice x.solar.A x.solar.l.length x.solar.c, .slice x.demand.A x.demand.l.length x.demand.c, .slice x.outside.A x.outside.l.length x.outside.c, .int .i64 x.bat.cap, .int .i64 x.bat.reserve, .int .i64 x.bat.charge, .int .i64 x.bat.discharge, .int .i64 x.bat.eff, .int .i64 x.gain, .int .i64 x.loss, .int .i64 x.steps, .int .i64 x.power, .slice x.low.A x.low.l.length x.low.c, .slice x.high.A x.high.l.length x.high.c, .slice x.LA x.loads.length x.lc, .int .i64 x.level, .int .i64 x.temp] 31) := ⟨_, rfl⟩
  rw [show w.alloc (.cells x.cs 31) = W from hW.symm] at hst0
  have hst := Lib.hid hst0
  have hWH := Lib.hid hW
  clear hst0 hW hP0 hL0 hc0 hm0 hF0 hC0
  generalize x.p.apL x.p.dec = aL at *
  generalize x.p.apT x.p.dec = aT at *
  generalize x.p.apN x.p.dec = aN at *
  generalize x.p.doE x.p.dec = aE at *
  generalize x.p.bestE = be at *
  generalize x.p.dec = dc at *
  have HSM : Hid (∀ W, RPb W x → Calls Try.prog 42 #[x.v] W (fun e w' => ∃ g : Bool, e = .returned (.bool g) ∧ (g = true → x.p.chk = 0) ∧ Below W.heap.size W w')) := fun W h => (hsm W h).mono fun e w' ⟨g, h1, h2, h3⟩ => ⟨g, h1, fun h => (h2 h).1, h3⟩
  generalize x.p.chk = ck at *
  have HDE := Lib.hid hde
  have HAP := Lib.hid hap
  have HOK0 := Lib.hid (hok 0 aT)
  have HF := Lib.hid hf
  clear hsm hde hap hok hf
  go_enter Try.func12, Try.ntmps12
  go_upto_region 1 with fail
  rw [← hWH.out]
  clear hWH
  go_wp2_with (first | refine wpList_load_problemG (by rfl) _ rfl w.heap.size rfl x hst.out.p ?_)
  refine (HSM.out _ (hst.out.pr hP.out)).mono ?_
  rintro e w1 ⟨g, rfl, hg, hb1⟩
  have HX1 := Lib.hid (hst.out.below hb1)
  clear hb1 hst HSM
  cases g
  · clear hg
    go_wp2_with fail
    refine (haw.out _).mono ?_
    rintro e wl ⟨rfl, hbl⟩
    go_wp2_with fail
    go_ret
    exact ⟨rfl, HX1.out.bel.trans (hbl.mono HX1.out.bel.size)⟩
  · have hF := HF.out (hg rfl)
    have HF2 := Lib.hid hF
    clear hg hF HF
    go_upto_region 3 with fail
    go_wp2_with (first | refine wpList_load_problemG (by rfl) _ rfl w.heap.size rfl x HX1.out.p ?_)
    refine (HDE.out _ (HX1.out.pr hP.out)).mono ?_
    rintro e w3 ⟨_, rfl, d, rfl, hd, hrd, _, _, hb3⟩
    have HX3 := Lib.hid (HX1.out.below hb3)
    have HDd := Lib.hid hd
    have HRd := Lib.hid hrd
    clear hb3 HX1 HDE hd hrd
    simp only [DcM.v]
    go_wp2_with (refine wpList_store_blk rfl 57 _ _ rfl w3.heap.size rfl d.cs rfl (by kernel_rfl) (DcM.cs_one _) (Blk.new w3 _ _) rfl ?_)
    intro w4 hB4 hg4
    have hs4 : Below w3.heap.size w3 w4 := ((Below.refl w3.heap.size w3).alloc (Nat.le_refl _) (.cells #[.int .i64 0, .int .i64 0, .slice none 0 0] 57)).grown hg4 (by simp) (fun k e => by injection e with e; omega)
    obtain ⟨t2, ht⟩ : ∃ t, t = w3.heap.size := ⟨_, rfl⟩
    have HX4 := Lib.hid (HX3.out.below hs4)
    have HD4 := Lib.hid (ld44_store HRd.out hs4 hB4)
    rw [← ht] at HD4
    have HT := Lib.hid ht
    clear hs4 hg4 hB4 ht HX3 HRd
    go_upto_region 4 with fail
    rw [← HT.out]
    clear HT
    go_wp2_with (first | refine wpList_load_problemG (by rfl) _ rfl w.heap.size rfl x HX4.out.p ?_ | refine wpList_load_decG (by rfl) _ rfl t2 rfl d HD4.out.p ?_)
    refine (HAP.out d _ HDd.out (HX4.out.pr hP.out) HD4.out.r).mono ?_
    rintro e w5 ⟨rfl, hb5⟩
    have HX5 := Lib.hid (HX4.out.below hb5)
    clear hb5 HX4 HD4 HAP HDd
    obtain ⟨f0, f1, f2, f3, f4, f5, f6⟩ := HF2.out
    subst f0
    have q1 : ¬ aL < 0 := by omega
    have q2 : ¬ x.bat.cap < aL := by omega
    have HF6 := Lib.hid f6
    have HF5 := Lib.hid f5
    have c6 := HX5.out.p.cell 6
    have c7 := HX5.out.p.cell 7
    have c18 := HX5.out.p.cell 18
    have c2 := HX5.out.p.cell 2
    have c11 := HX5.out.p.cell 11
    have c12 := HX5.out.p.cell 12
    have c13 := HX5.out.p.cell 13
    have c14 := HX5.out.p.cell 14
    have c15 := HX5.out.p.cell 15
    have c16 := HX5.out.p.cell 16
    simp [PbM.cs] at c2 c6 c7 c11 c12 c13 c14 c15 c16 c18
    clear f1 f2 f5 f6 HF2
    go_upto_region 5 with fail
    by_cases h3 : aL < x.level
    · have q3 : ¬ aL < x.bat.reserve := by have := f3 h3; omega
      clear f3
      go_upto_region 7 with fail
      clear c6 c7 c18 q1 q2
      rcases f4 with rfl | rfl | rfl
      · obtain ⟨n1, n2, n3⟩ := HF6.out rfl
        have g1 := HF5.out.1
        have g2 := HF5.out.2
        have hk := HOK0.out
        rw [n3] at hk
        have HOK := Lib.hid hk
        clear HOK0 hk HF5 HF6 n3
        go_upto_region 9 with fail
        go_wp2_with fail
        refine (HOK.out _ (HX5.out.pr hP.out)).mono ?_
        rintro e w6 ⟨rfl, hb6⟩
        have HX6 := Lib.hid (HX5.out.below hb6)
        clear hb6 HX5
        go_wp2_with fail
        refine (haw.out _).mono ?_
        rintro e wl ⟨rfl, hbl⟩
        go_wp2_with fail
        go_ret
        exact ⟨rfl, HX6.out.bel.trans (hbl.mono HX6.out.bel.size)⟩
      · clear HOK0 HF5 HF6
        go_wp2_with fail
        refine (haw.out _).mono ?_
        rintro e wl ⟨rfl, hbl⟩
        go_wp2_with fail
        go_ret
        exact ⟨rfl, HX5.out.bel.trans (hbl.mono HX5.out.bel.size)⟩
      · clear HOK0 HF5 HF6
        go_wp2_with fail
        refine (haw.out _).mono ?_
        rintro e wl ⟨rfl, hbl⟩
        go_wp2_with fail
        go_ret
        exact ⟨rfl, HX5.out.bel.trans (hbl.mono HX5.out.bel.size)⟩
    · clear f3
      go_upto_region 7 with fail
      clear c6 c7 c18 q1 q2
      rcases f4 with rfl | rfl | rfl
      · obtain ⟨n1, n2, n3⟩ := HF6.out rfl
        have g1 := HF5.out.1
        have g2 := HF5.out.2
        have hk := HOK0.out
        rw [n3] at hk
        have HOK := Lib.hid hk
        clear HOK0 hk HF5 HF6 n3
        go_upto_region 9 with fail
        go_wp2_with fail
        refine (HOK.out _ (HX5.out.pr hP.out)).mono ?_
        rintro e w6 ⟨rfl, hb6⟩
        have HX6 := Lib.hid (HX5.out.below hb6)
        clear hb6 HX5
        go_wp2_with fail
        refine (haw.out _).mono ?_
        rintro e wl ⟨rfl, hbl⟩
        go_wp2_with fail
        go_ret
        exact ⟨rfl, HX6.out.bel.trans (hbl.mono HX6.out.bel.size)⟩
      · clear HOK0 HF5 HF6
        go_wp2_with fail
        refine (haw.out _).mono ?_
        rintro e wl ⟨rfl, hbl⟩
        go_wp2_with fail
        go_ret
        exact ⟨rfl, HX5.out.bel.trans (hbl.mono HX5.out.bel.size)⟩
      · clear HOK0 HF5 HF6
        go_wp2_with fail
        refine (haw.out _).mono ?_
        rintro e wl ⟨rfl, hbl⟩
        go_wp2_with fail
        go_ret
        exact ⟨rfl, HX5.out.bel.trans (hbl.mono HX5.out.bel.size)⟩
end Go.Proofs.Ytnppngaabfhkpaa
