/-
  The law ControlHolds, walked.
-/
import Derived.Test.YtnppngaabfhkpaaKV4
import Derived.Test.YtnppngaabfhkpaaKOP7
namespace Go.Proofs.Ytnppngaabfhkpaa
open Go.RowKit
attribute [local go_sem ↓] Go.wp_at_zero Go.wp_at_succ

/-- The fallback starts just the loads that cannot wait. -/
theorem Pb.fall_just {p : Pb} (h : p.chk = 0) {i : Nat} (hi : i < p.loads.length) : p.fallback.starts.getD i false = decide ((p.loads.getD i Ld.zero).late = ((p.loads.getD i Ld.zero).prof.length : Int)) := by
  show (p.loads.map _).getD i false = _
  rw [bools_getD hi, show p.loads[i] = p.loads.getD i Ld.zero by simp [List.getD, hi], Ld.last_good (Pb.load_at (Pb.good h) hi)]
  congr 1
  exact propext ⟨fun h => by omega, fun h => by omega⟩
set_option maxRecDepth 100000 in
set_option maxHeartbeats 64000000 in
theorem cholds_law (x : PbM) (w : World) (hP0 : RPb w x) (hL0 : ∀ z ∈ x.loads, z.r.prof.length ≤ maxLen ∧ z.r.name.size ≤ maxLen ∧ -9223372036854775808 ≤ z.r.late ∧ z.r.late ≤ 9223372036854775807) (hc0 : x.loads.length ≤ x.lc) (hm0 : x.buy.l.length ≤ maxLen) (hC0 : x.Cap) :
    Calls Try.prog 13 #[x.v] w fun e w' => e = .returned (.bool true) ∧ Below w.heap.size w w' := by
  have hF0 : x.Fit := ⟨fun y h => (hL0 y h).2.1, fun y h => (hL0 y h).1, hc0, hm0, fun y h => (hL0 y h).2.2⟩
  have hP := Lib.hid hP0
  have haw := Lib.hid awake44_any
  have _ := hC0
  have hsm := fun W (h : RPb W x) => small44_any x W h hF0
  have hde := fun W (h : RPb W x) => decide_any x W h hF0
  have hst1 := fun (o t : Int) W (h : RPb W x) => (tstep_any x.room x.low.A x.high.A x.low.c x.high.c x.temp o t W h.low h.high : Calls Try.prog 45 #[.agg #[.int .i64 x.gain, .int .i64 x.loss, .int .i64 x.steps, .int .i64 x.power, .slice x.low.A x.low.l.length x.low.c, .slice x.high.A x.high.l.length x.high.c], .int .i64 x.temp, .int .i64 o, .int .i64 t] W (fun e w' => e = .returned (.int .i64 (x.room.valid.step x.temp o t)) ∧ Below W.heap.size W w'))
  have hf : x.p.chk = 0 → x.p.bestE ≠ 0 → (x.p.dec.charge = 0 ∧ 0 ≤ x.p.dec.heat ∧ x.p.dec.heat ≤ x.steps ∧ x.p.dec.starts.length = x.loads.length ∧ x.loads.length ≤ 4 ∧ x.steps ≤ 40) ∧
      (∀ k (hk : k < x.loads.length), x.p.dec.starts.getD k false = decide (x.loads[k].r.late = (x.loads[k].r.prof.length : Int))) ∧ (0 < x.outside.l.length ∧ 0 < x.low.l.length) ∧
      (∀ h, 0 ≤ h → h < x.p.dec.heat → x.room.valid.step x.temp (x.outside.l.getD 0 0) h < x.low.l.getD 0 0) ∧ (x.p.dec.heat = x.steps ∨ x.low.l.getD 0 0 ≤ x.room.valid.step x.temp (x.outside.l.getD 0 0) x.p.dec.heat) := fun hc hb => by
    have g := Pb.good hc
    rw [Pb.dec_none hc hb]
    obtain ⟨h1, h2, h3, h4⟩ := Pb.hold_bd g
    have hn := Pb.nbd g
    have e1 : x.outside.l.length = x.buy.l.length := g.lens.2.2
    have e2 : x.low.l.length = x.buy.l.length := (Pb.room_ok g).2.1
    have e3 : 1 ≤ x.buy.l.length := hn.1
    have e4 := Pb.loads4 g
    rw [PbM.loads_len] at e4
    refine ⟨⟨rfl, h1, h2, by show (x.p.loads.map _).length = _; rw [List.length_map, PbM.loads_len], e4, (Rm.good (Pb.room_ok g).1).s1⟩, fun k hk => ?_, ⟨by omega, by omega⟩, h3, h4⟩
    have h5 := Pb.fall_just hc (i := k) (by rw [PbM.loads_len]; exact hk)
    rw [PbM.load_at hk] at h5
    exact h5
  have hst0 := PB.start x w
  simp only [PbM.v]
  obtain ⟨W, hW⟩ : ∃ W, W = w.alloc (.cells #[.slice x.buy.A x.buy.l.length x.buy.c, .slice x.sell.A x.sell.l.length x.sell.c, .int .i64 x.fuse, .slice x.solar.A x.solar.l.length x.solar.c, .slice x.demand.A x.demand.l.length x.demand.c, .slice x.outside.A x.outside.l.length x.outside.c, .int .i64 x.bat.cap, .int .i64 x.bat.reserve, .int .i64 x.bat.charge, .int .i64 x.bat.discharge, .int .i64 x.bat.eff, .int .i64 x.gain, .int .i64 x.loss, .int .i64 x.steps, .int .i64 x.power, .slice x.low.A x.low.l.length x.low.c, .slice x.high.A x.high.l.length x.high.c, .slice x.LA x.loads.length x.lc, .int .i64 x.level, .int .i64 x.temp] 31) := ⟨_, rfl⟩
  rw [show w.alloc (.cells x.cs 31) = W from hW.symm] at hst0
  have hst := Lib.hid hst0
  have hWH := Lib.hid hW
  clear hst0 hW hP0 hL0 hc0 hm0 hF0 hC0
  generalize x.p.bestE = be at *
  generalize x.p.dec = dc at *
  have HSM : Hid (∀ W, RPb W x → Calls Try.prog 42 #[x.v] W (fun e w' => ∃ g : Bool, e = .returned (.bool g) ∧ (g = true → x.p.chk = 0) ∧ Below W.heap.size W w')) := fun W h => (hsm W h).mono fun e w' ⟨g, h1, h2, h3⟩ => ⟨g, h1, fun h => (h2 h).1, h3⟩
  generalize x.p.chk = ck at *
  generalize x.room.valid.step x.temp = fst at *
  have HDE := Lib.hid hde
  have HST := Lib.hid hst1
  have HF := Lib.hid hf
  clear hsm hde hst1 hf
  go_enter Try.func13, Try.ntmps13
  go_upto_region 1 with fail
  rw [← hWH.out]
  clear hWH
  go_wp2_with (first | refine wpList_load_problemG (by rfl) _ rfl w.heap.size rfl x hst.out.p ?_)
  refine (HSM.out _ (hst.out.pr hP.out)).mono ?_
  rintro e w1 ⟨g, rfl, hg, hb1⟩
  have HX1 := Lib.hid (hst.out.below hb1)
  clear hb1 hst HSM
  cases g
  · clear hg
    go_wp2_with fail
    refine (haw.out _).mono ?_
    rintro e wl ⟨rfl, hbl⟩
    go_wp2_with fail
    go_ret
    exact ⟨rfl, HX1.out.bel.trans (hbl.mono HX1.out.bel.size)⟩
  · have hc := hg rfl
    have hf2 := HF.out hc
    have HF2 := Lib.hid hf2
    clear hg hf2 HF
    go_upto_region 3 with fail
    go_wp2_with (first | refine wpList_load_problemG (by rfl) _ rfl w.heap.size rfl x HX1.out.p ?_)
    refine (HDE.out _ (HX1.out.pr hP.out)).mono ?_
    rintro e w3 ⟨_, rfl, d, rfl, hd, hrd, _, _, hb3⟩
    have HX3 := Lib.hid (HX1.out.below hb3)
    have HDd := Lib.hid hd
    have HRd := Lib.hid hrd
    clear hb3 HX1 HDE hd hrd
    simp only [DcM.v]
    go_wp2_with (refine wpList_store_blk rfl 57 _ _ rfl w3.heap.size rfl d.cs rfl (by kernel_rfl) (DcM.cs_one _) (Blk.new w3 _ _) rfl ?_)
    intro w4 hB4 hg4
    have hs4 : Below w3.heap.size w3 w4 := ((Below.refl w3.heap.size w3).alloc (Nat.le_refl _) (.cells #[.int .i64 0, .int .i64 0, .slice none 0 0] 57)).grown hg4 (by simp) (fun k e => by injection e with e; omega)
    obtain ⟨t2, ht⟩ : ∃ t, t = w3.heap.size := ⟨_, rfl⟩
    have HX4 := Lib.hid (HX3.out.below hs4)
    have HD4 := Lib.hid (ld44_store HRd.out hs4 hB4)
    rw [← ht] at HD4
    have HT := Lib.hid ht
    clear hs4 hg4 hB4 ht HX3 HRd
    go_upto_region 4 with fail
    rw [← HT.out]
    clear HT
    by_cases hb : be = 0
    · have e0 : (be == 0) = true := by simp [hb]
      clear hb HF2
      go_wp2_with fail
      refine (haw.out _).mono ?_
      rintro e wl ⟨rfl, hbl⟩
      go_wp2_with fail
      go_ret
      exact ⟨rfl, HX4.out.bel.trans (hbl.mono HX4.out.bel.size)⟩
    · have e0 : (be == 0) = false := by simp [hb]
      obtain ⟨⟨f0, f1, f2, f3, f9, f10⟩, f4, ⟨f5, f6⟩, f7, f8⟩ := HF2.out hb
      have d0 : d.charge = 0 := (congrArg Dc.charge HDd.out).trans f0
      have d1 : d.heat = dc.heat := congrArg Dc.heat HDd.out
      have d2 : d.l = dc.starts := congrArg Dc.starts HDd.out
      rw [← d1] at f1 f2 f7 f8
      rw [← d2] at f3 f4
      obtain ⟨bO, oO, hAO, _, o0⟩ := hP.out.outside.at' f5
      obtain ⟨bW, oW, hAW, _, u0⟩ := hP.out.low.at' f6
      rw [getD_at _ f5, getD_at _ f6] at f7 f8
      have hlo := And.intro o0 u0
      simp only [Nat.add_zero] at hlo
      have hHO := HST.out (x.outside.l[0])
      rw [hAW] at hHO
      generalize x.outside.l[0] = ov at *
      generalize x.low.l[0] = lo at *
      have HLA := Lib.hid (And.intro hAO hAW)
      have HLO := Lib.hid hlo
      have HST1 := Lib.hid hHO
      have F4 := Lib.hid f4
      have F7 := Lib.hid f7
      have F8 := Lib.hid f8
      have HL := Lib.hid f3
      have HL4 := Lib.hid f9
      have HDC := Lib.hid d0
      have HH := Lib.hid (And.intro f1 (And.intro f2 f10))
      clear hb d1 d2 HDd f0 f4 f9 f7 f8 hAO hAW o0 u0 hlo hHO HST HF2
      have k0 := HD4.out.p.cell 0
      have k1 := HD4.out.p.cell 1
      have k2 := HD4.out.p.cell 2
      have c13 := HX4.out.p.cell 13
      have c17 := HX4.out.p.cell 17
      simp [DcM.cs] at k0 k1 k2
      simp [PbM.cs] at c13 c17
      rw [d0] at k0
      rw [f3] at k2
      obtain ⟨H, hH⟩ : ∃ H, H = d.heat := ⟨_, rfl⟩
      rw [← hH] at f1 f2 k1
      have HHE := Lib.hid hH
      have q1 : ¬ H < 0 := by omega
      have q2 : ¬ x.steps < H := by omega
      have q3 : ((x.loads.length : Int) != (x.loads.length : Int)) = false := by simp
      clear d0 f1 f2 f3 hH
      go_upto_region 8 with fail
      clear e0 k0 k1 k2 c13 c17 q1 q2 q3
      go_wp2_with fail
      go_loopw [5] (fun s5 wr => ∃ k : Nat, k ≤ x.loads.length ∧ s5 = .int .i64 k ∧ Hid (PB x w wr) ∧ Hid (LD44 d t2 wr))
        (fun s5 _ => x.loads.length - (intOf s5).toNat)
      case atStart => exact ⟨0, by omega, rfl, HX4.out, HD4.out⟩
      case round =>
        clear HX4 HD4
        obtain ⟨k, hk, rfl, hX, hL⟩ := hrel
        obtain ⟨wo, hwo⟩ : ∃ wo : World, wo = wr := ⟨_, rfl⟩
        subst hwo
        have c17 := hX.out.p.cell 17
        simp [PbM.cs] at c17
        by_cases hlt : k < x.loads.length
        · have hks : k < d.l.length := by have := HL.out; omega
          have hk4 : (k : Int) ≤ 4 := by have := HL4.out; omega
          have i1 : (0 : Int) ≤ (k : Int) := by omega
          have i2 : (k : Int) < (x.loads.length : Int) := by omega
          obtain ⟨bL, oL, hAe, _, z0, z1, z2, z3⟩ := (hX.out.pr hP.out).loads.at' hlt
          obtain ⟨bD, oD, hDe, _, s0⟩ := hL.out.r.at' hks
          have hdk := F4.out k hlt
          rw [bools_at hks] at hdk
          have k2 := hL.out.p.cell 2
          simp [DcM.cs] at k2
          rw [HL.out, hDe] at k2
          rw [hAe] at c17
          generalize x.loads[k] = X at *
          generalize d.l[k] = db at *
          clear hAe hDe hks
          by_cases he : X.r.late = (X.r.prof.length : Int)
          · obtain rfl : db = true := by rw [hdk, decide_eq_true he]
            have q4 : (X.r.late == (X.r.prof.length : Int)) = true := by rw [he]; simp
            clear hdk he
            go_upto_region 11 with fail
            have HK : Hid (∀ W, Below wo.heap.size wo W → Below wo.heap.size wo W ∧ W.cell? ⟨t2, 2, none⟩ = some (.slice (some ⟨bD, oD, none⟩) x.loads.length d.c) ∧ W.cell? ⟨bD, oD + k, none⟩ = some (.bool true) ∧ W.cell? ⟨w.heap.size, 17, none⟩ = some (.slice (some ⟨bL, oL, none⟩) x.loads.length x.lc) ∧ W.cell? ⟨bL, oL + k * 4, none⟩ = some (.string X.r.name) ∧ W.cell? ⟨bL, oL + k * 4 + 1, none⟩ = some (.slice X.A X.r.prof.length X.c) ∧ W.cell? ⟨bL, oL + k * 4 + 2, none⟩ = some (.int .i64 X.r.early) ∧ W.cell? ⟨bL, oL + k * 4 + 3, none⟩ = some (.int .i64 X.r.late)) := fun W hb => ⟨hb, cell_below k2 hb, cell_below s0 hb, cell_below c17 hb, cell_below z0 hb, cell_below z1 hb, cell_below z2 hb, cell_below z3 hb⟩
            go_region_held3 (fun w' => Below wo.heap.size wo w' ∧ w'.cell? ⟨t2, 2, none⟩ = some (.slice (some ⟨bD, oD, none⟩) x.loads.length d.c) ∧ w'.cell? ⟨bD, oD + k, none⟩ = some (.bool true) ∧ w'.cell? ⟨w.heap.size, 17, none⟩ = some (.slice (some ⟨bL, oL, none⟩) x.loads.length x.lc) ∧ w'.cell? ⟨bL, oL + k * 4, none⟩ = some (.string X.r.name) ∧ w'.cell? ⟨bL, oL + k * 4 + 1, none⟩ = some (.slice X.A X.r.prof.length X.c) ∧ w'.cell? ⟨bL, oL + k * 4 + 2, none⟩ = some (.int .i64 X.r.early) ∧ w'.cell? ⟨bL, oL + k * 4 + 3, none⟩ = some (.int .i64 X.r.late))
                (first | exact HK.out _ (Below.refl _ _) | exact HK.out _ (Below.drew (Below.refl _ _)) | exact HK.out _ (Below.drew (by assumption)) | exact HK.out _ (Below.drew (And.left (by assumption))) | exact HK.out _ (Below.trans (by first | assumption | exact And.left (by assumption) | exact Below.refl _ _ | exact Below.drew (Below.refl _ _) | exact Below.drew (by assumption) | exact Below.drew (And.left (by assumption))) (Below.mono (by assumption) (Below.size (by first | assumption | exact And.left (by assumption) | exact Below.refl _ _ | exact Below.drew (Below.refl _ _) | exact Below.drew (by assumption) | exact Below.drew (And.left (by assumption)))))))
                (first | fail)
            have HX7 := Lib.hid (hX.out.below (by first | assumption | exact And.left (by assumption) | exact Below.refl _ _ | exact Below.drew (Below.refl _ _) | exact Below.drew (by assumption) | exact Below.drew (And.left (by assumption))))
            have HY7 := Lib.hid (hL.out.below (by first | assumption | exact And.left (by assumption) | exact Below.refl _ _ | exact Below.drew (Below.refl _ _) | exact Below.drew (by assumption) | exact Below.drew (And.left (by assumption))))
            clear hX hL c17 z0 z1 z2 z3 k2 s0 HK
            go_wp2_with fail
            go_roundw
            case rel => exact ⟨k + 1, by omega, by go_num, HX7.out, HY7.out⟩
            case measure => simp [intOf]; omega
          · obtain rfl : db = false := by rw [hdk, decide_eq_false he]
            have q4 : (X.r.late == (X.r.prof.length : Int)) = false := by rw [beq_eq_false_iff_ne]; exact he
            clear hdk he
            go_upto_region 11 with fail
            have HK : Hid (∀ W, Below wo.heap.size wo W → Below wo.heap.size wo W ∧ W.cell? ⟨t2, 2, none⟩ = some (.slice (some ⟨bD, oD, none⟩) x.loads.length d.c) ∧ W.cell? ⟨bD, oD + k, none⟩ = some (.bool false) ∧ W.cell? ⟨w.heap.size, 17, none⟩ = some (.slice (some ⟨bL, oL, none⟩) x.loads.length x.lc) ∧ W.cell? ⟨bL, oL + k * 4, none⟩ = some (.string X.r.name) ∧ W.cell? ⟨bL, oL + k * 4 + 1, none⟩ = some (.slice X.A X.r.prof.length X.c) ∧ W.cell? ⟨bL, oL + k * 4 + 2, none⟩ = some (.int .i64 X.r.early) ∧ W.cell? ⟨bL, oL + k * 4 + 3, none⟩ = some (.int .i64 X.r.late)) := fun W hb => ⟨hb, cell_below k2 hb, cell_below s0 hb, cell_below c17 hb, cell_below z0 hb, cell_below z1 hb, cell_below z2 hb, cell_below z3 hb⟩
            go_region_held3 (fun w' => Below wo.heap.size wo w' ∧ w'.cell? ⟨t2, 2, none⟩ = some (.slice (some ⟨bD, oD, none⟩) x.loads.length d.c) ∧ w'.cell? ⟨bD, oD + k, none⟩ = some (.bool false) ∧ w'.cell? ⟨w.heap.size, 17, none⟩ = some (.slice (some ⟨bL, oL, none⟩) x.loads.length x.lc) ∧ w'.cell? ⟨bL, oL + k * 4, none⟩ = some (.string X.r.name) ∧ w'.cell? ⟨bL, oL + k * 4 + 1, none⟩ = some (.slice X.A X.r.prof.length X.c) ∧ w'.cell? ⟨bL, oL + k * 4 + 2, none⟩ = some (.int .i64 X.r.early) ∧ w'.cell? ⟨bL, oL + k * 4 + 3, none⟩ = some (.int .i64 X.r.late))
                (first | exact HK.out _ (Below.refl _ _) | exact HK.out _ (Below.drew (Below.refl _ _)) | exact HK.out _ (Below.drew (by assumption)) | exact HK.out _ (Below.drew (And.left (by assumption))) | exact HK.out _ (Below.trans (by first | assumption | exact And.left (by assumption) | exact Below.refl _ _ | exact Below.drew (Below.refl _ _) | exact Below.drew (by assumption) | exact Below.drew (And.left (by assumption))) (Below.mono (by assumption) (Below.size (by first | assumption | exact And.left (by assumption) | exact Below.refl _ _ | exact Below.drew (Below.refl _ _) | exact Below.drew (by assumption) | exact Below.drew (And.left (by assumption)))))))
                (first | fail)
            have HX7 := Lib.hid (hX.out.below (by first | assumption | exact And.left (by assumption) | exact Below.refl _ _ | exact Below.drew (Below.refl _ _) | exact Below.drew (by assumption) | exact Below.drew (And.left (by assumption))))
            have HY7 := Lib.hid (hL.out.below (by first | assumption | exact And.left (by assumption) | exact Below.refl _ _ | exact Below.drew (Below.refl _ _) | exact Below.drew (by assumption) | exact Below.drew (And.left (by assumption))))
            clear hX hL c17 z0 z1 z2 z3 k2 s0 HK
            go_wp2_with fail
            go_roundw
            case rel => exact ⟨k + 1, by omega, by go_num, HX7.out, HY7.out⟩
            case measure => simp [intOf]; omega
        · have i2 : ¬ (k : Int) < (x.loads.length : Int) := by omega
          have HX8 := hX
          have HD8 := hL
          clear hX hL hlt hk
          go_upto_region 13 with fail
          clear c17 i2
          go_wp2_with fail
          go_loopw [6] (fun s6 wr => ∃ k : Nat, (k : Int) ≤ H ∧ s6 = .int .i64 k ∧ Hid (PB x w wr) ∧ Hid (LD44 d t2 wr))
            (fun s6 _ => H.toNat - (intOf s6).toNat)
          case atStart => exact ⟨0, by have := HH.out.1; have := HHE.out; omega, rfl, HX8.out, HD8.out⟩
          case round =>
            clear HX8 HD8
            obtain ⟨k, hk, rfl, hX, hL⟩ := hrel
            obtain ⟨wo, hwo⟩ : ∃ wo : World, wo = wr := ⟨_, rfl⟩
            subst hwo
            have k1 := hL.out.p.cell 1
            simp [DcM.cs] at k1
            rw [← HHE.out] at k1
            by_cases hlt : (k : Int) < H
            · have h40 : (k : Int) ≤ 40 := by have := HH.out; have := HHE.out; omega
              have hsk := HST1.out (k : Int)
              have hfk := F7.out (k : Int) (by omega) (by rw [← HHE.out]; exact hlt)
              generalize fst ov (k : Int) = st at *
              have HSK := Lib.hid hsk
              have q5 : decide (lo ≤ st) = false := decide_eq_false (by omega)
              clear hsk hfk
              have c5 := hX.out.p.cell 5
              have c11 := hX.out.p.cell 11
              have c12 := hX.out.p.cell 12
              have c13 := hX.out.p.cell 13
              have c14 := hX.out.p.cell 14
              have c15 := hX.out.p.cell 15
              have c16 := hX.out.p.cell 16
              have c19 := hX.out.p.cell 19
              simp [PbM.cs] at c5 c11 c12 c13 c14 c15 c16 c19
              rw [HLA.out.1] at c5
              rw [HLA.out.2] at c15
              have o0 := cell_below HLO.out.1 hX.out.bel
              have u0 := cell_below HLO.out.2 hX.out.bel
              go_upto_region 16 with fail
              clear k1
              have HK : Hid (∀ W, Below wo.heap.size wo W → Below wo.heap.size wo W ∧ W.cell? ⟨w.heap.size, 11, none⟩ = some (.int .i64 x.gain) ∧ W.cell? ⟨w.heap.size, 12, none⟩ = some (.int .i64 x.loss) ∧ W.cell? ⟨w.heap.size, 13, none⟩ = some (.int .i64 x.steps) ∧ W.cell? ⟨w.heap.size, 14, none⟩ = some (.int .i64 x.power) ∧ W.cell? ⟨w.heap.size, 15, none⟩ = some (.slice (some ⟨bW, oW, none⟩) x.low.l.length x.low.c) ∧ W.cell? ⟨w.heap.size, 16, none⟩ = some (.slice x.high.A x.high.l.length x.high.c) ∧ W.cell? ⟨w.heap.size, 19, none⟩ = some (.int .i64 x.temp) ∧ W.cell? ⟨w.heap.size, 5, none⟩ = some (.slice (some ⟨bO, oO, none⟩) x.outside.l.length x.outside.c) ∧ W.cell? ⟨bO, oO, none⟩ = some (.int .i64 ov) ∧ W.cell? ⟨bW, oW, none⟩ = some (.int .i64 lo)) := fun W hb => ⟨hb, cell_below c11 hb, cell_below c12 hb, cell_below c13 hb, cell_below c14 hb, cell_below c15 hb, cell_below c16 hb, cell_below c19 hb, cell_below c5 hb, cell_below o0 hb, cell_below u0 hb⟩
              go_region_held3 (fun w' => Below wo.heap.size wo w' ∧ w'.cell? ⟨w.heap.size, 11, none⟩ = some (.int .i64 x.gain) ∧ w'.cell? ⟨w.heap.size, 12, none⟩ = some (.int .i64 x.loss) ∧ w'.cell? ⟨w.heap.size, 13, none⟩ = some (.int .i64 x.steps) ∧ w'.cell? ⟨w.heap.size, 14, none⟩ = some (.int .i64 x.power) ∧ w'.cell? ⟨w.heap.size, 15, none⟩ = some (.slice (some ⟨bW, oW, none⟩) x.low.l.length x.low.c) ∧ w'.cell? ⟨w.heap.size, 16, none⟩ = some (.slice x.high.A x.high.l.length x.high.c) ∧ w'.cell? ⟨w.heap.size, 19, none⟩ = some (.int .i64 x.temp) ∧ w'.cell? ⟨w.heap.size, 5, none⟩ = some (.slice (some ⟨bO, oO, none⟩) x.outside.l.length x.outside.c) ∧ w'.cell? ⟨bO, oO, none⟩ = some (.int .i64 ov) ∧ w'.cell? ⟨bW, oW, none⟩ = some (.int .i64 lo))
                  (first | exact HK.out _ (Below.refl _ _) | exact HK.out _ (Below.drew (Below.refl _ _)) | exact HK.out _ (Below.drew (by assumption)) | exact HK.out _ (Below.drew (And.left (by assumption))) | exact HK.out _ (Below.trans (by first | assumption | exact And.left (by assumption) | exact Below.refl _ _ | exact Below.drew (Below.refl _ _) | exact Below.drew (by assumption) | exact Below.drew (And.left (by assumption))) (Below.mono (by assumption) (Below.size (by first | assumption | exact And.left (by assumption) | exact Below.refl _ _ | exact Below.drew (Below.refl _ _) | exact Below.drew (by assumption) | exact Below.drew (And.left (by assumption)))))))
                  (first | (go_at_call 45; refine (HSK.out _ ((hX.out.pr hP.out).below (by first | assumption | exact And.left (by assumption) | exact Below.refl _ _ | exact Below.drew (Below.refl _ _) | exact Below.drew (by assumption) | exact Below.drew (And.left (by assumption))))).mono ?_; rintro e' w7 ⟨rfl, hb7⟩))
              have HX7 := Lib.hid (hX.out.below (by first | assumption | exact And.left (by assumption) | exact Below.refl _ _ | exact Below.drew (Below.refl _ _) | exact Below.drew (by assumption) | exact Below.drew (And.left (by assumption))))
              have HY7 := Lib.hid (hL.out.below (by first | assumption | exact And.left (by assumption) | exact Below.refl _ _ | exact Below.drew (Below.refl _ _) | exact Below.drew (by assumption) | exact Below.drew (And.left (by assumption))))
              clear hX hL c5 c11 c12 c13 c14 c15 c16 c19 o0 u0 HK HSK
              go_wp2_with fail
              go_roundw
              case rel => exact ⟨k + 1, by omega, by go_num, HX7.out, HY7.out⟩
              case measure => simp [intOf]; omega
            · clear hk
              have HX9 := hX
              have HBX := Lib.hid hX.out.bel
              have c5 := hX.out.p.cell 5
              have c11 := hX.out.p.cell 11
              have c12 := hX.out.p.cell 12
              have c13 := hX.out.p.cell 13
              have c14 := hX.out.p.cell 14
              have c15 := hX.out.p.cell 15
              have c16 := hX.out.p.cell 16
              have c19 := hX.out.p.cell 19
              simp [PbM.cs] at c5 c11 c12 c13 c14 c15 c16 c19
              rw [HLA.out.1] at c5
              rw [HLA.out.2] at c15
              have o0 := cell_below HLO.out.1 hX.out.bel
              have u0 := cell_below HLO.out.2 hX.out.bel
              go_upto_region 18 with fail
              clear hlt
              by_cases hs : H = x.steps
              · have q6 : (H == x.steps) = true := by rw [hs]; simp
                clear hs
                refine wp_region_held_drew (S := (fun w' => w'.cell? ⟨t2, 1, none⟩ = some (.int .i64 H) ∧ w'.cell? ⟨w.heap.size, 13, none⟩ = some (.int .i64 x.steps))) (by kernel_rfl) (⟨k1, c13⟩) (fun hHeld => ?_)
                refine wpAnyH_take (i := 0) (v := ?_) rfl (by kernel_rfl) (by kernel_rfl) (by kernel_rfl) (fun _ _ _ h => h) (Or.inl ⟨by rfl, ?_⟩) (by assumption) ?_
                rotate_left
                · (intro w' hSw; (try dsimp only at hSw); go_simp; try with_reducible rfl)
                (try simp only [List.getElem_toArray, List.getElem_cons_zero, Act.put, List.setIfInBounds_toArray, List.set_cons_zero, List.set_cons_succ])
                refine wpAnyH_take (i := 1) (v := ?_) rfl (by kernel_rfl) (by kernel_rfl) (by kernel_rfl) (fun _ _ _ h => h) (Or.inl ⟨by rfl, ?_⟩) (by assumption) ?_
                rotate_left
                · (intro w' hSw; (try dsimp only at hSw); go_simp; try with_reducible rfl)
                (try simp only [List.getElem_toArray, List.getElem_cons_zero, List.getElem_cons_succ, Act.put, List.setIfInBounds_toArray, List.set_cons_zero, List.set_cons_succ])
                refine wpAnyH_take (i := 2) (v := ?_) rfl (by kernel_rfl) (by kernel_rfl) (by kernel_rfl) (fun _ _ _ h => h) (Or.inl ⟨by rfl, ?_⟩) (by assumption) ?_
                rotate_left
                · (intro w' hSw; (try dsimp only at hSw); go_simp; try with_reducible rfl)
                (try simp only [List.getElem_toArray, List.getElem_cons_zero, List.getElem_cons_succ, Act.put, List.setIfInBounds_toArray, List.set_cons_zero, List.set_cons_succ])
                refine wpAnyH_take (i := 3) (v := ?_) rfl (by kernel_rfl) (by kernel_rfl) (by kernel_rfl) (fun _ _ _ h => h) (Or.inl ⟨by rfl, ?_⟩) (by assumption) ?_
                rotate_left
                · (intro w' hSw; (try dsimp only at hSw); go_simp; try with_reducible rfl)
                (try simp only [List.getElem_toArray, List.getElem_cons_zero, List.getElem_cons_succ, Act.put, List.setIfInBounds_toArray, List.set_cons_zero, List.set_cons_succ])
                refine wpAnyH_take (i := 4) (v := ?_) rfl (by kernel_rfl) (by kernel_rfl) (by kernel_rfl) (fun _ _ _ h => h) (Or.inl ⟨by rfl, ?_⟩) (by assumption) ?_
                rotate_left
                · (intro w' hSw; (try dsimp only at hSw); go_simp; try with_reducible rfl)
                (try simp only [List.getElem_toArray, List.getElem_cons_zero, List.getElem_cons_succ, Act.put, List.setIfInBounds_toArray, List.set_cons_zero, List.set_cons_succ])
                refine wpAnyH_take (i := 5) (v := ?_) rfl (by kernel_rfl) (by kernel_rfl) (by kernel_rfl) (fun _ _ _ h => h) (Or.inl ⟨by rfl, ?_⟩) (by assumption) ?_
                rotate_left
                · (intro w' hSw; (try dsimp only at hSw); go_simp; try with_reducible rfl)
                (try simp only [List.getElem_toArray, List.getElem_cons_zero, List.getElem_cons_succ, Act.put, List.setIfInBounds_toArray, List.set_cons_zero, List.set_cons_succ])
                refine wpAnyH_take (i := 6) (v := ?_) rfl (by kernel_rfl) (by kernel_rfl) (by kernel_rfl) (fun _ _ _ h => h) (Or.inl ⟨by rfl, ?_⟩) (by assumption) ?_
                rotate_left
                · (intro w' hSw; (try dsimp only at hSw); go_simp; try with_reducible rfl)
                (try simp only [List.getElem_toArray, List.getElem_cons_zero, List.getElem_cons_succ, Act.put, List.setIfInBounds_toArray, List.set_cons_zero, List.set_cons_succ])
                refine wpAnyH_take (i := 7) (v := undef) rfl (by kernel_rfl) (by kernel_rfl) (by kernel_rfl) (fun _ _ _ h => h) (Or.inr ⟨by rfl, rfl⟩) (by assumption) ?_
                (try simp only [List.getElem_toArray, List.getElem_cons_zero, List.getElem_cons_succ, Act.put, List.setIfInBounds_toArray, List.set_cons_zero, List.set_cons_succ])
                refine wpAnyH_take (i := 8) (v := undef) rfl (by kernel_rfl) (by kernel_rfl) (by kernel_rfl) (fun _ _ _ h => h) (Or.inr ⟨by rfl, rfl⟩) (by assumption) ?_
                (try simp only [List.getElem_toArray, List.getElem_cons_zero, List.getElem_cons_succ, Act.put, List.setIfInBounds_toArray, List.set_cons_zero, List.set_cons_succ])
                refine wpAnyH_take (i := 9) (v := undef) rfl (by kernel_rfl) (by kernel_rfl) (by kernel_rfl) (fun _ _ _ h => h) (Or.inr ⟨by rfl, rfl⟩) (by assumption) ?_
                (try simp only [List.getElem_toArray, List.getElem_cons_zero, List.getElem_cons_succ, Act.put, List.setIfInBounds_toArray, List.set_cons_zero, List.set_cons_succ])
                refine wpAnyH_take (i := 10) (v := undef) rfl (by kernel_rfl) (by kernel_rfl) (by kernel_rfl) (fun _ _ _ h => h) (Or.inr ⟨by rfl, rfl⟩) (by assumption) ?_
                (try simp only [List.getElem_toArray, List.getElem_cons_zero, List.getElem_cons_succ, Act.put, List.setIfInBounds_toArray, List.set_cons_zero, List.set_cons_succ])
                refine wpAnyH_take (i := 11) (v := undef) rfl (by kernel_rfl) (by kernel_rfl) (by kernel_rfl) (fun _ _ _ h => h) (Or.inr ⟨by rfl, rfl⟩) (by assumption) ?_
                (try simp only [List.getElem_toArray, List.getElem_cons_zero, List.getElem_cons_succ, Act.put, List.setIfInBounds_toArray, List.set_cons_zero, List.set_cons_succ])
                refine wpAnyH_take (i := 12) (v := undef) rfl (by kernel_rfl) (by kernel_rfl) (by kernel_rfl) (fun _ _ _ h => h) (Or.inr ⟨by rfl, rfl⟩) (by assumption) ?_
                (try simp only [List.getElem_toArray, List.getElem_cons_zero, List.getElem_cons_succ, Act.put, List.setIfInBounds_toArray, List.set_cons_zero, List.set_cons_succ])
                refine wpAnyH_take (i := 13) (v := undef) rfl (by kernel_rfl) (by kernel_rfl) (by kernel_rfl) (fun _ _ _ h => h) (Or.inr ⟨by rfl, rfl⟩) (by assumption) ?_
                (try simp only [List.getElem_toArray, List.getElem_cons_zero, List.getElem_cons_succ, Act.put, List.setIfInBounds_toArray, List.set_cons_zero, List.set_cons_succ])
                refine wpAnyH_take (i := 14) (v := undef) rfl (by kernel_rfl) (by kernel_rfl) (by kernel_rfl) (fun _ _ _ h => h) (Or.inr ⟨by rfl, rfl⟩) (by assumption) ?_
                (try simp only [List.getElem_toArray, List.getElem_cons_zero, List.getElem_cons_succ, Act.put, List.setIfInBounds_toArray, List.set_cons_zero, List.set_cons_succ])
                refine wpAnyH_take (i := 15) (v := undef) rfl (by kernel_rfl) (by kernel_rfl) (by kernel_rfl) (fun _ _ _ h => h) (Or.inr ⟨by rfl, rfl⟩) (by assumption) ?_
                (try simp only [List.getElem_toArray, List.getElem_cons_zero, List.getElem_cons_succ, Act.put, List.setIfInBounds_toArray, List.set_cons_zero, List.set_cons_succ])
                refine wpAnyH_take (i := 16) (v := undef) rfl (by kernel_rfl) (by kernel_rfl) (by kernel_rfl) (fun _ _ _ h => h) (Or.inr ⟨by rfl, rfl⟩) (by assumption) ?_
                (try simp only [List.getElem_toArray, List.getElem_cons_zero, List.getElem_cons_succ, Act.put, List.setIfInBounds_toArray, List.set_cons_zero, List.set_cons_succ])
                refine wpAnyH_take (i := 17) (v := undef) rfl (by kernel_rfl) (by kernel_rfl) (by kernel_rfl) (fun _ _ _ h => h) (Or.inr ⟨by rfl, rfl⟩) (by assumption) ?_
                (try simp only [List.getElem_toArray, List.getElem_cons_zero, List.getElem_cons_succ, Act.put, List.setIfInBounds_toArray, List.set_cons_zero, List.set_cons_succ])
                refine wpAnyH_take (i := 18) (v := undef) rfl (by kernel_rfl) (by kernel_rfl) (by kernel_rfl) (fun _ _ _ h => h) (Or.inr ⟨by rfl, rfl⟩) (by assumption) ?_
                (try simp only [List.getElem_toArray, List.getElem_cons_zero, List.getElem_cons_succ, Act.put, List.setIfInBounds_toArray, List.set_cons_zero, List.set_cons_succ])
                refine wpAnyH_take (i := 19) (v := undef) rfl (by kernel_rfl) (by kernel_rfl) (by kernel_rfl) (fun _ _ _ h => h) (Or.inr ⟨by rfl, rfl⟩) (by assumption) ?_
                (try simp only [List.getElem_toArray, List.getElem_cons_zero, List.getElem_cons_succ, Act.put, List.setIfInBounds_toArray, List.set_cons_zero, List.set_cons_succ])
                refine wpAnyH_take (i := 20) (v := undef) rfl (by kernel_rfl) (by kernel_rfl) (by kernel_rfl) (fun _ _ _ h => h) (Or.inr ⟨by rfl, rfl⟩) (by assumption) ?_
                (try simp only [List.getElem_toArray, List.getElem_cons_zero, List.getElem_cons_succ, Act.put, List.setIfInBounds_toArray, List.set_cons_zero, List.set_cons_succ])
                refine wpAnyH_take (i := 21) (v := undef) rfl (by kernel_rfl) (by kernel_rfl) (by kernel_rfl) (fun _ _ _ h => h) (Or.inr ⟨by rfl, rfl⟩) (by assumption) ?_
                (try simp only [List.getElem_toArray, List.getElem_cons_zero, List.getElem_cons_succ, Act.put, List.setIfInBounds_toArray, List.set_cons_zero, List.set_cons_succ])
                refine wpAnyH_take (i := 22) (v := undef) rfl (by kernel_rfl) (by kernel_rfl) (by kernel_rfl) (fun _ _ _ h => h) (Or.inr ⟨by rfl, rfl⟩) (by assumption) ?_
                (try simp only [List.getElem_toArray, List.getElem_cons_zero, List.getElem_cons_succ, Act.put, List.setIfInBounds_toArray, List.set_cons_zero, List.set_cons_succ])
                refine wpAnyH_take (i := 23) (v := undef) rfl (by kernel_rfl) (by kernel_rfl) (by kernel_rfl) (fun _ _ _ h => h) (Or.inr ⟨by rfl, rfl⟩) (by assumption) ?_
                (try simp only [List.getElem_toArray, List.getElem_cons_zero, List.getElem_cons_succ, Act.put, List.setIfInBounds_toArray, List.set_cons_zero, List.set_cons_succ])
                refine wpAnyH_take (i := 24) (v := ?_) rfl (by kernel_rfl) (by kernel_rfl) (by kernel_rfl) (fun _ _ _ h => h) (Or.inl ⟨by rfl, ?_⟩) (by assumption) ?_
                rotate_left
                · (intro w' hSw; (try dsimp only at hSw); go_simp; try with_reducible rfl)
                (try simp only [List.getElem_toArray, List.getElem_cons_zero, List.getElem_cons_succ, Act.put, List.setIfInBounds_toArray, List.set_cons_zero, List.set_cons_succ])
                refine wpAnyH_take (i := 25) (v := ?_) rfl (by kernel_rfl) (by kernel_rfl) (by kernel_rfl) (fun _ _ _ h => h) (Or.inl ⟨by rfl, ?_⟩) (by assumption) ?_
                rotate_left
                · (intro w' hSw; (try dsimp only at hSw); go_simp; try with_reducible rfl)
                (try simp only [List.getElem_toArray, List.getElem_cons_zero, List.getElem_cons_succ, Act.put, List.setIfInBounds_toArray, List.set_cons_zero, List.set_cons_succ])
                refine wpAnyH_ready (rs := [26]) (by kernel_rfl) (by simp) ?_
                refine (AllReadyH.cons rfl (fun K hK => ?_) AllReadyH.nil)
                have HKK := Lib.hid hK
                clear hK
                go_simp
                refine (haw.out _).mono ?_
                rintro e' yw1 ⟨rfl, hb1⟩
                have hq1 : Below wo.heap.size wo yw1 := below_tr (Below.drew (Below.refl wo.heap.size wo)) hb1
                have HB_yw1 := Lib.hid ((HBX.out).trans (hq1.mono (Below.size (HBX.out))))
                have HS_yw1 : Hid (wo.heap.size ≤ yw1.heap.size) := Nat.le_trans ((Nat.le_refl wo.heap.size)) hq1.size
                clear hb1
                go_wp2_with fail
                refine HKK.out _ _ (⟨(cell_below k1 hq1), (cell_below c13 hq1)⟩) (fun hH2 => ?_)
                clear HKK K
                replace hHeld := hH2
                clear hH2
                (try simp only [List.getElem_toArray, List.getElem_cons_zero, List.getElem_cons_succ, Act.put, List.setIfInBounds_toArray, List.set_cons_zero, List.set_cons_succ])
                refine wpAnyH_take (i := 27) (v := ?_) rfl (by kernel_rfl) (by kernel_rfl) (by kernel_rfl) (fun _ _ _ h => h) (Or.inl ⟨by rfl, ?_⟩) (by assumption) ?_
                rotate_left
                · (intro w' hSw; (try dsimp only at hSw); go_simp; try with_reducible rfl)
                (try simp only [List.getElem_toArray, List.getElem_cons_zero, List.getElem_cons_succ, Act.put, List.setIfInBounds_toArray, List.set_cons_zero, List.set_cons_succ])
                refine wpAnyH_take (i := 28) (v := ?_) rfl (by kernel_rfl) (by kernel_rfl) (by kernel_rfl) (fun _ _ _ h => h) (Or.inl ⟨by rfl, ?_⟩) (by assumption) ?_
                rotate_left
                · (intro w' hSw; (try dsimp only at hSw); go_simp; try with_reducible rfl)
                (try simp only [List.getElem_toArray, List.getElem_cons_zero, List.getElem_cons_succ, Act.put, List.setIfInBounds_toArray, List.set_cons_zero, List.set_cons_succ])
                refine wpAnyH_done (by kernel_rfl) ?_ _
                have HBF := Lib.hid (HB_yw1.out)
                clear hHeld
                go_wp2_with fail
                go_ret
                exact ⟨rfl, HBF.out⟩
              · have q6 : (H == x.steps) = false := by rw [beq_eq_false_iff_ne]; exact hs
                have hsk := HST1.out H
                have hfk : lo ≤ fst ov H := by
                  rcases F8.out with h | h
                  · rw [← HHE.out] at h; exact absurd h hs
                  · rw [← HHE.out] at h; exact h
                generalize fst ov H = st at *
                have HSK := Lib.hid hsk
                clear hs hsk
                refine wp_region_held_drew (S := (fun w' => w'.cell? ⟨w.heap.size, 11, none⟩ = some (.int .i64 x.gain) ∧ w'.cell? ⟨w.heap.size, 12, none⟩ = some (.int .i64 x.loss) ∧ w'.cell? ⟨w.heap.size, 13, none⟩ = some (.int .i64 x.steps) ∧ w'.cell? ⟨w.heap.size, 14, none⟩ = some (.int .i64 x.power) ∧ w'.cell? ⟨w.heap.size, 15, none⟩ = some (.slice (some ⟨bW, oW, none⟩) x.low.l.length x.low.c) ∧ w'.cell? ⟨w.heap.size, 16, none⟩ = some (.slice x.high.A x.high.l.length x.high.c) ∧ w'.cell? ⟨w.heap.size, 19, none⟩ = some (.int .i64 x.temp) ∧ w'.cell? ⟨w.heap.size, 5, none⟩ = some (.slice (some ⟨bO, oO, none⟩) x.outside.l.length x.outside.c) ∧ w'.cell? ⟨bO, oO, none⟩ = some (.int .i64 ov) ∧ w'.cell? ⟨bW, oW, none⟩ = some (.int .i64 lo) ∧ w'.cell? ⟨t2, 1, none⟩ = some (.int .i64 H))) (by kernel_rfl) (⟨c11, c12, c13, c14, c15, c16, c19, c5, o0, u0, k1⟩) (fun hHeld => ?_)
                refine wpAnyH_take (i := 0) (v := ?_) rfl (by kernel_rfl) (by kernel_rfl) (by kernel_rfl) (fun _ _ _ h => h) (Or.inl ⟨by rfl, ?_⟩) (by assumption) ?_
                rotate_left
                · (intro w' hSw; (try dsimp only at hSw); go_simp; try with_reducible rfl)
                (try simp only [List.getElem_toArray, List.getElem_cons_zero, Act.put, List.setIfInBounds_toArray, List.set_cons_zero, List.set_cons_succ])
                refine wpAnyH_take (i := 1) (v := ?_) rfl (by kernel_rfl) (by kernel_rfl) (by kernel_rfl) (fun _ _ _ h => h) (Or.inl ⟨by rfl, ?_⟩) (by assumption) ?_
                rotate_left
                · (intro w' hSw; (try dsimp only at hSw); go_simp; try with_reducible rfl)
                (try simp only [List.getElem_toArray, List.getElem_cons_zero, List.getElem_cons_succ, Act.put, List.setIfInBounds_toArray, List.set_cons_zero, List.set_cons_succ])
                refine wpAnyH_take (i := 2) (v := ?_) rfl (by kernel_rfl) (by kernel_rfl) (by kernel_rfl) (fun _ _ _ h => h) (Or.inl ⟨by rfl, ?_⟩) (by assumption) ?_
                rotate_left
                · (intro w' hSw; (try dsimp only at hSw); go_simp; try with_reducible rfl)
                (try simp only [List.getElem_toArray, List.getElem_cons_zero, List.getElem_cons_succ, Act.put, List.setIfInBounds_toArray, List.set_cons_zero, List.set_cons_succ])
                refine wpAnyH_take (i := 3) (v := ?_) rfl (by kernel_rfl) (by kernel_rfl) (by kernel_rfl) (fun _ _ _ h => h) (Or.inl ⟨by rfl, ?_⟩) (by assumption) ?_
                rotate_left
                · (intro w' hSw; (try dsimp only at hSw); go_simp; try with_reducible rfl)
                (try simp only [List.getElem_toArray, List.getElem_cons_zero, List.getElem_cons_succ, Act.put, List.setIfInBounds_toArray, List.set_cons_zero, List.set_cons_succ])
                refine wpAnyH_take (i := 4) (v := ?_) rfl (by kernel_rfl) (by kernel_rfl) (by kernel_rfl) (fun _ _ _ h => h) (Or.inl ⟨by rfl, ?_⟩) (by assumption) ?_
                rotate_left
                · (intro w' hSw; (try dsimp only at hSw); go_simp; try with_reducible rfl)
                (try simp only [List.getElem_toArray, List.getElem_cons_zero, List.getElem_cons_succ, Act.put, List.setIfInBounds_toArray, List.set_cons_zero, List.set_cons_succ])
                refine wpAnyH_take (i := 5) (v := ?_) rfl (by kernel_rfl) (by kernel_rfl) (by kernel_rfl) (fun _ _ _ h => h) (Or.inl ⟨by rfl, ?_⟩) (by assumption) ?_
                rotate_left
                · (intro w' hSw; (try dsimp only at hSw); go_simp; try with_reducible rfl)
                (try simp only [List.getElem_toArray, List.getElem_cons_zero, List.getElem_cons_succ, Act.put, List.setIfInBounds_toArray, List.set_cons_zero, List.set_cons_succ])
                refine wpAnyH_take (i := 6) (v := ?_) rfl (by kernel_rfl) (by kernel_rfl) (by kernel_rfl) (fun _ _ _ h => h) (Or.inl ⟨by rfl, ?_⟩) (by assumption) ?_
                rotate_left
                · (intro w' hSw; (try dsimp only at hSw); go_simp; try with_reducible rfl)
                (try simp only [List.getElem_toArray, List.getElem_cons_zero, List.getElem_cons_succ, Act.put, List.setIfInBounds_toArray, List.set_cons_zero, List.set_cons_succ])
                refine wpAnyH_take (i := 7) (v := ?_) rfl (by kernel_rfl) (by kernel_rfl) (by kernel_rfl) (fun _ _ _ h => h) (Or.inl ⟨by rfl, ?_⟩) (by assumption) ?_
                rotate_left
                · (intro w' hSw; (try dsimp only at hSw); go_simp; try with_reducible rfl)
                (try simp only [List.getElem_toArray, List.getElem_cons_zero, List.getElem_cons_succ, Act.put, List.setIfInBounds_toArray, List.set_cons_zero, List.set_cons_succ])
                refine wpAnyH_take (i := 8) (v := ?_) rfl (by kernel_rfl) (by kernel_rfl) (by kernel_rfl) (fun _ _ _ h => h) (Or.inl ⟨by rfl, ?_⟩) (by assumption) ?_
                rotate_left
                · (intro w' hSw; (try dsimp only at hSw); go_simp; try with_reducible rfl)
                (try simp only [List.getElem_toArray, List.getElem_cons_zero, List.getElem_cons_succ, Act.put, List.setIfInBounds_toArray, List.set_cons_zero, List.set_cons_succ])
                refine wpAnyH_take (i := 9) (v := ?_) rfl (by kernel_rfl) (by kernel_rfl) (by kernel_rfl) (fun _ _ _ h => h) (Or.inl ⟨by rfl, ?_⟩) (by assumption) ?_
                rotate_left
                · (intro w' hSw; (try dsimp only at hSw); go_simp; try with_reducible rfl)
                (try simp only [List.getElem_toArray, List.getElem_cons_zero, List.getElem_cons_succ, Act.put, List.setIfInBounds_toArray, List.set_cons_zero, List.set_cons_succ])
                refine wpAnyH_take (i := 10) (v := ?_) rfl (by kernel_rfl) (by kernel_rfl) (by kernel_rfl) (fun _ _ _ h => h) (Or.inl ⟨by rfl, ?_⟩) (by assumption) ?_
                rotate_left
                · (intro w' hSw; (try dsimp only at hSw); go_simp; try with_reducible rfl)
                (try simp only [List.getElem_toArray, List.getElem_cons_zero, List.getElem_cons_succ, Act.put, List.setIfInBounds_toArray, List.set_cons_zero, List.set_cons_succ])
                refine wpAnyH_take (i := 11) (v := ?_) rfl (by kernel_rfl) (by kernel_rfl) (by kernel_rfl) (fun _ _ _ h => h) (Or.inl ⟨by rfl, ?_⟩) (by assumption) ?_
                rotate_left
                · (intro w' hSw; (try dsimp only at hSw); go_simp; try with_reducible rfl)
                (try simp only [List.getElem_toArray, List.getElem_cons_zero, List.getElem_cons_succ, Act.put, List.setIfInBounds_toArray, List.set_cons_zero, List.set_cons_succ])
                refine wpAnyH_take (i := 12) (v := ?_) rfl (by kernel_rfl) (by kernel_rfl) (by kernel_rfl) (fun _ _ _ h => h) (Or.inl ⟨by rfl, ?_⟩) (by assumption) ?_
                rotate_left
                · (intro w' hSw; (try dsimp only at hSw); go_simp; try with_reducible rfl)
                (try simp only [List.getElem_toArray, List.getElem_cons_zero, List.getElem_cons_succ, Act.put, List.setIfInBounds_toArray, List.set_cons_zero, List.set_cons_succ])
                refine wpAnyH_take (i := 13) (v := ?_) rfl (by kernel_rfl) (by kernel_rfl) (by kernel_rfl) (fun _ _ _ h => h) (Or.inl ⟨by rfl, ?_⟩) (by assumption) ?_
                rotate_left
                · (intro w' hSw; (try dsimp only at hSw); go_simp; try with_reducible rfl)
                (try simp only [List.getElem_toArray, List.getElem_cons_zero, List.getElem_cons_succ, Act.put, List.setIfInBounds_toArray, List.set_cons_zero, List.set_cons_succ])
                refine wpAnyH_take (i := 14) (v := ?_) rfl (by kernel_rfl) (by kernel_rfl) (by kernel_rfl) (fun _ _ _ h => h) (Or.inl ⟨by rfl, ?_⟩) (by assumption) ?_
                rotate_left
                · (intro w' hSw; (try dsimp only at hSw); go_simp; try with_reducible rfl)
                (try simp only [List.getElem_toArray, List.getElem_cons_zero, List.getElem_cons_succ, Act.put, List.setIfInBounds_toArray, List.set_cons_zero, List.set_cons_succ])
                refine wpAnyH_take (i := 15) (v := ?_) rfl (by kernel_rfl) (by kernel_rfl) (by kernel_rfl) (fun _ _ _ h => h) (Or.inl ⟨by rfl, ?_⟩) (by assumption) ?_
                rotate_left
                · (intro w' hSw; (try dsimp only at hSw); go_simp; try with_reducible rfl)
                (try simp only [List.getElem_toArray, List.getElem_cons_zero, List.getElem_cons_succ, Act.put, List.setIfInBounds_toArray, List.set_cons_zero, List.set_cons_succ])
                refine wpAnyH_take (i := 16) (v := ?_) rfl (by kernel_rfl) (by kernel_rfl) (by kernel_rfl) (fun _ _ _ h => h) (Or.inl ⟨by rfl, ?_⟩) (by assumption) ?_
                rotate_left
                · (intro w' hSw; (try dsimp only at hSw); go_simp; try with_reducible rfl)
                (try simp only [List.getElem_toArray, List.getElem_cons_zero, List.getElem_cons_succ, Act.put, List.setIfInBounds_toArray, List.set_cons_zero, List.set_cons_succ])
                refine wpAnyH_take (i := 18) (v := ?_) rfl (by kernel_rfl) (by kernel_rfl) (by kernel_rfl) (fun _ _ _ h => h) (Or.inl ⟨by rfl, ?_⟩) (by assumption) ?_
                rotate_left
                · (intro w' hSw; (try dsimp only at hSw); go_simp; try with_reducible rfl)
                (try simp only [List.getElem_toArray, List.getElem_cons_zero, List.getElem_cons_succ, Act.put, List.setIfInBounds_toArray, List.set_cons_zero, List.set_cons_succ])
                refine wpAnyH_take (i := 19) (v := ?_) rfl (by kernel_rfl) (by kernel_rfl) (by kernel_rfl) (fun _ _ _ h => h) (Or.inl ⟨by rfl, ?_⟩) (by assumption) ?_
                rotate_left
                · (intro w' hSw; (try dsimp only at hSw); go_simp; try with_reducible rfl)
                (try simp only [List.getElem_toArray, List.getElem_cons_zero, List.getElem_cons_succ, Act.put, List.setIfInBounds_toArray, List.set_cons_zero, List.set_cons_succ])
                refine wpAnyH_take (i := 20) (v := ?_) rfl (by kernel_rfl) (by kernel_rfl) (by kernel_rfl) (fun _ _ _ h => h) (Or.inl ⟨by rfl, ?_⟩) (by assumption) ?_
                rotate_left
                · (intro w' hSw; (try dsimp only at hSw); go_simp; try with_reducible rfl)
                (try simp only [List.getElem_toArray, List.getElem_cons_zero, List.getElem_cons_succ, Act.put, List.setIfInBounds_toArray, List.set_cons_zero, List.set_cons_succ])
                refine wpAnyH_take (i := 21) (v := ?_) rfl (by kernel_rfl) (by kernel_rfl) (by kernel_rfl) (fun _ _ _ h => h) (Or.inl ⟨by rfl, ?_⟩) (by assumption) ?_
                rotate_left
                · (intro w' hSw; (try dsimp only at hSw); go_simp; try with_reducible rfl)
                (try simp only [List.getElem_toArray, List.getElem_cons_zero, List.getElem_cons_succ, Act.put, List.setIfInBounds_toArray, List.set_cons_zero, List.set_cons_succ])
                refine wpAnyH_take (i := 22) (v := ?_) rfl (by kernel_rfl) (by kernel_rfl) (by kernel_rfl) (fun _ _ _ h => h) (Or.inl ⟨by rfl, ?_⟩) (by assumption) ?_
                rotate_left
                · (intro w' hSw; (try dsimp only at hSw); go_simp; try with_reducible rfl)
                (try simp only [List.getElem_toArray, List.getElem_cons_zero, List.getElem_cons_succ, Act.put, List.setIfInBounds_toArray, List.set_cons_zero, List.set_cons_succ])
                refine wpAnyH_ready (rs := [17]) (by kernel_rfl) (by simp) ?_
                refine (AllReadyH.cons rfl (fun K hK => ?_) AllReadyH.nil)
                have HKK := Lib.hid hK
                clear hK
                go_simp
                refine (HSK.out _ ((HX9.out.pr hP.out).below ((by first | exact Below.drew (Below.refl _ _))))).mono ?_
                rintro e' yw1 ⟨rfl, hb1⟩
                have hq1 : Below wo.heap.size wo yw1 := below_tr (Below.drew (Below.refl wo.heap.size wo)) hb1
                have HB_yw1 := Lib.hid ((HBX.out).trans (hq1.mono (Below.size (HBX.out))))
                have HS_yw1 : Hid (wo.heap.size ≤ yw1.heap.size) := Nat.le_trans ((Nat.le_refl wo.heap.size)) hq1.size
                clear hb1
                go_wp2_with fail
                refine HKK.out _ _ (⟨(cell_below c11 hq1), (cell_below c12 hq1), (cell_below c13 hq1), (cell_below c14 hq1), (cell_below c15 hq1), (cell_below c16 hq1), (cell_below c19 hq1), (cell_below c5 hq1), (cell_below o0 hq1), (cell_below u0 hq1), (cell_below k1 hq1)⟩) (fun hH2 => ?_)
                clear HKK K
                replace hHeld := hH2
                clear hH2
                (try simp only [List.getElem_toArray, List.getElem_cons_zero, List.getElem_cons_succ, Act.put, List.setIfInBounds_toArray, List.set_cons_zero, List.set_cons_succ])
                refine wpAnyH_take (i := 23) (v := ?_) rfl (by kernel_rfl) (by kernel_rfl) (by kernel_rfl) (fun _ _ _ h => h) (Or.inl ⟨by rfl, ?_⟩) (by assumption) ?_
                rotate_left
                · (intro w' hSw; (try dsimp only at hSw); go_simp; try with_reducible rfl)
                (try simp only [List.getElem_toArray, List.getElem_cons_zero, List.getElem_cons_succ, Act.put, List.setIfInBounds_toArray, List.set_cons_zero, List.set_cons_succ])
                refine wpAnyH_take (i := 24) (v := ?_) rfl (by kernel_rfl) (by kernel_rfl) (by kernel_rfl) (fun _ _ _ h => h) (Or.inl ⟨by rfl, ?_⟩) (by assumption) ?_
                rotate_left
                · (intro w' hSw; (try dsimp only at hSw); go_simp; try with_reducible rfl)
                (try simp only [List.getElem_toArray, List.getElem_cons_zero, List.getElem_cons_succ, Act.put, List.setIfInBounds_toArray, List.set_cons_zero, List.set_cons_succ])
                refine wpAnyH_take (i := 25) (v := ?_) rfl (by kernel_rfl) (by kernel_rfl) (by kernel_rfl) (fun _ _ _ h => h) (Or.inl ⟨by rfl, ?_⟩) (by assumption) ?_
                rotate_left
                · (intro w' hSw; (try dsimp only at hSw); go_simp; try with_reducible rfl)
                (try simp only [List.getElem_toArray, List.getElem_cons_zero, List.getElem_cons_succ, Act.put, List.setIfInBounds_toArray, List.set_cons_zero, List.set_cons_succ])
                refine wpAnyH_ready (rs := [26]) (by kernel_rfl) (by simp) ?_
                refine (AllReadyH.cons rfl (fun K hK => ?_) AllReadyH.nil)
                have HKK := Lib.hid hK
                clear hK
                go_simp
                refine (haw.out _).mono ?_
                rintro e' yw2 ⟨rfl, hb2⟩
                have hq2 : Below yw1.heap.size yw1 yw2 := hb2
                have HB_yw2 := Lib.hid ((HB_yw1.out).trans (hq2.mono (Below.size (HB_yw1.out))))
                have HS_yw2 : Hid (wo.heap.size ≤ yw2.heap.size) := Nat.le_trans (HS_yw1.out) hq2.size
                clear hb2
                go_wp2_with fail
                refine HKK.out _ _ (⟨(cell_below (cell_below c11 hq1) hq2), (cell_below (cell_below c12 hq1) hq2), (cell_below (cell_below c13 hq1) hq2), (cell_below (cell_below c14 hq1) hq2), (cell_below (cell_below c15 hq1) hq2), (cell_below (cell_below c16 hq1) hq2), (cell_below (cell_below c19 hq1) hq2), (cell_below (cell_below c5 hq1) hq2), (cell_below (cell_below o0 hq1) hq2), (cell_below (cell_below u0 hq1) hq2), (cell_below (cell_below k1 hq1) hq2)⟩) (fun hH2 => ?_)
                clear HKK K
                replace hHeld := hH2
                clear hH2
                (try simp only [List.getElem_toArray, List.getElem_cons_zero, List.getElem_cons_succ, Act.put, List.setIfInBounds_toArray, List.set_cons_zero, List.set_cons_succ])
                refine wpAnyH_take (i := 27) (v := ?_) rfl (by kernel_rfl) (by kernel_rfl) (by kernel_rfl) (fun _ _ _ h => h) (Or.inl ⟨by rfl, ?_⟩) (by assumption) ?_
                rotate_left
                · (intro w' hSw; (try dsimp only at hSw); go_simp; try with_reducible rfl)
                (try simp only [List.getElem_toArray, List.getElem_cons_zero, List.getElem_cons_succ, Act.put, List.setIfInBounds_toArray, List.set_cons_zero, List.set_cons_succ])
                refine wpAnyH_take (i := 28) (v := ?_) rfl (by kernel_rfl) (by kernel_rfl) (by kernel_rfl) (fun _ _ _ h => h) (Or.inl ⟨by rfl, ?_⟩) (by assumption) ?_
                rotate_left
                · (intro w' hSw; (try dsimp only at hSw); go_simp; try with_reducible rfl)
                (try simp only [List.getElem_toArray, List.getElem_cons_zero, List.getElem_cons_succ, Act.put, List.setIfInBounds_toArray, List.set_cons_zero, List.set_cons_succ])
                refine wpAnyH_done (by kernel_rfl) ?_ _
                have HBF := Lib.hid (HB_yw2.out)
                clear hHeld
                go_wp2_with fail
                go_ret
                exact ⟨rfl, HBF.out⟩
end Go.Proofs.Ytnppngaabfhkpaa
