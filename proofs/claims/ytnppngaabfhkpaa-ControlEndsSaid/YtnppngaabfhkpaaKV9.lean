/-
  The law ControlEnds, walked.
-/
import Derived.Test.YtnppngaabfhkpaaKV4
import Derived.Test.YtnppngaabfhkpaaKOP7
namespace Go.Proofs.Ytnppngaabfhkpaa
open Go.RowKit
attribute [local go_sem ↓] Go.wp_at_zero Go.wp_at_succ

set_option maxRecDepth 100000 in
set_option maxHeartbeats 64000000 in
theorem cends_law (x : PbM) (w : World) (hP0 : RPb w x) (hL0 : ∀ z ∈ x.loads, z.r.prof.length ≤ maxLen ∧ z.r.name.size ≤ maxLen ∧ -9223372036854775808 ≤ z.r.late ∧ z.r.late ≤ 9223372036854775807) (hc0 : x.loads.length ≤ x.lc) (hm0 : x.buy.l.length ≤ maxLen) (hC0 : x.Cap) :
    Calls Try.prog 14 #[x.v] w fun e w' => e = .returned (.bool true) ∧ Below w.heap.size w w' := by
  have hF0 : x.Fit := ⟨fun y h => (hL0 y h).2.1, fun y h => (hL0 y h).1, hc0, hm0, fun y h => (hL0 y h).2.2⟩
  have hP := Lib.hid hP0
  have haw := Lib.hid awake44_any
  have hsm := fun W (h : RPb W x) => small44_any x W h hF0
  have hsi := fun W (h : RPb W x) => (simulateX_any x W h hF0 hC0).mono (fun e w' hh => (by
    obtain ⟨y, he, ⟨hy, _⟩, hr, hb⟩ := hh
    exact ⟨y, he, hy, hr, hb⟩ : ∃ y : PnM, e = .returned (.tuple #[y.v, .int .i64 x.p.chk]) ∧ y.x = x.p.simP ∧ RPn w' y ∧ Below W.heap.size W w'))
  have hlen : x.p.chk = 0 → ∀ y : PnM, y.x = x.p.simP → y.charge.l.length = x.buy.l.length ∧ y.heat.l.length = x.buy.l.length ∧ y.start.l.length = x.loads.length ∧ x.loads.length ≤ 4 := fun hc y hy => by
    have h4 := Pb.loads4 (Pb.good hc)
    rw [PbM.loads_len] at h4
    obtain ⟨h1, h2, h3, _⟩ := Pb.sim_lens hc
    rw [← hy] at h1 h2 h3
    rw [PbM.loads_len] at h3
    exact ⟨h1, h2, h3, h4⟩
  have hfit : x.p.chk = 0 → ∀ (y : PnM) (k : Nat) (hk : k < x.loads.length) (hk2 : k < y.start.l.length), y.x = x.p.simP → ∀ W, RInts W x.loads[k].A x.loads[k].r.prof → Calls Try.prog 46 #[x.loads[k].r.v x.loads[k].A x.loads[k].c, .int .i64 y.start.l[k], .int .i64 x.buy.l.length] W (fun e w' => e = .returned (.bool true) ∧ Below W.heap.size W w') := fun hc y k hk hk2 hy W h => by
    obtain ⟨_, _, _, h4⟩ := Pb.sim_lens hc
    have h5 := h4 k (by rw [PbM.loads_len]; exact hk)
    rw [← hy, PbM.load_at hk, show y.x.start.getD k 0 = y.start.l[k] by show y.start.l.getD k 0 = _; simp [List.getD, hk2]] at h5
    have h6 : x.loads[k].r.fit y.start.l[k] x.buy.l.length = true := h5
    have h7 := lfit_any x.loads[k].r x.loads[k].A x.loads[k].c y.start.l[k] x.buy.l.length W h (hF0.names _ (List.getElem_mem hk)) (hF0.profs _ (List.getElem_mem hk))
    rw [h6] at h7
    exact h7
  have hst0 := PB.start x w
  simp only [PbM.v]
  obtain ⟨W, hW⟩ : ∃ W, W = w.alloc (.cells #[.slice x.buy.A x.buy.l.length x.buy.c, .slice x.sell.A x.sell.l.length x.sell.c, .int .i64 x.fuse, .slice x.solar.A x.solar.l.length x.solar.c, .slice x.demand.A x.demand.l.length x.demand.c, .slice x.outside.A x.outside.l.length x.outside.c, .int .i64 x.bat.cap, .int .i64 x.bat.reserve, .int .i64 x.bat.charge, .int .i64 x.bat.discharge, .int .i64 x.bat.eff, .int .i64 x.gain, .int .i64 x.loss, .int .i64 x.steps, .int .i64 x.power, .slice x.low.A x.low.l.length x.low.c, .slice x.high.A x.high.l.length x.high.c, .slice x.LA x.loads.length x.lc, .int .i64 x.level, .int .i64 x.temp] 31) := ⟨_, rfl⟩
  rw [show w.alloc (.cells x.cs 31) = W from hW.symm] at hst0
  have hst := Lib.hid hst0
  have hWH := Lib.hid hW
  clear hst0 hW hP0 hL0 hc0 hm0 hF0 hC0
  have HSM : Hid (∀ W, RPb W x → Calls Try.prog 42 #[x.v] W (fun e w' => ∃ g : Bool, e = .returned (.bool g) ∧ (g = true → x.p.chk = 0) ∧ Below W.heap.size W w')) := fun W h => (hsm W h).mono fun e w' ⟨g, h1, h2, h3⟩ => ⟨g, h1, fun h => (h2 h).1, h3⟩
  generalize x.p.simP = sp at *
  generalize x.p.chk = ck at *
  have HSI := Lib.hid hsi
  have HLEN := Lib.hid hlen
  have HFIT := Lib.hid hfit
  clear hsm hsi hlen hfit
  go_enter Try.func14, Try.ntmps14
  go_upto_region 1 with fail
  rw [← hWH.out]
  clear hWH
  go_wp2_with (first | refine wpList_load_problemG (by rfl) _ rfl w.heap.size rfl x hst.out.p ?_)
  refine (HSM.out _ (hst.out.pr hP.out)).mono ?_
  rintro e w1 ⟨g, rfl, hg, hb1⟩
  have HX1 := Lib.hid (hst.out.below hb1)
  clear hb1 hst HSM
  cases g
  · clear hg
    go_wp2_with fail
    refine (haw.out _).mono ?_
    rintro e wl ⟨rfl, hbl⟩
    go_wp2_with fail
    go_ret
    exact ⟨rfl, HX1.out.bel.trans (hbl.mono HX1.out.bel.size)⟩
  · have hc := hg rfl
    have hle2 := HLEN.out hc
    have hfi2 := HFIT.out hc
    have HLE := Lib.hid hle2
    have HFI := Lib.hid hfi2
    subst hc
    clear hg hle2 hfi2 HLEN HFIT
    have c0 := HX1.out.p.cell 0
    simp [PbM.cs] at c0
    go_upto_region 3 with fail
    go_upto_region 4 with fail
    clear c0
    go_wp2_with (first | refine wpList_load_problemG (by rfl) _ rfl w.heap.size rfl x HX1.out.p ?_)
    refine (HSI.out _ (HX1.out.pr hP.out)).mono ?_
    rintro e w5 ⟨y, rfl, hy, hry, hb5⟩
    have HX5 := Lib.hid (HX1.out.below hb5)
    have HY := Lib.hid hy
    clear hb5 HX1 HSI hy
    simp only [PnM.v]
    go_wp2_with (refine wpList_store_blk rfl 33 _ _ rfl w5.heap.size rfl y.cs rfl (by kernel_rfl) (PnM.cs_one _) (Blk.new w5 _ _) rfl ?_)
    intro w6 hBB hgg
    have hss : Below w5.heap.size w5 w6 := ((Below.refl w5.heap.size w5).alloc (Nat.le_refl _) (.cells #[.slice none 0 0, .slice none 0 0, .slice none 0 0] 33)).grown hgg (by simp) (fun k e => by injection e with e; omega)
    obtain ⟨t4, ht⟩ : ∃ t, t = w5.heap.size := ⟨_, rfl⟩
    have HX6 := Lib.hid (HX5.out.below hss)
    have HY6 := Lib.hid (ly_store hry hss hBB)
    rw [← ht] at HY6
    have HT := Lib.hid ht
    clear hss hgg hBB hry ht HX5
    go_upto_region 5 with fail
    rw [← HT.out]
    clear HT
    obtain ⟨l0, l1, l2, l4⟩ := HLE.out y HY.out
    have p0 := HY6.out.p.cell 0
    have p1 := HY6.out.p.cell 1
    have p2 := HY6.out.p.cell 2
    have c17 := HX6.out.p.cell 17
    simp [PnM.cs] at p0 p1 p2
    simp [PbM.cs] at c17
    rw [l0] at p0
    rw [l1] at p1
    rw [l2] at p2
    have L2 := Lib.hid l2
    have L4 := Lib.hid l4
    clear l0 l1 l2 l4
    have q0 : ((x.buy.l.length : Int) != (x.buy.l.length : Int)) = false := by simp
    have q1 : ((x.loads.length : Int) != (x.loads.length : Int)) = false := by simp
    go_upto_region 7 with fail
    clear p0 p1 p2 c17 q0 q1
    go_wp2_with fail
    go_loopw [6] (fun s6 wr => ∃ k : Nat, k ≤ x.loads.length ∧ s6 = .int .i64 k ∧ Hid (PB x w wr) ∧ Hid (LY y t4 wr))
      (fun s6 _ => x.loads.length - (intOf s6).toNat)
    case atStart => exact ⟨0, by omega, rfl, HX6.out, HY6.out⟩
    case round =>
      clear HX6 HY6
      obtain ⟨k, hk, rfl, hX, hL⟩ := hrel
      obtain ⟨wo, hwo⟩ : ∃ wo : World, wo = wr := ⟨_, rfl⟩
      subst hwo
      have c17 := hX.out.p.cell 17
      simp [PbM.cs] at c17
      by_cases hlt : k < x.loads.length
      · have hks : k < y.start.l.length := by have := L2.out; omega
        have hk4 : (k : Int) ≤ 4 := by have := L4.out; omega
        have i1 : (0 : Int) ≤ (k : Int) := by omega
        have i2 : (k : Int) < (x.loads.length : Int) := by omega
        obtain ⟨bL, oL, hAe, _, z0, z1, z2, z3⟩ := (hX.out.pr hP.out).loads.at' hlt
        obtain ⟨bS, oS, hSe, _, s0⟩ := hL.out.r.start.at' hks
        have hfk := HFI.out y k hlt hks HY.out
        simp only [Ld.v] at hfk
        have HPR := Lib.hid ((hX.out.pr hP.out).loads.prof hlt)
        have p2 := hL.out.p.cell 2
        simp [PnM.cs] at p2
        rw [L2.out, hSe] at p2
        rw [hAe] at c17
        generalize x.loads[k] = X at *
        generalize y.start.l[k] = s at *
        have HFK := Lib.hid hfk
        clear hfk hAe hSe hks
        go_upto_region 10 with fail
        have HK : Hid (∀ W, Below wo.heap.size wo W → Below wo.heap.size wo W ∧ W.cell? ⟨w.heap.size, 17, none⟩ = some (.slice (some ⟨bL, oL, none⟩) x.loads.length x.lc) ∧ W.cell? ⟨bL, oL + k * 4, none⟩ = some (.string X.r.name) ∧ W.cell? ⟨bL, oL + k * 4 + 1, none⟩ = some (.slice X.A X.r.prof.length X.c) ∧ W.cell? ⟨bL, oL + k * 4 + 2, none⟩ = some (.int .i64 X.r.early) ∧ W.cell? ⟨bL, oL + k * 4 + 3, none⟩ = some (.int .i64 X.r.late) ∧ W.cell? ⟨t4, 2, none⟩ = some (.slice (some ⟨bS, oS, none⟩) x.loads.length y.start.c) ∧ W.cell? ⟨bS, oS + k, none⟩ = some (.int .i64 s)) := fun W hb => ⟨hb, cell_below c17 hb, cell_below z0 hb, cell_below z1 hb, cell_below z2 hb, cell_below z3 hb, cell_below p2 hb, cell_below s0 hb⟩
        go_region_held3 (fun w' => Below wo.heap.size wo w' ∧ w'.cell? ⟨w.heap.size, 17, none⟩ = some (.slice (some ⟨bL, oL, none⟩) x.loads.length x.lc) ∧ w'.cell? ⟨bL, oL + k * 4, none⟩ = some (.string X.r.name) ∧ w'.cell? ⟨bL, oL + k * 4 + 1, none⟩ = some (.slice X.A X.r.prof.length X.c) ∧ w'.cell? ⟨bL, oL + k * 4 + 2, none⟩ = some (.int .i64 X.r.early) ∧ w'.cell? ⟨bL, oL + k * 4 + 3, none⟩ = some (.int .i64 X.r.late) ∧ w'.cell? ⟨t4, 2, none⟩ = some (.slice (some ⟨bS, oS, none⟩) x.loads.length y.start.c) ∧ w'.cell? ⟨bS, oS + k, none⟩ = some (.int .i64 s))
            (first | exact HK.out _ (Below.refl _ _) | exact HK.out _ (Below.drew (Below.refl _ _)) | exact HK.out _ (Below.drew (by assumption)) | exact HK.out _ (Below.drew (And.left (by assumption))) | exact HK.out _ (Below.trans (by first | assumption | exact And.left (by assumption) | exact Below.refl _ _ | exact Below.drew (Below.refl _ _) | exact Below.drew (by assumption) | exact Below.drew (And.left (by assumption))) (Below.mono (by assumption) (Below.size (by first | assumption | exact And.left (by assumption) | exact Below.refl _ _ | exact Below.drew (Below.refl _ _) | exact Below.drew (by assumption) | exact Below.drew (And.left (by assumption)))))))
            (first | (go_at_call 46; refine (HFK.out _ (HPR.out.below (by first | assumption | exact And.left (by assumption) | exact Below.refl _ _ | exact Below.drew (Below.refl _ _) | exact Below.drew (by assumption) | exact Below.drew (And.left (by assumption))))).mono ?_; rintro e' w7 ⟨rfl, hb7⟩))
        have HX7 := Lib.hid (hX.out.below (by first | assumption | exact And.left (by assumption) | exact Below.refl _ _ | exact Below.drew (Below.refl _ _) | exact Below.drew (by assumption) | exact Below.drew (And.left (by assumption))))
        have HY7 := Lib.hid (hL.out.below (by first | assumption | exact And.left (by assumption) | exact Below.refl _ _ | exact Below.drew (Below.refl _ _) | exact Below.drew (by assumption) | exact Below.drew (And.left (by assumption))))
        clear hX hL c17 z0 z1 z2 z3 p2 s0 HK HFK HPR
        go_wp2_with fail
        go_roundw
        case rel => exact ⟨k + 1, by omega, by go_num, HX7.out, HY7.out⟩
        case measure => simp [intOf]; omega
      · have i2 : ¬ (k : Int) < (x.loads.length : Int) := by omega
        go_wp2_with fail
        refine (haw.out _).mono ?_
        rintro e wl ⟨rfl, hbl⟩
        go_wp2_with fail
        go_ret
        exact ⟨rfl, hX.out.bel.trans (hbl.mono hX.out.bel.size)⟩
end Go.Proofs.Ytnppngaabfhkpaa
