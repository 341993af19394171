/-
  The walk of the law AddrOrder (layer 8).
-/
import Derived.Test.YtgflklgjjpokaaaA22
import Derived.Test.YtgflklgjjpokaaaAP13
namespace Go.Proofs.Ytgflklgjjpokaaa
open Go.RowKit
attribute [local go_sem ↓] Go.wp_at_zero Go.wp_at_succ

theorem RCls.of_own {W : World} {base : Nat} {e : TypeId} {v : Value} {n : Nat} {l : List Cl} (h : W.ownsRow base e 3 v n (clCells l)) (hn : n = l.length) : ∃ A c, v = .slice A l.length c ∧ RCls W A l := by
  subst hn
  obtain ⟨A, c, h1, h2, _⟩ := rcls_own h
  exact ⟨A, c, h1, h2⟩

set_option maxRecDepth 100000 in
set_option maxHeartbeats 16000000 in
theorem order_law (A : Option Addr) (c : Nat) (l : List Cl) (b : Nat) (w : World) (hA0 : RCls w A l) (hw : ∀ x ∈ l, x.Wf) (hb : b < 256) :
    Calls Try.prog 9 #[.slice A l.length c, .int .u8 (b : Int)] w fun e' w' => e' = .returned (.bool true) ∧ Below w.heap.size w w' := by
  have hB0 := Lib.hid (Below.refl w.heap.size w)
  obtain ⟨i0, hi, hz0, hz1, hz2⟩ := info_parts Try.infoClaim
  by_cases h30 : (30 : Int) < (l.length : Int)
  · clear hw
    generalize l.length = m at *
    go_enter Try.func9, Try.ntmps9
    go_wp2_with fail
    refine (awake_any _).mono ?_
    rintro e' w9 ⟨rfl, hb9⟩
    have hO := Lib.hid (hB0.out.trans (hb9.mono hB0.out.size))
    clear hb9
    go_wp2_with fail
    go_ret
    exact ⟨rfl, hO.out⟩
  · have hA := Lib.hid hA0
    have hk0 := rclcheck_any A c l w hA0 hw
    by_cases h0 : clChk l = 0
    · have hg := clGood h0
      have hgr := rot_good hg b
      have hs : Hid (∀ W, RCls W A l → Calls Try.prog 23 #[.slice A l.length c] W (fun e w' => ∃ A' c', e = .returned (.slice A' l.length c') ∧ RCls w' A' (iterL l 700) ∧ Below W.heap.size W w')) := fun W h => by
        have h1 : Calls Try.prog 23 #[.slice A l.length c] W (fun e w' => ∃ A' c', e = .returned (.slice A' (settleL l 700).length c') ∧ RCls w' A' (settleL l 700) ∧ Below W.heap.size W w') := lsettle_any A c l W h hw (by omega)
        rw [settleL_length, show settleL l 700 = iterL l 700 by unfold settleL; rw [if_pos h0]] at h1
        exact h1
      have hs2 : Hid (∀ A2 c2 W, RCls W A2 (rotTo l b l.length) → Calls Try.prog 23 #[.slice A2 l.length c2] W (fun e w' => ∃ A' c', e = .returned (.slice A' l.length c') ∧ RCls w' A' (iterL (rotTo l b l.length) 700) ∧ Below W.heap.size W w')) := fun A2 c2 W h => by
        have h1 : Calls Try.prog 23 #[.slice A2 (rotTo l b l.length).length c2] W (fun e w' => ∃ A' c', e = .returned (.slice A' (settleL (rotTo l b l.length) 700).length c') ∧ RCls w' A' (settleL (rotTo l b l.length) 700) ∧ Below W.heap.size W w') := lsettle_any A2 c2 (rotTo l b l.length) W h (fun x hx => hw x ((rot_mem l b x).2 hx)) (by rw [rotTo_length]; omega)
        rw [settleL_length, show settleL (rotTo l b l.length) 700 = iterL (rotTo l b l.length) 700 by unfold settleL; rw [if_pos (good_clChk hgr)], rotTo_length] at h1
        exact h1
      have hoe := Lib.hid (order_end hg b)
      have hlM := Lib.hid (iterL_length l 700)
      have hlR : Hid ((iterL (rotTo l b l.length) 700).length = l.length) := (iterL_length _ 700).trans (rotTo_length _ _ _)
      have hrl := Lib.hid (fun k => rotTo_length l b k)
      have hrs := Lib.hid (fun (k : Nat) (h : k < l.length) => rotTo_succ (b := b) h)
      have hri := Lib.hid (fun (k : Nat) (h : k < l.length) => rotAt_int (b := b) h)
      have hrt := Lib.hid (fun (k : Nat) (h : k < l.length) => rotAt_lt (n := l.length) (b := b) (i := k) (by omega))
      rw [h0] at hk0
      have HK0 := Lib.hid hk0
      clear hA0 hw hg hgr h0 hk0
      generalize iterL l 700 = M at *
      generalize iterL (rotTo l b l.length) 700 = R at *
      obtain ⟨n, hn⟩ : ∃ n, n = l.length := ⟨_, rfl⟩
      have HN := Lib.hid hn
      rw [← hn] at hs hs2 HK0 h30 hlM hlR hri ⊢
      clear hn
      go_enter Try.func9, Try.ntmps9
      go_wp2_with fail
      refine HK0.out.mono ?_
      rintro e' w1 ⟨rfl, hb1⟩
      have B1 := Lib.hid hb1
      clear hb1
      go_wp2_with fail
      go_loopw [6, 7] (fun v i' wr => ∃ k : Nat, k ≤ n ∧ i' = .int .i64 k ∧ wr.ownsRow w1.heap.size 40 3 v k (clCells (rotTo l b k)) ∧ Below w1.heap.size w1 wr)
        (fun _ i' _ => n - (intOf i').toNat)
      case atStart => exact ⟨0, by omega, rfl, World.ownsRow_nil _ _ _ _, Below.refl _ _⟩
      case round =>
        obtain ⟨k, hkn, rfl, hown0, hBw⟩ := hrel
        have hown := Lib.hid hown0
        have HB := Lib.hid hBw
        have hsz := hBw.size
        clear hBw hown0
        by_cases hlt : k < n
        · have hkl : k < l.length := by have := HN.out; omega
          have hq1 := hrt.out k hkl
          have hq2 := hri.out k (by have := HN.out; omega)
          have hq3 := Lib.hid (hrs.out k hkl)
          have hq5 : rotAt n b k = rotAt l.length b k := by rw [HN.out]
          have hq4 : rotAt l.length b k < n := by have := HN.out; omega
          rw [hq5] at hq2
          clear hq5
          obtain ⟨bb, of, hAe, _, z0, z1, z2⟩ := (hA.out.below (B1.out.trans (HB.out.mono B1.out.size))).at' hq1
          generalize l[rotAt l.length b k] = x at *
          generalize rotAt l.length b k = q at *
          subst hAe
          clear hq1
          have i1 : (0 : Int) ≤ (q : Int) := by omega
          have i2 : (q : Int) < (n : Int) := by omega
          have hq2' : ((2 * (n : Int) - 1 - (k : Int) + (b : Int)).tmod (n : Int)) = (q : Int) := hq2
          have hn0 : ((n : Int) == 0) = false := by simpa using (by omega : ¬ (n : Int) = 0)
          go_wp2_with (at_builtin; refine wpList_append_new _ _ rfl _ _ 29 rfl w1.heap.size 40 i0 (.agg #[.int .u64 0, .int .i64 0, .int .i64 0]) 3 24 Try.underlying29 hi hz0 hz1 hz2 rfl (by decide) (by decide) _ _ _ rfl hown.out #[.int .u64 x.eui, .int .i64 x.addr, .int .i64 x.try_] rfl (cl_one x) rfl rfl (by omega) (by omega) ?_)
          intro v' w7 hown7 hb7
          have hown8 : Hid (w7.ownsRow w1.heap.size 40 3 v' (k + 1) (clCells (rotTo l b (k + 1)))) := by
            show World.ownsRow _ _ _ _ _ _ _
            rw [hq3.out, clCells_append]
            exact hown7
          have HB8 := Lib.hid (HB.out.trans hb7)
          clear hown7 hb7
          go_wp2_with fail
          go_roundw
          case rel => exact ⟨k + 1, by omega, by go_num, hown8.out, HB8.out⟩
          case measure => simp [intOf]; omega
        · have hkl : k = l.length := by have := HN.out; omega
          have hown2 : wr.ownsRow w1.heap.size 40 3 u6 l.length (clCells (rotTo l b l.length)) := by rw [← hkl]; exact hown.out
          obtain ⟨A1, c1, hv, hcls⟩ := RCls.of_own hown2 (rotTo_length l b l.length).symm
          rw [rotTo_length, ← HN.out] at hv
          subst hv
          have HC : Hid (RCls wr A1 (rotTo l b n)) := by
            show RCls wr A1 (rotTo l b n)
            rw [HN.out]
            exact hcls
          have HBW := Lib.hid (B1.out.trans (HB.out.mono B1.out.size))
          have HA := Lib.hid (hA.out.below HBW.out)
          clear hown hown2 hcls hkl
          go_wp2_with fail
          refine (hs.out _ HA.out).mono ?_
          rintro e' w2 ⟨A2, c2, rfl, hr2, hb2⟩
          have B2 := Lib.hid (HBW.out.trans (hb2.mono HBW.out.size))
          have HC2 := Lib.hid (HC.out.below hb2)
          have HR2 := Lib.hid hr2
          clear hb2 hr2
          go_wp2_with fail
          refine (hs2.out _ _ w2 HC2.out).mono ?_
          rintro e' w3 ⟨A3, c3, rfl, hr3, hb3⟩
          have B3 := Lib.hid (B2.out.trans (hb3.mono B2.out.size))
          have HM := Lib.hid (HR2.out.below hb3)
          have HR := Lib.hid hr3
          clear hb3 hr3
          clear hs hs2 hrl hrs hri hrt HC HC2 HR2 HA HB HBW B1 B2 hA HK0
          go_wp2_with fail
          go_loopw [10] (fun i' wj => ∃ i : Nat, i ≤ n ∧ i' = .int .i64 i ∧ Below w3.heap.size w3 wj)
            (fun i' _ => n - (intOf i').toNat)
          case atStart => exact ⟨0, by omega, rfl, Below.refl _ _⟩
          case round =>
            obtain ⟨i, hin, rfl, hBw⟩ := hrel
            obtain ⟨wo, hwo⟩ : ∃ wo : World, wo = wr := ⟨_, rfl⟩
            subst hwo
            have HB := Lib.hid hBw
            clear hBw
            by_cases hli : i < n
            · have hiM : i < M.length := by have := hlM.out; omega
              have HX := Lib.hid (fun W (h : RCls W A2 M) => h.at' hiM)
              have hoi : Hid (∀ (k : Nat) (hk : k < R.length), M[i].eui = R[k].eui → M[i] = R[k]) := fun k hk => hoe.out i k hiM hk
              generalize M[i] = x at *
              have i1 : (0 : Int) ≤ (i : Int) := by omega
              have i2 : (i : Int) < (n : Int) := by omega
              go_wp2_with fail
              go_loopw [11] (fun j' wj => ∃ j : Nat, j ≤ n ∧ j' = .int .i64 j ∧ Below wo.heap.size wo wj)
                (fun j' _ => n - (intOf j').toNat)
              case atStart => exact ⟨0, by omega, rfl, Below.refl _ _⟩
              case round =>
                obtain ⟨j, hjn, rfl, hBj⟩ := hrel
                have HBJ := Lib.hid (HB.out.trans (hBj.mono HB.out.size))
                have HBO := Lib.hid hBj
                clear hBj
                by_cases hlj : j < n
                · have hjR : j < R.length := by have := hlR.out; omega
                  obtain ⟨b1, o1, hA1, _, x0, x1, x2⟩ := HX.out _ (HM.out.below HBJ.out)
                  obtain ⟨b2, o2, hA2, _, y0, y1, y2⟩ := (HR.out.below HBJ.out).at' hjR
                  have hxy := Lib.hid (hoi.out j hjR)
                  have heq := eq_claim x R[j]
                  generalize R[j] = y at *
                  subst hA1 hA2
                  have i3 : (0 : Int) ≤ (j : Int) := by omega
                  have i4 : (j : Int) < (n : Int) := by omega
                  by_cases he : x.eui = y.eui
                  · have te : (x.eui == y.eui) = true := by simpa using he
                    have hxy1 := hxy.out he
                    rw [decide_eq_true hxy1] at heq
                    clear he hxy hxy1
                    go_wp2_with fail
                    go_quiet (fail)
                    go_wp2_with fail
                    go_roundw
                    case rel => exact ⟨j + 1, by omega, by go_num, below_drewN HBO.out _⟩
                    case measure => simp [intOf]; omega
                  · have te : (x.eui == y.eui) = false := by simpa using he
                    clear he hxy heq
                    go_wp2_with fail
                    go_quiet (fail)
                    go_wp2_with fail
                    go_roundw
                    case rel => exact ⟨j + 1, by omega, by go_num, below_drewN HBO.out _⟩
                    case measure => simp [intOf]; omega
                · go_wp2_with fail
                  go_roundw
                  case rel => exact ⟨i + 1, by omega, by go_num, HBJ.out⟩
                  case measure => simp [intOf]; omega
            · have HBF := Lib.hid (B3.out.trans (HB.out.mono B3.out.size))
              go_wp2_with fail
              refine (awake_any _).mono ?_
              rintro e' w9 ⟨rfl, hb9⟩
              have hO := Lib.hid (HBF.out.trans (hb9.mono HBF.out.size))
              clear hb9
              go_wp2_with fail
              go_ret
              exact ⟨rfl, hO.out⟩
    · have hne : (clChk l != 0) = true := by simpa using h0
      have HK0 := Lib.hid hk0
      clear hA0 hw h0 hk0
      generalize clChk l = ck at *
      generalize l.length = n at *
      go_enter Try.func9, Try.ntmps9
      go_wp2_with fail
      refine HK0.out.mono ?_
      rintro e' w1 ⟨rfl, hb1⟩
      have B1 := Lib.hid hb1
      clear hb1
      go_wp2_with fail
      refine (awake_any _).mono ?_
      rintro e' w9 ⟨rfl, hb9⟩
      have hO := Lib.hid (B1.out.trans (hb9.mono B1.out.size))
      clear hb9
      go_wp2_with fail
      go_ret
      exact ⟨rfl, hO.out⟩
end Go.Proofs.Ytgflklgjjpokaaa
