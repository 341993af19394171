/-
  The walk of the law AddrApart (layer 8).
-/
import Derived.Test.YtgflklgjjpokaaaA21
import Derived.Test.YtgflklgjjpokaaaAP12
namespace Go.Proofs.Ytgflklgjjpokaaa
open Go.RowKit
attribute [local go_sem ↓] Go.wp_at_zero Go.wp_at_succ

def lessTo (l : List Cl) (y : Cl) (j : Nat) : Bool := (l.take j).all fun d => !decide (d.eui < y.eui)
theorem lessTo_zero (l : List Cl) (y : Cl) : lessTo l y 0 = true := by simp [lessTo]
theorem lessTo_succ {l : List Cl} {j : Nat} (hj : j < l.length) (y : Cl) : lessTo l y (j + 1) = (lessTo l y j && !decide (l[j].eui < y.eui)) := by
  unfold lessTo
  rw [List.take_succ_eq_append_getElem hj, List.all_append]
  simp
theorem lessTo_all {l : List Cl} {y : Cl} (h : lessTo l y l.length = true) (k : Nat) (hk : k < l.length) : ¬ l[k].eui < y.eui := by
  unfold lessTo at h
  rw [List.take_of_length_le (Nat.le_refl _), List.all_eq_true] at h
  have := h _ (List.getElem_mem hk)
  simpa using this

set_option maxRecDepth 100000 in
set_option maxHeartbeats 16000000 in
theorem apart_law (A : Option Addr) (c : Nat) (l : List Cl) (w : World) (hA0 : RCls w A l) (hw : ∀ x ∈ l, x.Wf) :
    Calls Try.prog 6 #[.slice A l.length c] w fun e' w' => e' = .returned (.bool true) ∧ Below w.heap.size w w' := by
  have hB0 := Lib.hid (Below.refl w.heap.size w)
  by_cases h30 : (30 : Int) < (l.length : Int)
  · clear hw
    generalize l.length = m at *
    go_enter Try.func6, Try.ntmps6
    go_wp2_with fail
    refine (awake_any _).mono ?_
    rintro e' w9 ⟨rfl, hb9⟩
    have hO := Lib.hid (hB0.out.trans (hb9.mono hB0.out.size))
    clear hb9
    go_wp2_with fail
    go_ret
    exact ⟨rfl, hO.out⟩
  · have hA := Lib.hid hA0
    have hk0 := clcheck_any A c l w hA0 hw
    have hk1 := Lib.hid (fun W (h : RCls W A l) => rclcheck_any A c l W h hw)
    by_cases h0 : clChk l = 0
    · have hg := clGood h0
      have hap := Lib.hid (apartIs hg)
      have hmw := Lib.hid (itGood hw hg 700 (by omega)).wf
      have hs : Hid (∀ W, RCls W A l → Calls Try.prog 23 #[.slice A l.length c] W (fun e w' => ∃ A' c', e = .returned (.slice A' l.length c') ∧ RCls w' A' (iterL l 700) ∧ Below W.heap.size W w')) := fun W h => by
        have h1 : Calls Try.prog 23 #[.slice A l.length c] W (fun e w' => ∃ A' c', e = .returned (.slice A' (settleL l 700).length c') ∧ RCls w' A' (settleL l 700) ∧ Below W.heap.size W w') := lsettle_any A c l W h hw (by omega)
        rw [settleL_length, show settleL l 700 = iterL l 700 by unfold settleL; rw [if_pos h0]] at h1
        exact h1
      rw [h0] at hk0
      have HK0 := Lib.hid hk0
      have HM0 := Lib.hid (iterL_length l 700)
      clear hA0 hw hg h0 hk0 hk1
      generalize iterL l 700 = M at *
      obtain ⟨n, hn⟩ : ∃ n, n = l.length := ⟨_, rfl⟩
      have HN := Lib.hid hn
      have HM : Hid (n = M.length) := hn.trans HM0.out.symm
      rw [← hn] at hs HK0 h30 ⊢
      clear hn HM0
      go_enter Try.func6, Try.ntmps6
      go_wp2_with fail
      refine HK0.out.mono ?_
      rintro e' w1 ⟨rfl, hb1⟩
      have B1 := Lib.hid hb1
      clear hb1
      go_wp2_with fail
      refine (hs.out w1 (hA.out.below B1.out)).mono ?_
      rintro e' w2 ⟨A2, c2, rfl, hr2, hb2⟩
      have B2 := Lib.hid (B1.out.trans (hb2.mono B1.out.size))
      have HR := Lib.hid hr2
      have HA2 := Lib.hid (hA.out.below B2.out)
      clear hb2 hr2
      go_wp2_with fail
      go_loopw [4] (fun i' wr => ∃ k : Nat, k ≤ n ∧ i' = .int .i64 k ∧ Below w2.heap.size w2 wr)
        (fun i' _ => n - (intOf i').toNat)
      case atStart => exact ⟨0, by omega, rfl, Below.refl _ _⟩
      case round =>
        obtain ⟨k, hkn, rfl, hBw⟩ := hrel
        obtain ⟨wo, hwo⟩ : ∃ wo : World, wo = wr := ⟨_, rfl⟩
        subst hwo
        have HB := Lib.hid hBw
        clear hBw
        by_cases hlt : k < n
        · have hkl : k < l.length := by have := HN.out; omega
          have hkM : k < M.length := by have := HM.out; omega
          have HX := Lib.hid (fun W (h : RCls W A2 M) => h.at' hkM)
          have HY := Lib.hid (fun W (h : RCls W A l) => h.at' hkl)
          have p1 := hap.out.eui k hkl
          have p2 := hap.out.tr k hkl
          have p3 := hap.out.addr k hkl
          have p4 : Hid (∀ j (hj : j < M.length), j ≠ k → M[j].addr ≠ M[k].addr) := fun j hj => hap.out.apart k j hkl (by have := HM.out; have := HN.out; omega)
          have p5 := Lib.hid (hap.out.least k hkl)
          have hxw := hmw.out _ (List.getElem_mem hkM)
          have hlz := Lib.hid (lessTo_zero l l[k])
          have hls := Lib.hid (fun j (hj : j < l.length) => lessTo_succ hj l[k])
          have hla := Lib.hid (lessTo_all (l := l) (y := l[k]))
          generalize M[k] = x at *
          generalize l[k] = y at *
          obtain ⟨b1, o1, hA1, _, x0, x1, x2⟩ := HX.out _ (HR.out.below HB.out)
          obtain ⟨b2, o2, hA2, _, y0, y1, y2⟩ := HY.out _ (HA2.out.below HB.out)
          have HK : Hid (∀ W, Below wo.heap.size wo W → Below wo.heap.size wo W ∧ W.cell? ⟨b1, o1 + k * 3, none⟩ = some (.int .u64 x.eui) ∧ W.cell? ⟨b1, o1 + k * 3 + 1, none⟩ = some (.int .i64 x.addr) ∧ W.cell? ⟨b1, o1 + k * 3 + 2, none⟩ = some (.int .i64 x.try_) ∧ W.cell? ⟨b2, o2 + k * 3, none⟩ = some (.int .u64 y.eui) ∧ W.cell? ⟨b2, o2 + k * 3 + 1, none⟩ = some (.int .i64 y.addr) ∧ W.cell? ⟨b2, o2 + k * 3 + 2, none⟩ = some (.int .i64 y.try_)) := fun W hb => ⟨hb, cell_below x0 hb, cell_below x1 hb, cell_below x2 hb, cell_below y0 hb, cell_below y1 hb, cell_below y2 hb⟩
          have hpk := Lib.hid (fun W => pick_any x.eui x.try_ W hxw.e0 hxw.e1 hxw.t1)
          subst hA1 hA2
          have t1 : (x.eui != y.eui) = false := by simpa using p1
          have t2 : decide (x.try_ < y.try_) = false := decide_eq_false (by omega)
          have t3 : (x.addr != pickZ x.eui x.try_) = false := by simpa using p3
          have i3 : (0 : Int) ≤ (k : Int) := by omega
          have i4 : (k : Int) < (n : Int) := by omega
          clear p1 p2 p3 hxw x0 x1 x2 y0 y1 y2
          generalize pickZ x.eui x.try_ = pk at *
          go_wp2_with fail
          go_region_held3 (fun w' => Below wo.heap.size wo w' ∧ w'.cell? ⟨b1, o1 + k * 3, none⟩ = some (.int .u64 x.eui) ∧ w'.cell? ⟨b1, o1 + k * 3 + 1, none⟩ = some (.int .i64 x.addr) ∧ w'.cell? ⟨b1, o1 + k * 3 + 2, none⟩ = some (.int .i64 x.try_) ∧ w'.cell? ⟨b2, o2 + k * 3, none⟩ = some (.int .u64 y.eui) ∧ w'.cell? ⟨b2, o2 + k * 3 + 1, none⟩ = some (.int .i64 y.addr) ∧ w'.cell? ⟨b2, o2 + k * 3 + 2, none⟩ = some (.int .i64 y.try_))
            (first | exact HK.out _ (Below.refl _ _) | exact HK.out _ (Below.drew (Below.refl _ _)) | exact HK.out _ (Below.drew (by assumption)) | exact HK.out _ (Below.drew (And.left (by assumption))) | exact HK.out _ (Below.trans (by first | assumption | exact And.left (by assumption) | exact Below.refl _ _ | exact Below.drew (Below.refl _ _) | exact Below.drew (by assumption) | exact Below.drew (And.left (by assumption))) (Below.mono (by assumption) (Below.size (by first | assumption | exact And.left (by assumption) | exact Below.refl _ _ | exact Below.drew (Below.refl _ _) | exact Below.drew (by assumption) | exact Below.drew (And.left (by assumption)))))))
            (first | (go_at_call 13; refine (hpk.out _).mono ?_; rintro e' w7 ⟨rfl, hb7⟩))
          go_wp2_with fail
          go_loopw [5, 6] (fun b' j' wj => ∃ j : Nat, j ≤ n ∧ j' = .int .i64 j ∧ b' = .bool (lessTo l y j) ∧ Below wo.heap.size wo wj)
            (fun _ j' _ => n - (intOf j').toNat)
          case atStart => exact ⟨0, by omega, rfl, by rw [hlz.out], (by first | assumption | exact And.left (by assumption) | exact Below.refl _ _ | exact Below.drew (Below.refl _ _) | exact Below.drew (by assumption) | exact Below.drew (And.left (by assumption)))⟩
          case round =>
            obtain ⟨j, hjn, rfl, rfl, hBj⟩ := hrel
            have HBJ := Lib.hid (HB.out.trans (hBj.mono HB.out.size))
            have HBO := Lib.hid hBj
            clear hBj
            obtain ⟨b1', o1', hA1', _, x0, x1, x2⟩ := HX.out _ (HR.out.below HBJ.out)
            injection hA1' with hA1'
            injection hA1' with h1 h2
            subst h1 h2
            obtain ⟨b2', o2', hA2', _, y0, y1, y2⟩ := HY.out _ (HA2.out.below HBJ.out)
            injection hA2' with hA2'
            injection hA2' with h1 h2
            subst h1 h2
            by_cases hlj : j < n
            · have hjl : j < l.length := by have := HN.out; omega
              have hjM : j < M.length := by have := HM.out; omega
              obtain ⟨b1', o1', hA1', _, v0, v1, v2⟩ := (HR.out.below HBJ.out).at' hjM
              injection hA1' with hA1'
              injection hA1' with h1 h2
              subst h1 h2
              obtain ⟨b2', o2', hA2', _, u0, u1, u2⟩ := (HA2.out.below HBJ.out).at' hjl
              injection hA2' with hA2'
              injection hA2' with h1 h2
              subst h1 h2
              have i1 : (0 : Int) ≤ (j : Int) := by omega
              have i2 : (j : Int) < (n : Int) := by omega
              have hsu := Lib.hid (hls.out j hjl)
              have hva := Lib.hid (p4.out j hjM)
              clear x0 x2 y1 y2 v0 v2 u1 u2
              generalize M[j] = v at *
              generalize l[j] = u at *
              by_cases hjk : j = k
              · have tjk : ((j : Int) != (k : Int)) = false := by simpa using (by omega : (j : Int) = (k : Int))
                clear hjk
                by_cases hul : u.eui < y.eui
                · have tul : decide (u.eui < y.eui) = true := decide_eq_true hul
                  have hn := Lib.hid hsu.out
                  rw [tul] at hn
                  clear hul hsu hva
                  generalize lessTo l y j = lj at *
                  go_wp2_with fail
                  go_quiet (fail)
                  go_wp2_with fail
                  go_quiet (fail)
                  go_wp2_with fail
                  go_roundw
                  case rel => exact ⟨j + 1, by omega, by go_num, by have h := hn.out; rw [h]; simp, below_drewN HBO.out _⟩
                  case measure => simp [intOf]; omega
                · have tul : decide (u.eui < y.eui) = false := decide_eq_false hul
                  have hn := Lib.hid hsu.out
                  rw [tul] at hn
                  clear hul hsu hva
                  generalize lessTo l y j = lj at *
                  go_wp2_with fail
                  go_quiet (fail)
                  go_wp2_with fail
                  go_quiet (fail)
                  go_wp2_with fail
                  go_roundw
                  case rel => exact ⟨j + 1, by omega, by go_num, by have h := hn.out; rw [h]; simp, below_drewN HBO.out _⟩
                  case measure => simp [intOf]; omega
              · have tjk : ((j : Int) != (k : Int)) = true := by simpa using (by omega : ¬ (j : Int) = (k : Int))
                have tva : (v.addr == x.addr) = false := beq_eq_false_iff_ne.2 (hva.out hjk)
                clear hjk
                by_cases hul : u.eui < y.eui
                · have tul : decide (u.eui < y.eui) = true := decide_eq_true hul
                  have hn := Lib.hid hsu.out
                  rw [tul] at hn
                  clear hul hsu hva
                  generalize lessTo l y j = lj at *
                  go_wp2_with fail
                  go_quiet (fail)
                  go_wp2_with fail
                  go_quiet (fail)
                  go_wp2_with fail
                  go_roundw
                  case rel => exact ⟨j + 1, by omega, by go_num, by have h := hn.out; rw [h]; simp, below_drewN HBO.out _⟩
                  case measure => simp [intOf]; omega
                · have tul : decide (u.eui < y.eui) = false := decide_eq_false hul
                  have hn := Lib.hid hsu.out
                  rw [tul] at hn
                  clear hul hsu hva
                  generalize lessTo l y j = lj at *
                  go_wp2_with fail
                  go_quiet (fail)
                  go_wp2_with fail
                  go_quiet (fail)
                  go_wp2_with fail
                  go_roundw
                  case rel => exact ⟨j + 1, by omega, by go_num, by have h := hn.out; rw [h]; simp, below_drewN HBO.out _⟩
                  case measure => simp [intOf]; omega
            · obtain rfl : j = n := by omega
              have hxy := Lib.hid (fun (h : lessTo l y j = true) => p5.out (hla.out (by rw [← HN.out]; exact h)))
              by_cases hle : lessTo l y j = true
              · have hxy1 := hxy.out hle
                subst hxy1
                have heq := eq_claim x x
                rw [decide_eq_true rfl] at heq
                rw [hle]
                clear hle hxy
                go_wp2_with fail
                go_quiet (fail)
                go_wp2_with fail
                go_roundw
                case rel => exact ⟨k + 1, by omega, by go_num, below_drewN HBJ.out _⟩
                case measure => simp [intOf]; omega
              · rw [Bool.not_eq_true] at hle
                rw [hle]
                clear hle hxy x0 x1 x2 y0 y1 y2
                go_wp2_with fail
                go_quiet (fail)
                go_wp2_with fail
                go_roundw
                case rel => exact ⟨k + 1, by omega, by go_num, below_drewN HBJ.out _⟩
                case measure => simp [intOf]; omega
        · have HBF := Lib.hid (B2.out.trans (HB.out.mono B2.out.size))
          go_wp2_with fail
          refine (awake_any _).mono ?_
          rintro e' w9 ⟨rfl, hb9⟩
          have hO := Lib.hid (HBF.out.trans (hb9.mono HBF.out.size))
          clear hb9
          go_wp2_with fail
          go_ret
          exact ⟨rfl, hO.out⟩
    · have hne : (clChk l != 0) = true := by simpa using h0
      have HK0 := Lib.hid hk0
      clear hA0 hw h0 hk0
      generalize clChk l = ck at *
      generalize l.length = n at *
      go_enter Try.func6, Try.ntmps6
      go_wp2_with fail
      refine HK0.out.mono ?_
      rintro e' w1 ⟨rfl, hb1⟩
      have B1 := Lib.hid hb1
      clear hb1
      go_wp2_with fail
      refine (hk1.out w1 (hA.out.below B1.out)).mono ?_
      rintro e' w2 ⟨rfl, hb2⟩
      have B2 := Lib.hid (B1.out.trans (hb2.mono B1.out.size))
      clear hb2
      go_wp2_with fail
      refine (awake_any _).mono ?_
      rintro e' w9 ⟨rfl, hb9⟩
      have hO := Lib.hid (B2.out.trans (hb9.mono B2.out.size))
      clear hb9
      go_wp2_with fail
      go_ret
      exact ⟨rfl, hO.out⟩
end Go.Proofs.Ytgflklgjjpokaaa
