/-
  The walks of Settle of the reference, Same (layer 8).
-/
import Derived.Test.YtgflklgjjpokaaaA14
namespace Go.Proofs.Ytgflklgjjpokaaa
open Go.RowKit

set_option maxRecDepth 100000 in
set_option maxHeartbeats 8000000 in
theorem rlsettle_any (A : Option Addr) (c : Nat) (l : List Cl) (w : World) (hA0 : RCls w A l) (hw : ∀ x ∈ l, x.Wf) :
    Calls Try.prog 24 #[.slice A l.length c] w (ClsOut (settleL l 1000) w) := by
  have hA := Lib.hid hA0
  have hk := rclcheck_any A c l w hA0 hw
  by_cases h0 : clChk l = 0
  · have hg := clGood h0
    have e1 : settleL l 1000 = iterL l 1000 := by unfold settleL; rw [if_pos h0]
    have hr := Lib.hid (fun k (hk : k ≤ 1000) A' c' W (h : RCls W A' (iterL l k)) => rlround_any A' c' (iterL l k) W h (itGood hw hg k (by omega)).wf (fun x hx => by have := (itGood hw hg k (by omega)).tr x hx; omega) (by rw [iterL_length]; have := hg.len; omega))
    have hil := Lib.hid (iterL_length l)
    obtain ⟨F, hF⟩ : ∃ F, F = iterL l 1000 := ⟨_, rfl⟩
    have hfx : Hid (∀ k, k ≤ 1000 → roundN (iterL l k) l.length = 0 → roundL (iterL l k) = F) := by
      intro k hk hz
      rw [hF, iterL_done hz hk]
      exact roundL_done (by rw [iterL_length]; exact hz)
    have h7 : Hid (∀ k, k = 1000 → iterL l k = F) := fun k hk => by rw [hF, hk]
    have hFl : Hid (F.length = l.length) := by show _ = _; rw [hF, iterL_length]
    rw [e1, ← hF]
    clear hF
    rw [h0] at hk
    have HKc := Lib.hid hk
    clear hA0 hw h0 hg e1 hk
    obtain ⟨m, hm⟩ : ∃ m, m = l.length := ⟨_, rfl⟩
    rw [← hm] at HKc hfx hil hFl ⊢
    have HM := Lib.hid hm
    clear hm
    go_enter Try.func24, Try.ntmps24
    go_wp2_with fail
    refine HKc.out.mono ?_
    rintro e w1 ⟨rfl, hb1⟩
    have HB := Lib.hid hb1
    have HQ := Lib.hid (hA.out.below hb1)
    clear hb1
    go_wp2_with fail
    go_loopw [0, 3] (fun v i' wr => ∃ (k : Nat) (A' : Option Addr) (c' : Nat), k ≤ 1000 ∧ i' = .int .i64 k ∧ v = .slice A' m c' ∧ RCls wr A' (iterL l k) ∧ Below w.heap.size w wr)
      (fun _ i' _ => (1000 - intOf i').toNat)
    case atStart => exact ⟨0, A, c, by omega, rfl, rfl, HQ.out, HB.out⟩
    case round =>
      obtain ⟨k, A', c', hk7, rfl, rfl, hq0, hBw⟩ := hrel
      have hq := Lib.hid hq0
      have HBw := Lib.hid hBw
      clear hq0 hBw
      by_cases hlt : k < 1000
      · have hrk := hr.out k (by omega) A' c' wr hq.out
        rw [hil.out] at hrk
        have hrk1 := Lib.hid hrk
        have hnx : Hid (iterL l (k + 1) = roundL (iterL l k)) := rfl
        have hll : Hid ((roundL (iterL l k)).length = m) := by show _ = _; rw [roundL_length, hil.out]
        clear hrk
        by_cases hz : roundN (iterL l k) m = 0
        · have hfix : Hid (roundL (iterL l k) = F) := hfx.out k (by omega) hz
          rw [hz, hfix.out] at hrk1
          clear hz hnx hll hfix
          go_wp2_with fail
          refine hrk1.out.mono ?_
          rintro e w3 ⟨A3, c3, rfl, hq3, _, hb3⟩
          have hfin : Hid (ClsOut F w (.returned (.slice A3 F.length c3)) w3) := ⟨A3, c3, rfl, hq3, HBw.out.trans (hb3.mono HBw.out.size)⟩
          clear hq3 hb3
          go_wp2_with fail
          go_ret
          exact hfin.out
        · have hne : (roundN (iterL l k) m == 0) = false := by simpa using hz
          clear hz
          generalize roundN (iterL l k) m = rn at *
          go_wp2_with fail
          refine hrk1.out.mono ?_
          rintro e w3 ⟨A3, c3, rfl, hq3, _, hb3⟩
          rw [hll.out]
          have HQ3 : Hid (RCls w3 A3 (iterL l (k + 1))) := hq3
          have HB3 := Lib.hid (HBw.out.trans (hb3.mono HBw.out.size))
          clear hq3 hb3
          go_wp2_with fail
          go_roundw
          case rel => exact ⟨k + 1, A3, c3, by omega, by go_num, rfl, HQ3.out, HB3.out⟩
          case measure => simp [intOf]; omega
      · have hq7 : Hid (RCls wr A' F) := by
          have h := hq.out
          rw [h7.out k (by omega)] at h
          exact h
        have hfin : Hid (ClsOut F w (.returned (.slice A' m c')) wr) := ⟨A', c', by rw [hFl.out], hq7.out, HBw.out⟩
        go_wp2_with fail
        go_ret
        exact hfin.out
  · have e1 : settleL l 1000 = l := by unfold settleL; rw [if_neg h0]
    have hne : (clChk l != 0) = true := by simpa using h0
    rw [e1]
    clear hA0 hw e1 h0
    generalize clChk l = ck at *
    have HKc := Lib.hid hk
    clear hk
    obtain ⟨m, hm⟩ : ∃ m, m = l.length := ⟨_, rfl⟩
    have HM := Lib.hid hm
    rw [← hm] at HKc ⊢
    clear hm
    go_enter Try.func24, Try.ntmps24
    go_wp2_with fail
    refine HKc.out.mono ?_
    rintro e w1 ⟨rfl, hb1⟩
    have HB := Lib.hid hb1
    have hfin : Hid (ClsOut l w (.returned (.slice A m c)) w1) := ⟨A, c, by rw [HM.out], hA.out.below hb1, HB.out⟩
    clear hb1
    go_wp2_with fail
    go_ret
    exact hfin.out
end Go.Proofs.Ytgflklgjjpokaaa
