/-
  The walk of the law AddrSettles (layer 8).
-/
import Derived.Test.YtgflklgjjpokaaaA18
import Derived.Test.YtgflklgjjpokaaaAP11
namespace Go.Proofs.Ytgflklgjjpokaaa
open Go.RowKit

set_option maxHeartbeats 8000000 in
theorem settles_law (A : Option Addr) (c : Nat) (l : List Cl) (w : World) (hA0 : RCls w A l) (hw : ∀ x ∈ l, x.Wf) :
    Calls Try.prog 5 #[.slice A l.length c] w fun e' w' => e' = .returned (.bool true) ∧ Below w.heap.size w w' := by
  have hB0 := Lib.hid (Below.refl w.heap.size w)
  by_cases h30 : (30 : Int) < (l.length : Int)
  · clear hw
    generalize l.length = m at *
    go_enter Try.func5, Try.ntmps5
    go_wp2_with fail
    refine (awake_any _).mono ?_
    rintro e' w9 ⟨rfl, hb9⟩
    have hO := Lib.hid (hB0.out.trans (hb9.mono hB0.out.size))
    clear hb9
    go_wp2_with fail
    go_ret
    exact ⟨rfl, hO.out⟩
  · have hA := Lib.hid hA0
    have h1 := Lib.hid (lsettle_any A c l w hA0 hw (by omega))
    have h2 := Lib.hid (fun W (h : RCls W A l) => rlsettle_any A c l W h hw)
    rw [← settle_end] at h2
    have hrl : (settleL l 700).length < 1000000000 := by rw [settleL_length]; omega
    clear hA0 hw
    generalize settleL l 700 = rl at *
    generalize l.length = m at *
    go_enter Try.func5, Try.ntmps5
    go_wp2_with fail
    refine h1.out.mono ?_
    rintro e' w1 ⟨A1, c1, rfl, hr1, hb1⟩
    have B1 := Lib.hid hb1
    have R1 := Lib.hid hr1
    clear hb1 hr1
    go_wp2_with fail
    refine (h2.out w1 (hA.out.below B1.out)).mono ?_
    rintro e' w2 ⟨A2, c2, rfl, hr2, hb2⟩
    have B2 := Lib.hid (B1.out.trans (hb2.mono B1.out.size))
    have R2 := Lib.hid (R1.out.below hb2)
    have S2 := Lib.hid hr2
    clear hb2 hr2
    go_wp2_with fail
    refine (clsame_at rl rl rfl rfl R2.out S2.out hrl).mono ?_
    rintro e' w8 ⟨rfl, hb8⟩
    have B8 := Lib.hid (B2.out.trans (hb8.mono B2.out.size))
    clear hb8
    go_wp2_with fail
    refine (awake_any _).mono ?_
    rintro e' w9 ⟨rfl, hb9⟩
    have hO := Lib.hid (B8.out.trans (hb9.mono B8.out.size))
    clear hb9
    go_wp2_with fail
    go_ret
    exact ⟨rfl, hO.out⟩
end Go.Proofs.Ytgflklgjjpokaaa
