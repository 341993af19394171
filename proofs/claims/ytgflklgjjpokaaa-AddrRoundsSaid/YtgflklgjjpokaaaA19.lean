/-
  The walks of the laws AddrPicks, AddrRounds (layer 8).
-/
import Derived.Test.YtgflklgjjpokaaaA18
namespace Go.Proofs.Ytgflklgjjpokaaa
open Go.RowKit

set_option maxHeartbeats 4000000 in
theorem picks_law (e t : Int) (A : Option Addr) (c : Nat) (l : List Int) (w : World) (he : 0 ≤ e ∧ e < 18446744073709551616) (ht : -9223372036854775808 ≤ t ∧ t ≤ 9223372036854775807) (hA0 : RInts w A l) (hw : ∀ x ∈ l, -9223372036854775808 ≤ x ∧ x ≤ 9223372036854775807) :
    Calls Try.prog 3 #[.int .u64 e, .int .i64 t, .slice A l.length c] w fun e' w' => e' = .returned (.bool true) ∧ Below w.heap.size w w' := by
  have hB0 := Lib.hid (Below.refl w.heap.size w)
  by_cases h300 : (300 : Int) < (l.length : Int)
  · clear hw he ht
    generalize l.length = m at *
    go_enter Try.func3, Try.ntmps3
    go_wp2_with fail
    refine (awake_any _).mono ?_
    rintro e' w9 ⟨rfl, hb9⟩
    have hO := Lib.hid (hB0.out.trans (hb9.mono hB0.out.size))
    clear hb9
    go_wp2_with fail
    go_ret
    exact ⟨rfl, hO.out⟩
  · have hA := Lib.hid hA0
    have hF := Lib.hid (first_any e A c l w he.1 he.2 hA0 (by omega) hw)
    have hR := Lib.hid (fun W (h : RInts W A l) => rfirst_any e A c l W he.1 he.2 h (by omega))
    have hp := Lib.hid (fun W => pick_any e t W he.1 he.2 ht.2)
    have hq := Lib.hid (fun W => rpick_any e t W he.1 he.2 ht.2)
    clear hA0 hw he ht
    generalize pickZ e t = pk at *
    generalize l.length = m at *
    go_enter Try.func3, Try.ntmps3
    go_wp2_with fail
    refine hF.out.mono ?_
    rintro e' w1 ⟨a, b, ok, rfl, hf1, hb1⟩
    have HF1 := Lib.hid hf1
    have B1 := Lib.hid hb1
    clear hb1 hf1
    go_wp2_with fail
    refine (hR.out w1 (hA.out.below B1.out)).mono ?_
    rintro e' w2 ⟨a', b', ok', rfl, hf2, hb2⟩
    obtain ⟨h1, h2, h3⟩ := HF1.out.same hf2
    subst h1 h2 h3
    have B2 := Lib.hid (B1.out.trans (hb2.mono B1.out.size))
    clear hb2 hf2
    go_wp2_with fail
    refine (hp.out _).mono ?_
    rintro e' w3 ⟨rfl, hb3⟩
    have B3 := Lib.hid (B2.out.trans (hb3.mono B2.out.size))
    clear hb3
    go_wp2_with fail
    refine (hq.out _).mono ?_
    rintro e' w4 ⟨rfl, hb4⟩
    have B4 := Lib.hid (B3.out.trans (hb4.mono B3.out.size))
    clear hb4
    go_wp2_with fail
    refine (awake_any _).mono ?_
    rintro e' w9 ⟨rfl, hb9⟩
    have hO := Lib.hid (B4.out.trans (hb9.mono B4.out.size))
    clear hb9
    go_wp2_with fail
    go_ret
    exact ⟨rfl, hO.out⟩

set_option maxHeartbeats 8000000 in
theorem rounds_law (A : Option Addr) (c : Nat) (l : List Cl) (w : World) (hA0 : RCls w A l) (hw : ∀ x ∈ l, x.Wf) :
    Calls Try.prog 4 #[.slice A l.length c] w fun e' w' => e' = .returned (.bool true) ∧ Below w.heap.size w w' := by
  have hB0 := Lib.hid (Below.refl w.heap.size w)
  by_cases h30 : (30 : Int) < (l.length : Int)
  · clear hw
    generalize l.length = m at *
    go_enter Try.func4, Try.ntmps4
    go_wp2_with fail
    refine (awake_any _).mono ?_
    rintro e' w9 ⟨rfl, hb9⟩
    have hO := Lib.hid (hB0.out.trans (hb9.mono hB0.out.size))
    clear hb9
    go_wp2_with fail
    go_ret
    exact ⟨rfl, hO.out⟩
  · have hA := Lib.hid hA0
    have h1 := Lib.hid (lRound_any A c l w hA0 hw)
    have h2 := Lib.hid (fun W (h : RCls W A l) => rlRound_any A c l W h hw)
    have h3 := Lib.hid (fun W (h : RCls W A l) => clcheck_any A c l W h hw)
    have h4 := Lib.hid (fun W (h : RCls W A l) => rclcheck_any A c l W h hw)
    have h5 := Lib.hid (fun W (h : RCls W A l) => lconf_any A c l W h hw)
    have h6 := Lib.hid (fun W (h : RCls W A l) => rlconf_any A c l W h hw)
    have hrl : (rndL l).length < 1000000000 := by
      unfold rndL
      split
      · rw [roundL_length]; omega
      · simp
    have hcl : (confL l).length < 1000000000 := by
      unfold confL
      split
      · have := confTo_length l 250; omega
      · simp
    clear hA0 hw
    generalize rndL l = rl at *
    generalize rndN l = rn at *
    generalize clChk l = ck at *
    generalize confL l = cf at *
    generalize l.length = m at *
    go_enter Try.func4, Try.ntmps4
    go_wp2_with fail
    refine h1.out.mono ?_
    rintro e' w1 ⟨A1, c1, rfl, hr1, _, hb1⟩
    have B1 := Lib.hid hb1
    have R1 := Lib.hid hr1
    clear hb1 hr1
    go_wp2_with fail
    refine (h2.out w1 (hA.out.below B1.out)).mono ?_
    rintro e' w2 ⟨A2, c2, rfl, hr2, _, hb2⟩
    have B2 := Lib.hid (B1.out.trans (hb2.mono B1.out.size))
    have R2 := Lib.hid (R1.out.below hb2)
    have S2 := Lib.hid hr2
    clear hb2 hr2
    go_wp2_with fail
    refine (h3.out w2 (hA.out.below B2.out)).mono ?_
    rintro e' w3 ⟨rfl, hb3⟩
    have B3 := Lib.hid (B2.out.trans (hb3.mono B2.out.size))
    have R3 := Lib.hid (R2.out.below hb3)
    have S3 := Lib.hid (S2.out.below hb3)
    clear hb3
    go_wp2_with fail
    refine (h4.out w3 (hA.out.below B3.out)).mono ?_
    rintro e' w4 ⟨rfl, hb4⟩
    have B4 := Lib.hid (B3.out.trans (hb4.mono B3.out.size))
    have R4 := Lib.hid (R3.out.below hb4)
    have S4 := Lib.hid (S3.out.below hb4)
    clear hb4
    go_wp2_with fail
    refine (h5.out w4 (hA.out.below B4.out)).mono ?_
    rintro e' w5 ⟨A5, c5, rfl, hr5, _, hb5⟩
    have B5 := Lib.hid (B4.out.trans (hb5.mono B4.out.size))
    have R5 := Lib.hid (R4.out.below hb5)
    have S5 := Lib.hid (S4.out.below hb5)
    have C5 := Lib.hid hr5
    clear hb5 hr5
    go_wp2_with fail
    refine (h6.out w5 (hA.out.below B5.out)).mono ?_
    rintro e' w6 ⟨A6, c6, rfl, hr6, _, hb6⟩
    have B6 := Lib.hid (B5.out.trans (hb6.mono B5.out.size))
    have R6 := Lib.hid (R5.out.below hb6)
    have S6 := Lib.hid (S5.out.below hb6)
    have C6 := Lib.hid (C5.out.below hb6)
    have D6 := Lib.hid hr6
    clear hb6 hr6
    go_wp2_with fail
    refine (equal_at cf cf rfl rfl C6.out D6.out hcl).mono ?_
    rintro e' w7 ⟨rfl, hb7⟩
    have B7 := Lib.hid (B6.out.trans (hb7.mono B6.out.size))
    have R7 := Lib.hid (R6.out.below hb7)
    have S7 := Lib.hid (S6.out.below hb7)
    clear hb7
    go_wp2_with fail
    refine (clsame_at rl rl rfl rfl R7.out S7.out hrl).mono ?_
    rintro e' w8 ⟨rfl, hb8⟩
    have B8 := Lib.hid (B7.out.trans (hb8.mono B7.out.size))
    clear hb8
    go_wp2_with fail
    refine (awake_any _).mono ?_
    rintro e' w9 ⟨rfl, hb9⟩
    have hO := Lib.hid (B8.out.trans (hb9.mono B8.out.size))
    clear hb9
    go_wp2_with fail
    go_ret
    exact ⟨rfl, hO.out⟩
end Go.Proofs.Ytgflklgjjpokaaa
