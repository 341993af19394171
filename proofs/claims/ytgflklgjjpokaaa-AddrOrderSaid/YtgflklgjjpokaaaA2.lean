/-
  The walks of Pick of the program (layer 8).
-/
import Derived.Test.YtgflklgjjpokaaaA1
import Derived.Test.YtgflklgjjpokaaaAP2
import Derived.Deep.DeepCutAuto
namespace Go.Proofs.Ytgflklgjjpokaaa
open Go.RowKit

theorem Try.infoU8 : (Try.prog.info? 5).map (fun i => (i.zero, i.size, i.bytes)) = some (some (.int .u8 0), 1, 1) := by kernel_rfl
def us (l : List Int) : List Value := l.map (Value.int .u8)
theorem us_append (l m : List Int) : us (l ++ m) = us l ++ us m := by simp [us]
/-- A row of bytes of the call's own, converted to a text. -/
theorem us_text {w : World} {base n : Nat} {v : Value} {l : List Int} (h : w.ownsRow base 5 1 v n (us l)) (hn : n = l.length) (hp : 0 < l.length) :
    ∃ g cap, v = .slice (some ⟨g, 0, none⟩) n cap ∧ (convert 47 9 (.slice (some ⟨g, 0, none⟩) n cap)).run Try.prog w = .ok (.string (strOfNums l)) w := by
  subst hn
  obtain ⟨g, cap, hv, _, _⟩ := h.form hp
  refine ⟨g, cap, hv, run_convert_bytes_arg w 47 5 Try.underlying47 Try.underlying5 g 0 l.length cap l rfl (fun i hi => ?_) 9 Try.underlying9⟩
  subst hv
  rw [Nat.zero_add, h.cellAt i (by omega)]
  simp [us, List.getD, hi]

set_option maxHeartbeats 4000000 in
theorem pick_low (e t : Int) (w : World) (_e0 : 0 ≤ e) (_e1 : e < 18446744073709551616) (t1 : tryZ t ≤ 15) :
    Calls Try.prog 13 #[.int .u64 e, .int .i64 t] w fun e' w' => e' = .returned (.int .i64 (pickZ e t)) ∧ Below w.heap.size w w' := by
  obtain ⟨i0, hi, hz0, hz1, hz2⟩ := info_parts Try.infoU8
  have hres : Hid (pickZ e t = 1 + pickHash e (tryZ t) % 4294967296 % 250) := by show _ = _; rw [pickZ_low t1]; rfl
  have htc : (t < 0 ∧ tryZ t = 0) ∨ (¬ t < 0 ∧ tryZ t = t) := by
    unfold tryZ
    by_cases h : t < 0
    · rw [if_pos h]; omega
    · rw [if_neg h]; omega
  rw [hres.out]
  have hbd := pickHash_bd e (tryZ t)
  have hb0 : 0 ≤ tryZ t := by omega
  have hph : Hid (pickHash e (tryZ t) = fnvS (strOfNums (pickBytes e (tryZ t)))) := rfl
  clear hres
  generalize pickHash e (tryZ t) = H at *
  generalize tryZ t = T at *
  go_enter Try.func13, Try.ntmps13
  go_upto_region 1 with fail
  go_cut [1] (fun s1 wx => s1 = .int .i64 T ∧ w = wx)
  case first =>
    rcases htc with ⟨q1, rfl⟩ | ⟨q1, rfl⟩
    all_goals
      go_wp2_with fail
      all_goals
        go_meet
        exact ⟨rfl, rfl⟩
  case rest =>
    clear htc
    obtain ⟨rfl, rfl⟩ := hcut
    go_wp2_with fail
    go_loopw [5, 6] (fun o i' wr => ∃ k : Nat, k ≤ 8 ∧ i' = .int .i64 (56 - 8 * (k : Int)) ∧ wr.ownsRow w.heap.size 5 1 o k (us (bytesTo e k)) ∧ Below w.heap.size w wr)
      (fun _ i' _ => (intOf i' + 8).toNat)
    case atStart => exact ⟨0, by omega, rfl, World.ownsRow_nil _ _ _ _, Below.refl _ _⟩
    case round =>
      obtain ⟨k, hk, rfl, hown0, hB⟩ := hrel
      have hown := Lib.hid hown0
      have hsz := hB.size
      clear hown0
      by_cases hlt : k < 8
      · go_wp2_with (at_builtin; refine wpList_append_new _ _ rfl _ _ 47 rfl w.heap.size 5 i0 (.int .u8 0) 1 1 Try.underlying47 hi hz0 hz1 hz2 rfl (by decide) (by decide) _ _ _ rfl hown.out #[.int .u8 (e / 2 ^ (56 - 8 * k) % 256)] rfl (one_int _ _) rfl rfl (by omega) (by omega) ?_)
        intro v' w5 hown5 hb5
        have hown6 : Hid (w5.ownsRow w.heap.size 5 1 v' (k + 1) (us (bytesTo e (k + 1)))) := by
          show World.ownsRow _ _ _ _ _ _ _
          rw [bytesTo_succ, us_append]; exact hown5
        have hB5 := Lib.hid (hB.trans hb5)
        clear hown5 hb5
        go_wp2_with fail
        go_roundw
        case rel => exact ⟨k + 1, by omega, by congr 1; omega, hown6.out, hB5.out⟩
        case measure => simp [intOf]; omega
      · obtain rfl : k = 8 := by omega
        go_wp2_with (at_builtin; refine wpList_append_new _ _ rfl _ _ 47 rfl w.heap.size 5 i0 (.int .u8 0) 1 1 Try.underlying47 hi hz0 hz1 hz2 rfl (by decide) (by decide) _ _ _ rfl hown.out #[.int .u8 T] rfl (one_int _ _) rfl rfl (by omega) (by omega) ?_)
        intro v' w5 hown5 hb5
        have hB5 := Lib.hid (hB.trans hb5)
        obtain ⟨g, cap, rfl, hcv⟩ := us_text (l := pickBytes e T) (by simpa [pickBytes, us] using hown5) (by rw [pickBytes_length]) (by rw [pickBytes_length]; omega)
        have hfn := Lib.hid (lfnv_any (strOfNums (pickBytes e T)) w5 (by rw [strOfNums_size, pickBytes_length]; unfold maxLen; omega))
        rw [← hph.out] at hfn
        clear hown5 hb5 hph
        go_wp2_with fail
        refine hfn.out.mono ?_
        rintro e' w6 ⟨rfl, rfl⟩
        clear hcv
        go_wp2_with fail
        go_ret
        exact ⟨rfl, hB5.out⟩

set_option maxHeartbeats 4000000 in
theorem pick_any (e t : Int) (w : World) (e0 : 0 ≤ e) (e1 : e < 18446744073709551616) (tb : t ≤ 9223372036854775807) :
    Calls Try.prog 13 #[.int .u64 e, .int .i64 t] w fun e' w' => e' = .returned (.int .i64 (pickZ e t)) ∧ Below w.heap.size w w' := by
  by_cases t1 : tryZ t ≤ 15
  · exact pick_low e t w e0 e1 t1
  · have hres := Lib.hid (pickZ_high (e := e) t1)
    have htt : tryZ t = t := by
      unfold tryZ at t1 ⊢
      by_cases h : t < 0
      · rw [if_pos h] at t1; omega
      · rw [if_neg h]
    rw [hres.out]
    have hlow := Lib.hid (pick_low e 15 w e0 e1 (by decide))
    rw [show pickZ e 15 = pickLow e 15 from rfl] at hlow
    have hb := pickLow_bd e 15
    rw [htt] at t1 ⊢
    clear hres htt
    generalize pickLow e 15 = p at *
    go_enter Try.func13, Try.ntmps13
    go_wp2_with fail
    refine hlow.out.mono ?_
    rintro e' w1 ⟨rfl, hb1⟩
    have hB := Lib.hid hb1
    clear hb1
    go_wp2_with fail
    go_ret
    exact ⟨ret_int (by omega), hB.out⟩
end Go.Proofs.Ytgflklgjjpokaaa
