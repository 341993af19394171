/-
  The walks of layer 40 (thermal), the reference, part 2: Step, Ok.
-/
import Derived.Test.YtnppngaabfhkpaaRTR1
import Derived.Test.YtnppngaabfhkpaaRT3
namespace Go.Proofs.Ytnppngaabfhkpaa
open Go.RowKit
attribute [local go_sem ↓] Go.wp_at_zero Go.wp_at_succ

set_option maxHeartbeats 2000000 in
theorem rtstep_any (r : Rm) (A B : Option Addr) (c d : Nat) (temp out heat : Int) (w : World) (hA : RInts w A r.low) (hB : RInts w B r.high) :
    Calls Try.prog 72 #[r.v A c B d, .int .i64 temp, .int .i64 out, .int .i64 heat] w fun e w' => e = .returned (.int .i64 (r.valid.step temp out heat)) ∧ Below w.heap.size w w' := by
  have hv := fun w' hA' hB' => rvalid_any r A B c d w' hA' hB'
  have hf := r.fine
  generalize r.valid = s at *
  have hA1 : RInts (w.alloc (.cells #[.int .i64 r.gain, .int .i64 r.loss, .int .i64 r.steps, .int .i64 r.power, .slice A r.low.length c, .slice B r.high.length d] 28)) A r.low := hA.alloc _
  have hB1 : RInts (w.alloc (.cells #[.int .i64 r.gain, .int .i64 r.loss, .int .i64 r.steps, .int .i64 r.power, .slice A r.low.length c, .slice B r.high.length d] 28)) B r.high := hB.alloc _
  have g0 := hf.g0; have g1 := hf.g1; have l0 := hf.l0; have l1 := hf.l1; have s0 := hf.s0; have s1 := hf.s1
  have hHb := heatT_bd (h := heat) s0
  obtain ⟨m1, m2⟩ := mul_bd g0 g1 (show -40 ≤ heatT heat s.steps by omega) (by omega) (by omega)
  obtain ⟨t0, t1⟩ := limT_bd temp
  obtain ⟨o0, o1⟩ := limT_bd out
  obtain ⟨n1, n2⟩ := mul_bd l0 l1 (show -3000 ≤ limT temp - limT out by omega) (by omega) (by omega)
  have hlt := rlimit_any temp
  have hlo := rlimit_any out
  have hch := fun w => clamp_heat heat s.steps w s0
  simp only [Rm.v] at hv ⊢
  unfold Rm.step stepT
  generalize limT temp = T at *
  generalize limT out = O at *
  generalize heatT heat s.steps = H at *
  have q1 : IntKind.i64.wrap (T - O) = T - O := IntWalk.i64_in _ (by omega)
  have q2 : IntKind.i64.wrap (s.loss * (T - O)) = s.loss * (T - O) := IntWalk.i64_in _ (by omega)
  have hfl := fun w => rfloor_any (s.loss * (T - O)) w (by omega) (by omega)
  have q3 : -10000000 ≤ s.loss * (T - O) / 1000 ∧ s.loss * (T - O) / 1000 ≤ 10000000 := by omega
  obtain ⟨q4, q5⟩ := q3
  have q6 : IntKind.i64.wrap (s.gain * H) = s.gain * H := IntWalk.i64_in _ (by omega)
  have q7 : IntKind.i64.wrap (T + s.gain * H) = T + s.gain * H := IntWalk.i64_in _ (by omega)
  have q8 : IntKind.i64.wrap (T + s.gain * H - s.loss * (T - O) / 1000) = T + s.gain * H - s.loss * (T - O) / 1000 := IntWalk.i64_in _ (by omega)
  have HV := Lib.hid hv
  have HA := Lib.hid hA1
  have HB := Lib.hid hB1
  have HLT := Lib.hid hlt
  have HLO := Lib.hid hlo
  have HCH := Lib.hid hch
  have HFL := Lib.hid hfl
  clear hv hA hB hA1 hB1 hf hlt hlo hch hfl hHb
  go_enter Try.func72, Try.ntmps72
  go_wp2_with fail
  refine (HV.out _ HA.out HB.out).mono ?_
  rintro e w1 ⟨A', c', B', d', rfl, _, _, hb1⟩
  have hW1 : Below w.heap.size w w1 := ((Below.refl _ _).alloc (Nat.le_refl _) _).trans (hb1.mono (by simp))
  clear HA HB HV hb1
  simp only [Rm.v]
  go_wp2_with fail
  refine (HLT.out _).mono ?_
  rintro e w2 ⟨rfl, hw2⟩
  subst hw2
  go_wp2_with fail
  go_quiet ((first | (go_at_call 115; exact quiet_left (HCH.out _)) | (go_at_call_of 114 (Value.int .i64 out); exact quiet_left (HLO.out _)) | (go_at_call 58; exact quiet_left (HFL.out _)) | (go_at_call 114; exact quiet_left (rlimit_any _ _))))
  go_wp2
  go_ret
  exact ⟨rfl, below_drewN (hW1.alloc hW1.size _) _⟩

set_option maxHeartbeats 2000000 in
theorem rtok_any (r : Rm) (A B : Option Addr) (c d : Nat) (i temp : Int) (w : World) (hA : RInts w A r.low) (hB : RInts w B r.high) :
    Calls Try.prog 73 #[r.v A c B d, .int .i64 i, .int .i64 temp] w fun e w' => e = .returned (.bool (r.valid.okAt i temp)) ∧ Below w.heap.size w w' := by
  have hv := fun w' hA' hB' => rvalid_any r A B c d w' hA' hB'
  have hf := r.fine
  generalize r.valid = s at *
  have hA1 : RInts (w.alloc (.cells #[.int .i64 r.gain, .int .i64 r.loss, .int .i64 r.steps, .int .i64 r.power, .slice A r.low.length c, .slice B r.high.length d] 28)) A r.low := hA.alloc _
  have hB1 : RInts (w.alloc (.cells #[.int .i64 r.gain, .int .i64 r.loss, .int .i64 r.steps, .int .i64 r.power, .slice A r.low.length c, .slice B r.high.length d] 28)) B r.high := hB.alloc _
  simp only [Rm.v] at hv ⊢
  have HV := Lib.hid hv
  have HA := Lib.hid hA1
  have HB := Lib.hid hB1
  have hl := hf.len2
  have hl1 := hf.len1
  clear hv hA hB hA1 hB1 hf
  by_cases h0 : 0 ≤ i
  · by_cases h1 : i < (s.low.length : Int)
    · rw [okAt_true h0 h1]
      obtain ⟨k, rfl⟩ := Int.eq_ofNat_of_zero_le h0
      have hka : k < s.low.length := by omega
      have hkb : k < s.high.length := by omega
      rw [Int.toNat_natCast]
      have gA := Lib.hid (getD_eq hka)
      have gB := Lib.hid (getD_eq hkb)
      go_enter Try.func73, Try.ntmps73
      go_wp2_with fail
      refine (HV.out _ HA.out HB.out).mono ?_
      rintro e w1 ⟨A', c', B', d', rfl, hA', hB', hb1⟩
      have hW1 : Below w.heap.size w w1 := ((Below.refl _ _).alloc (Nat.le_refl _) _).trans (hb1.mono (by simp))
      clear HA HB HV hb1
      obtain ⟨ba, oa, rfl, hab, hac⟩ := hA'.at' hka
      obtain ⟨bb, ob, rfl, hbb, hbc⟩ := hB'.at' hkb
      rw [gA.out] at hac
      rw [gB.out] at hbc
      generalize hlo : s.low.getD k 0 = lo at *
      generalize hhi : s.high.getD k 0 = hi at *
      have HLO := Lib.hid hlo
      have HHI := Lib.hid hhi
      clear hlo hhi gA gB hA' hB'
      simp only [Rm.v]
      rw [hl]
      have hca := (World.cell?_alloc_lt w1 (.cells #[.int .i64 s.gain, .int .i64 s.loss, .int .i64 s.steps, .int .i64 s.power, .slice (some ⟨ba, oa, none⟩) s.low.length c', .slice (some ⟨bb, ob, none⟩) s.low.length d'] 28) ⟨ba, oa + k, none⟩ hab).trans hac
      have hcb := (World.cell?_alloc_lt w1 (.cells #[.int .i64 s.gain, .int .i64 s.loss, .int .i64 s.steps, .int .i64 s.power, .slice (some ⟨ba, oa, none⟩) s.low.length c', .slice (some ⟨bb, ob, none⟩) s.low.length d'] 28) ⟨bb, ob + k, none⟩ hbb).trans hbc
      clear hac hbc hkb hl
      generalize s.low.length = L at *
      by_cases k1 : lo ≤ temp
      · go_wp2_with fail
        go_ret
        exact ⟨ret_bool (by show _ = wT temp (s.low.getD k 0) (s.high.getD k 0); rw [HLO.out, HHI.out]; simp [wT, k1]), hW1.alloc hW1.size _⟩
      · have hf : Hid (wT temp lo hi = false) := wT_false.2 (by omega)
        go_wp2_with fail
        go_ret
        exact ⟨ret_bool (by show _ = wT temp (s.low.getD k 0) (s.high.getD k 0); rw [HLO.out, HHI.out]; exact hf.out.symm), hW1.alloc hW1.size _⟩
    · rw [okAt_out (by omega)]
      have h1' : (s.low.length : Int) ≤ i := by omega
      clear h1
      go_enter Try.func73, Try.ntmps73
      go_wp2_with fail
      refine (HV.out _ HA.out HB.out).mono ?_
      rintro e w1 ⟨A', c', B', d', rfl, hA', hB', hb1⟩
      have hW1 : Below w.heap.size w w1 := ((Below.refl _ _).alloc (Nat.le_refl _) _).trans (hb1.mono (by simp))
      clear HA HB HV hb1 hA' hB'
      simp only [Rm.v]
      go_wp2_with fail
      go_ret
      exact ⟨rfl, hW1.alloc hW1.size _⟩
  · rw [okAt_out (by omega)]
    have h0' : i < 0 := by omega
    clear h0
    go_enter Try.func73, Try.ntmps73
    go_wp2_with fail
    refine (HV.out _ HA.out HB.out).mono ?_
    rintro e w1 ⟨A', c', B', d', rfl, hA', hB', hb1⟩
    have hW1 : Below w.heap.size w w1 := ((Below.refl _ _).alloc (Nat.le_refl _) _).trans (hb1.mono (by simp))
    clear HA HB HV hb1 hA' hB'
    simp only [Rm.v]
    go_wp2_with fail
    go_ret
    exact ⟨rfl, hW1.alloc hW1.size _⟩

section
variable {s : Rm} {A B : Option Addr} {c d : Nat} {w1 W W' : World}
end


end Go.Proofs.Ytnppngaabfhkpaa
