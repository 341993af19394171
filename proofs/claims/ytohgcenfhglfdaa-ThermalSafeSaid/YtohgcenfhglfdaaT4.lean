/-
  The walks of layer 40 (thermal), part 4: Step, comfortable, Ok.
-/
import Derived.Test.YtohgcenfhglfdaaT3
namespace Go.Proofs.Ytohgcenfhglfdaa
open Go.RowKit

set_option maxHeartbeats 1000000 in
theorem tstep_any (r : Rm) (A B : Option Addr) (c d : Nat) (temp out heat : Int) (w : World) (hA : RInts w A r.low) (hB : RInts w B r.high) :
    Calls Try.prog 24 #[r.v A c B d, .int .i64 temp, .int .i64 out, .int .i64 heat] w fun e w' => e = .returned (.int .i64 (r.valid.step temp out heat)) ∧ Below w.heap.size w w' := by
  have hv := fun w' hA' hB' => valid_any r A B c d w' hA' hB'
  have hm := model_any r.valid
  have hf := r.fine
  generalize r.valid = s at *
  have hA1 : RInts (w.alloc (.cells #[.int .i64 r.gain, .int .i64 r.loss, .int .i64 r.steps, .int .i64 r.power, .slice A r.low.length c, .slice B r.high.length d] 24)) A r.low := hA.alloc _
  have hB1 : RInts (w.alloc (.cells #[.int .i64 r.gain, .int .i64 r.loss, .int .i64 r.steps, .int .i64 r.power, .slice A r.low.length c, .slice B r.high.length d] 24)) B r.high := hB.alloc _
  simp only [Rm.v] at hv hm ⊢
  have HV := Lib.hid hv
  have HM := Lib.hid hm
  have HA := Lib.hid hA1
  have HB := Lib.hid hB1
  have HF := Lib.hid hf
  clear hv hm hA hB hA1 hB1 hf
  unfold Rm.step
  go_enter Try.func24, Try.ntmps24
  go_wp2_with fail
  refine (HV.out _ HA.out HB.out).mono ?_
  rintro e w1 ⟨A', c', B', d', rfl, _, _, hb1⟩
  have hW1 : Below w.heap.size w w1 := ((Below.refl _ _).alloc (Nat.le_refl _) _).trans (hb1.mono (by simp))
  clear HA HB HV hb1
  simp only [Rm.v]
  go_wp2_with fail
  refine (HM.out _ _ _ _ _).mono ?_
  rintro e w2 ⟨rfl, hw2⟩
  subst hw2
  go_wp2_with fail
  refine (model1_any s.gain s.loss s.steps temp out heat w1.heap.size _ HF.out.g0 HF.out.g1 HF.out.l0 HF.out.l1 HF.out.s0 HF.out.s1 (by simp [World.cell?_alloc_new]) (by simp [World.cell?_alloc_new]) (by simp [World.cell?_alloc_new])).mono ?_
  rintro e w3 ⟨rfl, n, rfl⟩
  go_wp2_with fail
  go_ret
  exact ⟨rfl, below_drewN (hW1.alloc hW1.size _) n⟩

theorem okAt_true {r : Rm} {i temp : Int} (h0 : 0 ≤ i) (h1 : i < (r.low.length : Int)) : r.okAt i temp = wT temp (r.low.getD i.toNat 0) (r.high.getD i.toNat 0) := by
  unfold Rm.okAt
  simp [h0, h1]
theorem okAt_out {r : Rm} {i temp : Int} (h : i < 0 ∨ (r.low.length : Int) ≤ i) : r.okAt i temp = false := by
  unfold Rm.okAt
  rw [Bool.and_eq_false_iff, Bool.and_eq_false_iff, decide_eq_false_iff_not, decide_eq_false_iff_not]
  omega

set_option maxHeartbeats 1000000 in
theorem comf_any (r : Rm) (A B : Option Addr) (c d : Nat) (i temp : Int) (w : World) (hA : RInts w A r.low) (hB : RInts w B r.high) (hl : r.high.length = r.low.length) (hl1 : r.low.length ≤ 96) :
    Calls Try.prog 31 #[r.v A c B d, .int .i64 i, .int .i64 temp] w fun e w' => e = .returned (.bool (r.okAt i temp)) ∧ Below w.heap.size w w' := by
  simp only [Rm.v]
  by_cases h0 : 0 ≤ i
  · by_cases h1 : i < (r.low.length : Int)
    · rw [okAt_true h0 h1]
      obtain ⟨k, rfl⟩ := Int.eq_ofNat_of_zero_le h0
      have hka : k < r.low.length := by omega
      have hkb : k < r.high.length := by omega
      obtain ⟨ba, oa, rfl, hab, hac⟩ := hA.at' hka
      obtain ⟨bb, ob, rfl, hbb, hbc⟩ := hB.at' hkb
      rw [getD_eq hka] at hac
      rw [getD_eq hkb] at hbc
      rw [Int.toNat_natCast]
      generalize r.low.getD k 0 = lo at *
      generalize r.high.getD k 0 = hi at *
      have hL : (r.low.length : Int) ≤ 96 := by omega
      rw [hl]
      clear hA hB hl
      generalize r.low.length = L at *
      have hca := (World.cell?_alloc_lt w (.cells #[.int .i64 r.gain, .int .i64 r.loss, .int .i64 r.steps, .int .i64 r.power, .slice (some ⟨ba, oa, none⟩) L c, .slice (some ⟨bb, ob, none⟩) L d] 24) ⟨ba, oa + k, none⟩ hab).trans hac
      have hcb := (World.cell?_alloc_lt w (.cells #[.int .i64 r.gain, .int .i64 r.loss, .int .i64 r.steps, .int .i64 r.power, .slice (some ⟨ba, oa, none⟩) L c, .slice (some ⟨bb, ob, none⟩) L d] 24) ⟨bb, ob + k, none⟩ hbb).trans hbc
      clear hac hbc
      have q1 : decide ((k : Int) < (L : Int)) = true := by simp; omega
      have q2 : decide ((0 : Int) ≤ (k : Int)) = true := by simp
      go_enter Try.func31, Try.ntmps31
      go_wp2_with fail
      go_quiet ((go_at_call 28; exact quiet_left (tbetween_any _ _ _ _)))
      go_wp2
      go_ret
      exact ⟨rfl, below_drewN ((Below.refl _ _).alloc (Nat.le_refl _) _) _⟩
    · rw [okAt_out (by omega)]
      have q1 : decide (i < (r.low.length : Int)) = false := by simp; omega
      have q2 : decide ((0 : Int) ≤ i) = true := by simp; omega
      clear h1
      go_enter Try.func31, Try.ntmps31
      go_wp2_with fail
      go_quiet (fail)
      go_wp2
      go_ret
      exact ⟨rfl, below_drewN ((Below.refl _ _).alloc (Nat.le_refl _) _) _⟩
  · rw [okAt_out (by omega)]
    have q2 : decide ((0 : Int) ≤ i) = false := by simp; omega
    clear h0
    go_enter Try.func31, Try.ntmps31
    go_wp2_with fail
    go_quiet (fail)
    go_wp2
    go_ret
    exact ⟨rfl, below_drewN ((Below.refl _ _).alloc (Nat.le_refl _) _) _⟩
end Go.Proofs.Ytohgcenfhglfdaa
