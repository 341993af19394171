/-
  The walk of the chapter's example (layer 8): awake returns true.
-/
import Derived.Test.YtgflklgjjpokaaaA17
import Derived.Test.YtgflklgjjpokaaaAP9
namespace Go.Proofs.Ytgflklgjjpokaaa
open Go.RowKit

section
variable {A B : Option Addr} {c d : Nat} {W : World}
theorem aw_k (h : RCls W A [awC 0]) : Calls Try.prog 17 #[.slice A 1 c] W fun e w' => e = .returned (.int .i64 0) ∧ Below W.heap.size W w' := by
  have h1 := clcheck_any A c [awC 0] W h (by intro x hx; simp at hx; subst hx; exact awC_wf 0 (.inl rfl))
  rw [awC_chk] at h1
  exact h1
theorem aw_bad (h : RCls W A [awC (-1)]) : Calls Try.prog 17 #[.slice A 1 c] W fun e w' => e = .returned (.int .i64 2) ∧ Below W.heap.size W w' := by
  have h1 := clcheck_any A c [awC (-1)] W h (by intro x hx; simp at hx; subst hx; exact awC_wf (-1) (.inr rfl))
  rw [awC_bad] at h1
  exact h1
theorem aw_rd (h : RCls W A [awC 0]) : Calls Try.prog 15 #[.slice A 1 c] W (ClOut [awC 0] 0 W) := by
  have h1 := lRound_any A c [awC 0] W h (by intro x hx; simp at hx; subst hx; exact awC_wf 0 (.inl rfl))
  rw [awC_rnd, awC_rn] at h1
  exact h1
theorem aw_cf (h : RCls W A [awC 0]) : Calls Try.prog 20 #[.slice A 1 c] W (IntsOut [] W) := by
  have h1 := lconf_any A c [awC 0] W h (by intro x hx; simp at hx; subst hx; exact awC_wf 0 (.inl rfl))
  rw [awC_conf] at h1
  exact h1
theorem aw_st (h : RCls W A [awC 0]) : Calls Try.prog 23 #[.slice A 1 c] W (ClsOut [awC 0] W) := by
  have h1 := lsettle_any A c [awC 0] W h (by intro x hx; simp at hx; subst hx; exact awC_wf 0 (.inl rfl)) (by simp)
  rw [awC_settle] at h1
  exact h1
theorem aw_sm (h : RCls W A [awC 0]) (h2 : RCls W B [awC 0]) : Calls Try.prog 22 #[.slice A 1 c, .slice B 1 d] W fun e w' => e = .returned (.bool true) ∧ Below W.heap.size W w' := by
  have h1 := clsame_any A B c d [awC 0] [awC 0] W h h2 (by simp)
  rw [decide_eq_true rfl] at h1
  exact h1
theorem aw_fi (b : Int) (h : RInts W A [b]) (hb : 1 ≤ b ∧ b ≤ 250) : Calls Try.prog 11 #[.int .u64 3, .slice A 1 c] W (FirstOut 3 [b] W) :=
  first_any 3 A c [b] W (by omega) (by omega) h (by simp) (by intro x hx; simp at hx; omega)
end

set_option maxHeartbeats 8000000 in
theorem awake_any (w : World) : Calls Try.prog 10 #[] w fun e w' => e = .returned (.bool true) ∧ Below w.heap.size w w' := by
  have p0 := Lib.hid (fun W => pick_any 3 0 W (by omega) (by omega) (by omega))
  have p20 := Lib.hid (fun W => pick_any 3 20 W (by omega) (by omega) (by omega))
  have p9 := Lib.hid (fun W => pick_any 3 (-9) W (by omega) (by omega) (by omega))
  have p21 := Lib.hid (fun W => pick_any 3 21 W (by omega) (by omega) (by omega))
  rw [aw_m9] at p9
  rw [aw_21] at p21
  have ha := pickZ_bd 3 0
  have hb := pickZ_bd 3 20
  have hA : Hid (∀ W : World, RCls (W.alloc (.cells #[.int .u64 3, .int .i64 (pickZ 3 0), .int .i64 0] 40)) (some ⟨W.heap.size, 0, none⟩) [awC 0]) := fun W => rcls_lit _ _ rfl
  have hBad : Hid (∀ W : World, RCls (W.alloc (.cells #[.int .u64 3, .int .i64 (pickZ 3 0), .int .i64 (-1)] 40)) (some ⟨W.heap.size, 0, none⟩) [awC (-1)]) := fun W => rcls_lit _ _ rfl
  have hFI := Lib.hid (fun (A : Option Addr) (c : Nat) W (h : RInts W A [pickZ 3 20]) => aw_fi (c := c) _ h hb)
  have hFX := Lib.hid (fun (t x : Int) (ok : Bool) (h : FirstIs 3 [pickZ 3 20] t x ok) => aw_first h)
  generalize pickZ 3 0 = a at *
  generalize pickZ 3 20 = b at *
  go_enter Try.func10, Try.ntmps10
  go_wp2_with fail
  refine (p0.out _).mono ?_
  rintro e w1 ⟨rfl, hb1⟩
  have B1 := Lib.hid hb1
  clear hb1
  go_wp2_with fail
  refine (p20.out _).mono ?_
  rintro e w2 ⟨rfl, hb2⟩
  have B2 := Lib.hid (B1.out.trans (hb2.mono B1.out.size))
  clear hb2
  go_wp2_with fail
  refine (p9.out _).mono ?_
  rintro e w3 ⟨rfl, hb3⟩
  have B3 := Lib.hid (B2.out.trans (hb3.mono B2.out.size))
  clear hb3
  go_wp2_with fail
  refine (p21.out _).mono ?_
  rintro e w4 ⟨rfl, hb4⟩
  have B4 := Lib.hid (B3.out.trans (hb4.mono B3.out.size))
  clear hb4
  go_wp2_with fail
  have L0 := Lib.hid ((hA.out w4).alloc (.cells #[.int .i64 b] 3))
  have RB := rints_lit (w4.alloc (.cells #[.int .u64 3, .int .i64 a, .int .i64 0] 40)) #[.int .i64 b] 3 (l := [b]) rfl
  rw [World.size_alloc] at RB
  have B5 := Lib.hid ((B4.out.alloc B4.out.size (.cells #[.int .u64 3, .int .i64 a, .int .i64 0] 40)).alloc (by have := B4.out.size; simp; omega) (.cells #[.int .i64 b] 3))
  have RB' := Lib.hid RB
  clear RB
  refine (hFI.out _ _ _ RB'.out).mono ?_
  rintro e w5 ⟨t, x, ok, rfl, hfi, hb5⟩
  obtain ⟨hok, hxb⟩ := hFX.out _ _ _ hfi
  subst hok
  have hxb' : (x != b) = true := by simpa using hxb
  have B6 := Lib.hid (B5.out.trans (hb5.mono B5.out.size))
  have L1 := Lib.hid (L0.out.below hb5)
  clear hb5 hfi hxb hFX
  go_wp2_with fail
  refine (aw_rd L1.out).mono ?_
  rintro e w6 ⟨A6, c6, rfl, hr6, _, hb6⟩
  have B7 := Lib.hid (B6.out.trans (hb6.mono B6.out.size))
  have L2 := Lib.hid (L1.out.below hb6)
  have M2 := Lib.hid hr6
  clear hb6 hr6
  go_wp2_with fail
  refine (aw_k L2.out).mono ?_
  rintro e w7 ⟨rfl, hb7⟩
  have B8 := Lib.hid (B7.out.trans (hb7.mono B7.out.size))
  have L3 := Lib.hid (L2.out.below hb7)
  have M3 := Lib.hid (M2.out.below hb7)
  clear hb7
  go_wp2_with fail
  refine (aw_cf L3.out).mono ?_
  rintro e w8 ⟨A8, c8, rfl, _, _, hb8⟩
  have B9 := Lib.hid (B8.out.trans (hb8.mono B8.out.size))
  have L4 := Lib.hid (L3.out.below hb8)
  have M4 := Lib.hid (M3.out.below hb8)
  clear hb8
  go_wp2_with fail
  refine (aw_sm M4.out L4.out).mono ?_
  rintro e w9 ⟨rfl, hb9⟩
  have B10 := Lib.hid (B9.out.trans (hb9.mono B9.out.size))
  have L5 := Lib.hid (L4.out.below hb9)
  clear hb9
  go_wp2_with fail
  refine (aw_st L5.out).mono ?_
  rintro e w10 ⟨A10, c10, rfl, hr10, hb10⟩
  have B11 := Lib.hid (B10.out.trans (hb10.mono B10.out.size))
  have L6 := Lib.hid (L5.out.below hb10)
  have M6 := Lib.hid hr10
  clear hb10 hr10
  go_wp2_with fail
  refine (aw_sm M6.out L6.out).mono ?_
  rintro e w11 ⟨rfl, hb11⟩
  have B12 := Lib.hid (B11.out.trans (hb11.mono B11.out.size))
  have L7 := Lib.hid (hBad.out w11)
  clear hb11
  go_wp2_with fail
  refine (aw_bad L7.out).mono ?_
  rintro e w12 ⟨rfl, hb12⟩
  have B13 := Lib.hid ((B12.out.alloc B12.out.size (.cells #[.int .u64 3, .int .i64 a, .int .i64 (-1)] 40)).trans (hb12.mono (by have := B12.out.size; simp; omega)))
  clear hb12
  go_wp2_with fail
  go_ret
  exact ⟨rfl, B13.out⟩
end Go.Proofs.Ytgflklgjjpokaaa
