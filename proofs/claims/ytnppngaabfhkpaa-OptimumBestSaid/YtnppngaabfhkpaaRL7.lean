/-
  The walks of layer 41 (load), part 5: Check of the reference.
-/
import Derived.Test.YtnppngaabfhkpaaRL6
namespace Go.Proofs.Ytnppngaabfhkpaa
open Go.RowKit

set_option maxHeartbeats 8000000 in
theorem rlcheck_any (r : Ld) (A : Option Addr) (c : Nat) (n : Int) (w : World) (hA0 : RInts w A r.prof) (hn : r.name.size ≤ maxLen) :
    Calls Try.prog 106 #[r.v A c, .int .i64 n] w fun e w' => e = .returned (.int .i64 (r.chk n)) ∧ Below w.heap.size w w' := by
  have hv0 := fun W => rname_any r.name W hn
  have hA := Lib.hid hA0
  simp only [Ld.v]
  cases hname : nameOk r.name
  · have hz := Lib.hid (Ld.chk_name (n := n) hname)
    rw [hname] at hv0
    have hv := Lib.hid hv0
    clear hname hv0 hA0
    go_enter Try.func106, Try.ntmps106
    go_wp2_with fail
    refine (hv.out _).mono ?_
    rintro e w1 ⟨rfl, rfl⟩
    have hS : LdS r A c w (ldW r A c w) := lds_first (Below.refl _ _)
    go_wp2_with fail
    go_ret
    exact ⟨ret_int hz.out.symm, hS.out⟩
  · rw [hname] at hv0
    have hv := Lib.hid hv0
    by_cases hlim : 1 ≤ r.prof.length ∧ r.prof.length ≤ 24
    · have hlm : r.lim = true := by unfold Ld.lim; rw [decide_eq_true_iff]; exact hlim
      have hbad : Hid ((r.prof.all unitOk = false ∨ r.span n = false) → r.chk n = 2) := fun h => Ld.chk_bad hname hlm h
      have hgood : Hid (r.prof.all unitOk = true → r.span n = true → r.chk n = 0) := fun h h' => Ld.chk_ok hname hlm h h'
      have l1 : ¬ (r.prof.length : Int) < 1 := by omega
      have l2 : ¬ (24 : Int) < (r.prof.length : Int) := by omega
      obtain ⟨L, hL⟩ : ∃ L, L = r.prof.length := ⟨_, rfl⟩
      have HL := Lib.hid hL
      clear hname hv0 hA0 hlim hlm
      go_enter Try.func106, Try.ntmps106
      go_wp2_with fail
      refine (hv.out _).mono ?_
      rintro e w1 ⟨rfl, rfl⟩
      have hS : LdS r A c w (ldW r A c w) := lds_first (Below.refl _ _)
      go_wp2_with fail
      go_loopw [5] (fun i' wr => ∃ k : Nat, k ≤ L ∧ i' = .int .i64 k ∧ Hid ((r.prof.take k).all unitOk = true) ∧ wr = ldW r A c w)
        (fun i' _ => L - (intOf i').toNat)
      case atStart => exact ⟨0, by omega, rfl, rfl, rfl⟩
      case round =>
        obtain ⟨k, hk, rfl, hok, rfl⟩ := hrel
        obtain ⟨z0, z1, z2, z3⟩ := hS.cells
        rw [← hL] at z1
        clear hL
        by_cases hlt : k < L
        · have hkl : k < r.prof.length := by rw [← HL.out]; exact hlt
          obtain ⟨ba, oa, hAe, hab, hac⟩ := (hA.out.below hS.out).at' hkl
          subst hAe
          by_cases hu : unitOk r.prof[k] = true
          · have hok' := Lib.hid (all_take_succ hkl hok.out hu)
            have hux := unitOk_true.1 hu
            clear hu
            generalize r.prof[k] = x at *
            obtain ⟨u1, u2⟩ := hux
            have u1' : ¬ x < 0 := by omega
            have u2' : ¬ 1000 < x := by omega
            go_wp2_with fail
            go_roundw
            case rel => exact ⟨k + 1, by omega, by go_num, hok', trivial⟩
            case measure => simp [intOf]; omega
          · have hfin := Lib.hid (hbad.out (.inl (badAt_hit hkl (by simpa using hu))))
            have hux : r.prof[k] < 0 ∨ (¬ r.prof[k] < 0 ∧ 1000 < r.prof[k]) := by
              have : ¬ (0 ≤ r.prof[k] ∧ r.prof[k] ≤ 1000) := fun h => hu (unitOk_true.2 h)
              omega
            clear hu
            generalize r.prof[k] = x at *
            rcases hux with u1 | ⟨u1, u2⟩
            all_goals
              go_wp2_with fail
              go_ret
              exact ⟨ret_int hfin.out.symm, hS.out⟩
        · have hall : Hid (r.prof.all unitOk = true) := by
            have h := hok.out
            rwa [List.take_of_length_le (by rw [← HL.out]; omega)] at h
          have hcs : (r.span n = false ∧ n < 1) ∨ (r.span n = false ∧ ¬ n < 1 ∧ 96 < n) ∨ (r.span n = false ∧ ¬ n < 1 ∧ ¬ 96 < n ∧ r.early < 0) ∨ (r.span n = false ∧ ¬ n < 1 ∧ ¬ 96 < n ∧ ¬ r.early < 0 ∧ n < r.late) ∨
              (r.span n = false ∧ ¬ n < 1 ∧ ¬ 96 < n ∧ ¬ r.early < 0 ∧ ¬ n < r.late ∧ r.late < r.early) ∨ (r.span n = false ∧ ¬ n < 1 ∧ ¬ 96 < n ∧ ¬ r.early < 0 ∧ ¬ n < r.late ∧ ¬ r.late < r.early ∧ r.late - r.early < (L : Int)) ∨
              (r.span n = true ∧ ¬ n < 1 ∧ ¬ 96 < n ∧ ¬ r.early < 0 ∧ ¬ n < r.late ∧ ¬ r.late < r.early ∧ ¬ r.late - r.early < (L : Int)) := by
            have := HL.out
            simp only [Ld.span, decide_eq_true_iff, decide_eq_false_iff_not]; omega
          rcases hcs with ⟨hs, q1⟩ | ⟨hs, q1, q2⟩ | ⟨hs, q1, q2, q3⟩ | ⟨hs, q1, q2, q3, q4⟩ | ⟨hs, q1, q2, q3, q4, q5⟩ | ⟨hs, q1, q2, q3, q4, q5, q6⟩ | ⟨hs, q1, q2, q3, q4, q5, q6⟩
          · have hz := Lib.hid (hbad.out (.inr hs))
            clear hs
            go_wp2_with fail
            go_ret
            exact ⟨ret_int hz.out.symm, hS.out⟩
          · have hz := Lib.hid (hbad.out (.inr hs))
            clear hs
            go_wp2_with fail
            go_ret
            exact ⟨ret_int hz.out.symm, hS.out⟩
          · have hz := Lib.hid (hbad.out (.inr hs))
            clear hs
            go_wp2_with fail
            go_ret
            exact ⟨ret_int hz.out.symm, hS.out⟩
          · have hz := Lib.hid (hbad.out (.inr hs))
            clear hs
            go_wp2_with fail
            go_ret
            exact ⟨ret_int hz.out.symm, hS.out⟩
          · have hz := Lib.hid (hbad.out (.inr hs))
            clear hs
            go_wp2_with fail
            go_ret
            exact ⟨ret_int hz.out.symm, hS.out⟩
          · have hz := Lib.hid (hbad.out (.inr hs))
            have hw : IntKind.i64.wrap (r.late - r.early) = r.late - r.early := IntWalk.i64_in _ (by omega)
            clear hs
            go_wp2_with fail
            go_ret
            exact ⟨ret_int hz.out.symm, hS.out⟩
          · have hz := Lib.hid (hgood.out hall.out hs)
            have hw : IntKind.i64.wrap (r.late - r.early) = r.late - r.early := IntWalk.i64_in _ (by omega)
            clear hs
            go_wp2_with fail
            go_ret
            exact ⟨ret_int hz.out.symm, hS.out⟩
    · have hz := Lib.hid (Ld.chk_lim (n := n) hname (by unfold Ld.lim; rw [decide_eq_false hlim]))
      have hcs : (r.prof.length : Int) < 1 ∨ (¬ (r.prof.length : Int) < 1 ∧ (24 : Int) < (r.prof.length : Int)) := by omega
      clear hname hv0 hA0 hlim
      rcases hcs with q1 | ⟨q1, q2⟩
      all_goals
        go_enter Try.func106, Try.ntmps106
        go_wp2_with fail
        refine (hv.out _).mono ?_
        rintro e w1 ⟨rfl, rfl⟩
        have hS : LdS r A c w (ldW r A c w) := lds_first (Below.refl _ _)
        go_wp2_with fail
        go_ret
        exact ⟨ret_int hz.out.symm, hS.out⟩
end Go.Proofs.Ytnppngaabfhkpaa
