/-
  The walks of layer 41 (load), part 4: Check of the program.
-/
import Derived.Test.YtnppngaabfhkpaaFL1
namespace Go.Proofs.Ytnppngaabfhkpaa
open Go.RowKit

/-- The world in which the load lies in its variable; what stands since. -/
def ldW (r : Ld) (A : Option Addr) (c : Nat) (w : World) : World := w.alloc (.cells #[.string r.name, .slice A r.prof.length c, .int .i64 r.early, .int .i64 r.late] 70)
def LdS (r : Ld) (A : Option Addr) (c : Nat) (w W : World) : Prop := Below (w.heap.size + 1) (ldW r A c w) W
section
variable {r : Ld} {A : Option Addr} {c : Nat} {w W W' : World}
theorem lds_first (hb : Below (ldW r A c w).heap.size (ldW r A c w) W) : LdS r A c w W := by
  have h := hb
  simp only [ldW, World.size_alloc] at h
  exact h
theorem LdS.cells (h : LdS r A c w W) : W.cell? ⟨w.heap.size, 0, none⟩ = some (.string r.name) ∧ W.cell? ⟨w.heap.size, 1, none⟩ = some (.slice A r.prof.length c) ∧ W.cell? ⟨w.heap.size, 2, none⟩ = some (.int .i64 r.early) ∧ W.cell? ⟨w.heap.size, 3, none⟩ = some (.int .i64 r.late) := by
  have hc := (bcell' h).1
  refine ⟨?_, ?_, ?_, ?_⟩ <;> (rw [hc _ _ (by omega)]; simp [ldW, World.cell?_alloc_new])
theorem LdS.out (h : LdS r A c w W) : Below w.heap.size w W := ((Below.refl _ _).alloc (Nat.le_refl _) _).trans (Below.mono h (by omega))
theorem LdS.size (h : LdS r A c w W) : w.heap.size + 1 ≤ W.heap.size := by have := Below.size h; simp [ldW] at this; omega
theorem LdS.mk' (h : LdS r A c w W) (hb : Below W.heap.size W W') : LdS r A c w W' := Below.trans h (hb.mono h.size)
end

set_option maxHeartbeats 4000000 in
theorem lcheck_any (r : Ld) (A : Option Addr) (c : Nat) (n : Int) (w : World) (hA0 : RInts w A r.prof) (hn : r.name.size ≤ maxLen) (hl : r.prof.length ≤ maxLen) :
    Calls Try.prog 92 #[r.v A c, .int .i64 n] w fun e w' => e = .returned (.int .i64 (r.chk n)) ∧ Below w.heap.size w w' := by
  have hv0 := fun W => name_any r.name W hn
  have _ := hl
  have hc0 := fun (hl : r.prof.length < 1000000000) W (h : RInts W A r.prof) => contains_any A c r.prof W h hl
  have hA := Lib.hid hA0
  simp only [Ld.v]
  cases hname : nameOk r.name
  · have hz := Lib.hid (Ld.chk_name (n := n) hname)
    rw [hname] at hv0
    have hv := Lib.hid hv0
    clear hname hv0 hc0 hA0
    go_enter Try.func92, Try.ntmps92
    go_wp2_with fail
    refine (hv.out _).mono ?_
    rintro e w1 ⟨rfl, hb1⟩
    have hS := lds_first (r := r) (A := A) (c := c) hb1
    obtain ⟨z0, z1, z2, z3⟩ := hS.cells
    clear hb1
    go_wp2_with fail
    go_ret
    exact ⟨ret_int hz.out.symm, hS.out⟩
  · rw [hname] at hv0
    have hv := Lib.hid hv0
    by_cases hlim : 1 ≤ r.prof.length ∧ r.prof.length ≤ 24
    · replace hc0 := hc0 (by omega)
      have hlm : r.lim = true := by unfold Ld.lim; rw [decide_eq_true_iff]; exact hlim
      have l1 : ¬ (r.prof.length : Int) < 1 := by omega
      have l2 : ¬ (24 : Int) < (r.prof.length : Int) := by omega
      cases hall : r.prof.all unitOk
      · have hz := Lib.hid (Ld.chk_bad (n := n) hname hlm (.inl hall))
        rw [hall] at hc0
        have hc := Lib.hid hc0
        clear hname hv0 hc0 hA0 hlim hlm hall
        go_enter Try.func92, Try.ntmps92
        go_wp2_with fail
        refine (hv.out _).mono ?_
        rintro e w1 ⟨rfl, hb1⟩
        have hS := lds_first (r := r) (A := A) (c := c) hb1
        obtain ⟨z0, z1, z2, z3⟩ := hS.cells
        clear hb1
        go_wp2_with fail
        refine (hc.out _ (hA.out.below hS.out)).mono ?_
        rintro e w2 ⟨rfl, rfl⟩
        go_wp2_with fail
        go_ret
        exact ⟨ret_int hz.out.symm, hS.out⟩
      · rw [hall] at hc0
        have hc := Lib.hid hc0
        have hcs : (r.span n = false ∧ n < 1) ∨ (r.span n = false ∧ ¬ n < 1 ∧ 96 < n) ∨ (r.span n = false ∧ ¬ n < 1 ∧ ¬ 96 < n ∧ r.early < 0) ∨ (r.span n = false ∧ ¬ n < 1 ∧ ¬ 96 < n ∧ ¬ r.early < 0 ∧ n < r.late) ∨
            (r.span n = false ∧ ¬ n < 1 ∧ ¬ 96 < n ∧ ¬ r.early < 0 ∧ ¬ n < r.late ∧ r.late < r.early) ∨ (r.span n = false ∧ ¬ n < 1 ∧ ¬ 96 < n ∧ ¬ r.early < 0 ∧ ¬ n < r.late ∧ ¬ r.late < r.early ∧ r.late - r.early < (r.prof.length : Int)) ∨
            (r.span n = true ∧ ¬ n < 1 ∧ ¬ 96 < n ∧ ¬ r.early < 0 ∧ ¬ n < r.late ∧ ¬ r.late < r.early ∧ ¬ r.late - r.early < (r.prof.length : Int)) := by
          simp only [Ld.span, decide_eq_true_iff, decide_eq_false_iff_not]; omega
        rcases hcs with ⟨hs, q1⟩ | ⟨hs, q1, q2⟩ | ⟨hs, q1, q2, q3⟩ | ⟨hs, q1, q2, q3, q4⟩ | ⟨hs, q1, q2, q3, q4, q5⟩ | ⟨hs, q1, q2, q3, q4, q5, q6⟩ | ⟨hs, q1, q2, q3, q4, q5, q6⟩
        · have hz := Lib.hid (Ld.chk_bad (n := n) hname hlm (.inr hs))
          clear hname hv0 hc0 hA0 hlim hlm hall hs
          go_enter Try.func92, Try.ntmps92
          go_wp2_with fail
          refine (hv.out _).mono ?_
          rintro e w1 ⟨rfl, hb1⟩
          have hS := lds_first (r := r) (A := A) (c := c) hb1
          obtain ⟨z0, z1, z2, z3⟩ := hS.cells
          clear hb1
          go_wp2_with fail
          refine (hc.out _ (hA.out.below hS.out)).mono ?_
          rintro e w2 ⟨rfl, rfl⟩
          go_wp2_with fail
          go_ret
          exact ⟨ret_int hz.out.symm, hS.out⟩
        · have hz := Lib.hid (Ld.chk_bad (n := n) hname hlm (.inr hs))
          clear hname hv0 hc0 hA0 hlim hlm hall hs
          go_enter Try.func92, Try.ntmps92
          go_wp2_with fail
          refine (hv.out _).mono ?_
          rintro e w1 ⟨rfl, hb1⟩
          have hS := lds_first (r := r) (A := A) (c := c) hb1
          obtain ⟨z0, z1, z2, z3⟩ := hS.cells
          clear hb1
          go_wp2_with fail
          refine (hc.out _ (hA.out.below hS.out)).mono ?_
          rintro e w2 ⟨rfl, rfl⟩
          go_wp2_with fail
          go_ret
          exact ⟨ret_int hz.out.symm, hS.out⟩
        · have hz := Lib.hid (Ld.chk_bad (n := n) hname hlm (.inr hs))
          clear hname hv0 hc0 hA0 hlim hlm hall hs
          go_enter Try.func92, Try.ntmps92
          go_wp2_with fail
          refine (hv.out _).mono ?_
          rintro e w1 ⟨rfl, hb1⟩
          have hS := lds_first (r := r) (A := A) (c := c) hb1
          obtain ⟨z0, z1, z2, z3⟩ := hS.cells
          clear hb1
          go_wp2_with fail
          refine (hc.out _ (hA.out.below hS.out)).mono ?_
          rintro e w2 ⟨rfl, rfl⟩
          go_wp2_with fail
          go_ret
          exact ⟨ret_int hz.out.symm, hS.out⟩
        · have hz := Lib.hid (Ld.chk_bad (n := n) hname hlm (.inr hs))
          clear hname hv0 hc0 hA0 hlim hlm hall hs
          go_enter Try.func92, Try.ntmps92
          go_wp2_with fail
          refine (hv.out _).mono ?_
          rintro e w1 ⟨rfl, hb1⟩
          have hS := lds_first (r := r) (A := A) (c := c) hb1
          obtain ⟨z0, z1, z2, z3⟩ := hS.cells
          clear hb1
          go_wp2_with fail
          refine (hc.out _ (hA.out.below hS.out)).mono ?_
          rintro e w2 ⟨rfl, rfl⟩
          go_wp2_with fail
          go_ret
          exact ⟨ret_int hz.out.symm, hS.out⟩
        · have hz := Lib.hid (Ld.chk_bad (n := n) hname hlm (.inr hs))
          clear hname hv0 hc0 hA0 hlim hlm hall hs
          go_enter Try.func92, Try.ntmps92
          go_wp2_with fail
          refine (hv.out _).mono ?_
          rintro e w1 ⟨rfl, hb1⟩
          have hS := lds_first (r := r) (A := A) (c := c) hb1
          obtain ⟨z0, z1, z2, z3⟩ := hS.cells
          clear hb1
          go_wp2_with fail
          refine (hc.out _ (hA.out.below hS.out)).mono ?_
          rintro e w2 ⟨rfl, rfl⟩
          go_wp2_with fail
          go_ret
          exact ⟨ret_int hz.out.symm, hS.out⟩
        · have hz := Lib.hid (Ld.chk_bad (n := n) hname hlm (.inr hs))
          have hw : IntKind.i64.wrap (r.late - r.early) = r.late - r.early := IntWalk.i64_in _ (by omega)
          clear hname hv0 hc0 hA0 hlim hlm hall hs
          go_enter Try.func92, Try.ntmps92
          go_wp2_with fail
          refine (hv.out _).mono ?_
          rintro e w1 ⟨rfl, hb1⟩
          have hS := lds_first (r := r) (A := A) (c := c) hb1
          obtain ⟨z0, z1, z2, z3⟩ := hS.cells
          clear hb1
          go_wp2_with fail
          refine (hc.out _ (hA.out.below hS.out)).mono ?_
          rintro e w2 ⟨rfl, rfl⟩
          go_wp2_with fail
          go_ret
          exact ⟨ret_int hz.out.symm, hS.out⟩
        · have hz := Lib.hid (Ld.chk_ok (n := n) hname hlm hall hs)
          have hw : IntKind.i64.wrap (r.late - r.early) = r.late - r.early := IntWalk.i64_in _ (by omega)
          clear hname hv0 hc0 hA0 hlim hlm hall hs
          go_enter Try.func92, Try.ntmps92
          go_wp2_with fail
          refine (hv.out _).mono ?_
          rintro e w1 ⟨rfl, hb1⟩
          have hS := lds_first (r := r) (A := A) (c := c) hb1
          obtain ⟨z0, z1, z2, z3⟩ := hS.cells
          clear hb1
          go_wp2_with fail
          refine (hc.out _ (hA.out.below hS.out)).mono ?_
          rintro e w2 ⟨rfl, rfl⟩
          go_wp2_with fail
          go_ret
          exact ⟨ret_int hz.out.symm, hS.out⟩
    · have hz := Lib.hid (Ld.chk_lim (n := n) hname (by unfold Ld.lim; rw [decide_eq_false hlim]))
      have hcs : (r.prof.length : Int) < 1 ∨ (¬ (r.prof.length : Int) < 1 ∧ (24 : Int) < (r.prof.length : Int)) := by omega
      clear hname hv0 hc0 hA0 hlim
      rcases hcs with q1 | ⟨q1, q2⟩
      all_goals
        go_enter Try.func92, Try.ntmps92
        go_wp2_with fail
        refine (hv.out _).mono ?_
        rintro e w1 ⟨rfl, hb1⟩
        have hS := lds_first (r := r) (A := A) (c := c) hb1
        obtain ⟨z0, z1, z2, z3⟩ := hS.cells
        clear hb1
        go_wp2_with fail
        go_ret
        exact ⟨ret_int hz.out.symm, hS.out⟩
end Go.Proofs.Ytnppngaabfhkpaa
