/-
  The walks of layer 41 (load), part 8: Fit, Energy.
-/
import Derived.Test.YtnibhdpgjmdkeaaL9
namespace Go.Proofs.Ytnibhdpgjmdkeaa
open Go.RowKit

set_option maxHeartbeats 2000000 in
theorem lfit_any (r : Ld) (A : Option Addr) (c : Nat) (s n : Int) (w : World) (hA0 : RInts w A r.prof) (hn : r.name.size ≤ maxLen) (hl : r.prof.length < 1000000000) :
    Calls Try.prog 14 #[r.v A c, .int .i64 s, .int .i64 n] w fun e w' => e = .returned (.bool (r.fit s n)) ∧ Below w.heap.size w w' := by
  have hk := Lib.hid (fun W (h : RInts W A r.prof) => lcheck_any r A c n W h hn hl)
  have hA := Lib.hid hA0
  simp only [Ld.v] at hk ⊢
  by_cases hc : r.chk n = 0
  · have hg := Lib.hid (Ld.good hc)
    have hz : Hid (r.fit s n = (decide (r.early ≤ s) && decide (s ≤ r.late - (r.prof.length : Int)))) := by show _ = _; unfold Ld.fit; rw [decide_eq_true hc, Bool.true_and]
    rw [hc] at hk
    clear hc hA0
    obtain ⟨n0, n1, e0, l1, el, p, p0, p1, _, _⟩ := hg.out
    by_cases h1 : r.early ≤ s
    · rw [decide_eq_true h1, Bool.true_and] at hz
      go_enter Try.func14, Try.ntmps14
      go_wp2_with fail
      refine (hk.out _ (hA.out.alloc _)).mono ?_
      rintro e w1 ⟨rfl, hb1⟩
      have hS := lds_first (r := r) (A := A) (c := c) hb1
      obtain ⟨z0, z1, z2, z3⟩ := hS.cells
      clear hb1
      go_wp2_with fail
      go_ret
      exact ⟨ret_bool hz.out.symm, hS.out⟩
    · rw [decide_eq_false h1, Bool.false_and] at hz
      have h1' : decide (r.early ≤ s) = false := decide_eq_false h1
      go_enter Try.func14, Try.ntmps14
      go_wp2_with fail
      refine (hk.out _ (hA.out.alloc _)).mono ?_
      rintro e w1 ⟨rfl, hb1⟩
      have hS := lds_first (r := r) (A := A) (c := c) hb1
      obtain ⟨z0, z1, z2, z3⟩ := hS.cells
      clear hb1
      go_wp2_with fail
      go_ret
      exact ⟨ret_bool hz.out.symm, hS.out⟩
  · have hz := Lib.hid (Ld.fit_no (s := s) hc)
    have hne : (r.chk n == 0) = false := by simpa using hc
    clear hA0 hc
    generalize r.chk n = k at *
    go_enter Try.func14, Try.ntmps14
    go_wp2_with fail
    refine (hk.out _ (hA.out.alloc _)).mono ?_
    rintro e w1 ⟨rfl, hb1⟩
    have hS := lds_first (r := r) (A := A) (c := c) hb1
    obtain ⟨z0, z1, z2, z3⟩ := hS.cells
    clear hb1
    go_wp2_with fail
    go_ret
    exact ⟨ret_bool hz.out.symm, hS.out⟩

theorem starts_len (r : Ld) (n : Int) : (r.starts n).length ≤ 97 := by
  unfold Ld.starts
  split
  · rename_i h
    have g := Ld.good h
    have := g.e0; have := g.l1; have := g.n1
    rw [seqFrom_length]
    unfold Ld.cnt
    omega
  · simp
theorem mem_take_succ {l : List Int} {k : Nat} {x : Int} (hk : k < l.length) (h : x ∉ l.take k) (hx : l[k] ≠ x) : x ∉ l.take (k + 1) := by
  rw [List.take_succ_eq_append_getElem hk, List.mem_append]
  rintro (h1 | h1)
  · exact h h1
  · exact hx (by simpa using h1 : x = l[k]).symm

set_option maxHeartbeats 2000000 in
theorem rlfit_any (r : Ld) (A : Option Addr) (c : Nat) (s n : Int) (w : World) (hA0 : RInts w A r.prof) (hn : r.name.size ≤ maxLen) :
    Calls Try.prog 15 #[r.v A c, .int .i64 s, .int .i64 n] w fun e w' => e = .returned (.bool (r.fit s n)) ∧ Below w.heap.size w w' := by
  have hk := Lib.hid (fun W (h : RInts W A r.prof) => rlstarts_any r A c n W h hn)
  have hA := Lib.hid hA0
  have hl := starts_len r n
  rw [Ld.fit_mem]
  simp only [Ld.v] at hk ⊢
  generalize r.starts n = L at *
  clear hA0
  obtain ⟨m, hm⟩ : ∃ m, m = L.length := ⟨_, rfl⟩
  have HM := Lib.hid hm
  rw [← hm] at hl
  clear hm
  go_enter Try.func15, Try.ntmps15
  go_wp2_with fail
  refine (hk.out _ (hA.out.alloc _)).mono ?_
  rintro e w1 ⟨A1, c1, rfl, hr1, _, hb1⟩
  rw [← HM.out]
  have hS := lds_first (r := r) (A := A) (c := c) hb1
  have HR := Lib.hid hr1
  clear hb1 hr1
  go_wp2_with fail
  go_loopw [8] (fun i' wr => ∃ k : Nat, k ≤ m ∧ i' = .int .i64 k ∧ Hid (s ∉ L.take k) ∧ w1 = wr)
    (fun i' _ => m - (intOf i').toNat)
  case atStart => exact ⟨0, by omega, rfl, by show ¬ _; simp, rfl⟩
  case round =>
    obtain ⟨k, hkm, rfl, hno, rfl⟩ := hrel
    by_cases hlt : k < m
    · have hkl : k < L.length := by rw [← HM.out]; exact hlt
      obtain ⟨b, of, hAe, hb, hcell⟩ := HR.out.at' hkl
      subst hAe
      by_cases hx : L[k] = s
      · have hin : Hid (decide (s ∈ L) = true) := by show _ = _; rw [decide_eq_true_iff, ← hx]; exact List.getElem_mem hkl
        rw [hx] at hcell
        clear hx
        go_wp2_with fail
        go_ret
        exact ⟨ret_bool hin.out.symm, hS.out⟩
      · have hno' : Hid (s ∉ L.take (k + 1)) := mem_take_succ hkl hno.out hx
        have hx' : (L[k] == s) = false := by simpa using hx
        generalize L[k] = x at *
        clear hno hx
        go_wp2_with fail
        go_roundw
        case rel => exact ⟨k + 1, by omega, by go_num, hno', trivial⟩
        case measure => simp [intOf]; omega
    · have hout : Hid (decide (s ∈ L) = false) := by
        show _ = _
        have h := hno.out
        rw [List.take_of_length_le (by rw [← HM.out]; omega)] at h
        rw [decide_eq_false_iff_not]; exact h
      clear hno
      go_wp2_with fail
      go_ret
      exact ⟨ret_bool hout.out.symm, hS.out⟩

set_option maxHeartbeats 2000000 in
theorem lenergy_any (r : Ld) (A : Option Addr) (c : Nat) (w : World) (hA0 : RInts w A r.prof) (hl : r.prof.length < 1000000000) :
    Calls Try.prog 20 #[r.v A c] w fun e w' => e = .returned (.int .i64 r.energy) ∧ Below w.heap.size w w' := by
  have hB := Lib.hid (ld_alloc r A c w)
  have hA := Lib.hid hA0
  have hfin := Lib.hid (enTo_all r)
  simp only [Ld.v]
  obtain ⟨n, hn⟩ : ∃ n, n = r.prof.length := ⟨_, rfl⟩
  rw [← hn] at hl hB hfin ⊢
  have HN := Lib.hid hn
  clear hA0 hn
  go_enter Try.func20, Try.ntmps20
  go_wp2_with fail
  go_loopw [3, 5, 9] (fun s' _ i' wr => ∃ k : Nat, k ≤ n ∧ i' = .int .i64 k ∧ s' = .int .i64 (enTo r.prof k) ∧ wr = w.alloc (.cells #[.string r.name, .slice A n c, .int .i64 r.early, .int .i64 r.late] 24))
    (fun s' _ i' _ => n - (intOf i').toNat)
  case atStart => exact ⟨0, by omega, rfl, rfl, rfl⟩
  case round =>
    obtain ⟨k, hkm, rfl, rfl, rfl⟩ := hrel
    have hbd := enTo_bd r.prof k
    by_cases hlt : k < n
    · have hkl : k < r.prof.length := by rw [← HN.out]; exact hlt
      obtain ⟨b, of, hAe, hb, hcell⟩ := (hA.out.alloc (.cells #[.string r.name, .slice A n c, .int .i64 r.early, .int .i64 r.late] 24)).at' hkl
      subst hAe
      have hsu := Lib.hid (enTo_succ hkl)
      have hub := unitZ_bd r.prof[k]
      have hu := Lib.hid (units_any r.prof[k])
      generalize r.prof[k] = x at *
      generalize unitZ x = u at *
      generalize enTo r.prof k = sm at *
      go_wp2_with fail
      refine (hu.out _).mono ?_
      rintro e w1 ⟨rfl, rfl⟩
      go_wp2_with fail
      go_roundw
      case rel => exact ⟨k + 1, by omega, by go_num, by rw [hsu.out], trivial⟩
      case measure => simp [intOf]; omega
    · have hz : Hid (enTo r.prof k = r.energy) := by show _ = _; rw [← hfin.out]; congr 1; omega
      go_wp2_with fail
      go_ret
      exact ⟨ret_int hz.out, hB.out⟩

set_option maxHeartbeats 2000000 in
theorem rlenergy_any (r : Ld) (A : Option Addr) (c : Nat) (w : World) (hA0 : RInts w A r.prof) (hl : r.prof.length < 1000000000) :
    Calls Try.prog 21 #[r.v A c] w fun e w' => e = .returned (.int .i64 r.energy) ∧ Below w.heap.size w w' := by
  have hB := Lib.hid (ld_alloc r A c w)
  have hA := Lib.hid hA0
  have hfin := Lib.hid (enTo_all r)
  simp only [Ld.v]
  obtain ⟨n, hn⟩ : ∃ n, n = r.prof.length := ⟨_, rfl⟩
  rw [← hn] at hl hB hfin ⊢
  have HN := Lib.hid hn
  clear hA0 hn
  go_enter Try.func21, Try.ntmps21
  go_wp2_with fail
  go_loopw [3, 4] (fun s' i' wr => ∃ k : Nat, k ≤ n ∧ i' = .int .i64 k ∧ s' = .int .i64 (enTo r.prof k) ∧ wr = w.alloc (.cells #[.string r.name, .slice A n c, .int .i64 r.early, .int .i64 r.late] 24))
    (fun s' i' _ => n - (intOf i').toNat)
  case atStart => exact ⟨0, by omega, rfl, rfl, rfl⟩
  case round =>
    obtain ⟨k, hkm, rfl, rfl, rfl⟩ := hrel
    have hbd := enTo_bd r.prof k
    by_cases hlt : k < n
    · have hkl : k < r.prof.length := by rw [← HN.out]; exact hlt
      obtain ⟨b, of, hAe, hb, hcell⟩ := (hA.out.alloc (.cells #[.string r.name, .slice A n c, .int .i64 r.early, .int .i64 r.late] 24)).at' hkl
      subst hAe
      have hsu := Lib.hid (enTo_succ hkl)
      have hub := unitZ_bd r.prof[k]
      have hu := Lib.hid (unit_any r.prof[k])
      generalize r.prof[k] = x at *
      generalize unitZ x = u at *
      generalize enTo r.prof k = sm at *
      go_wp2_with fail
      refine (hu.out _).mono ?_
      rintro e w1 ⟨rfl, rfl⟩
      go_wp2_with fail
      go_roundw
      case rel => exact ⟨k + 1, by omega, by go_num, by rw [hsu.out], trivial⟩
      case measure => simp [intOf]; omega
    · have hz : Hid (enTo r.prof k = r.energy) := by show _ = _; rw [← hfin.out]; congr 1; omega
      go_wp2_with fail
      go_ret
      exact ⟨ret_int hz.out, hB.out⟩
end Go.Proofs.Ytnibhdpgjmdkeaa
