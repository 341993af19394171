/-
  The walks of layer 41 (load), part 6: Starts.
-/
import Derived.Test.YtnibhdpgjmdkeaaL7
import Derived.Test.YtnibhdpgjmdkeaaLP3
namespace Go.Proofs.Ytnibhdpgjmdkeaa
open Go.RowKit

theorem Try.infoInt : (Try.prog.info? 3).map (fun i => (i.zero, i.size, i.bytes)) = some (some (.int .i64 0), 1, 8) := by kernel_rfl

set_option maxHeartbeats 4000000 in
theorem lstarts_any (r : Ld) (A : Option Addr) (c : Nat) (n : Int) (w : World) (hA0 : RInts w A r.prof) (hn : r.name.size ≤ maxLen) (hl : r.prof.length < 1000000000) :
    Calls Try.prog 12 #[r.v A c, .int .i64 n] w (IntsOut (r.starts n) w) := by
  have hk := Lib.hid (fun W (h : RInts W A r.prof) => lcheck_any r A c n W h hn hl)
  have hA := Lib.hid hA0
  simp only [Ld.v] at hk ⊢
  obtain ⟨i0, hi, hz0, hz1, hz2⟩ := info_parts Try.infoInt
  by_cases hc : r.chk n = 0
  · have hg := Lib.hid (Ld.good hc)
    have hst : Hid (r.starts n = seqFrom r.early r.cnt) := by show _ = _; unfold Ld.starts; rw [if_pos hc]
    have hcnt : Hid (r.cnt = (r.late - (r.prof.length : Int) - r.early + 1).toNat) := rfl
    rw [hc] at hk
    rw [hst.out]
    generalize r.cnt = N at *
    clear hc hA0 hst
    obtain ⟨n0, n1, e0, l1, el, p, p0, p1, _, _⟩ := hg.out
    go_enter Try.func12, Try.ntmps12
    go_wp2_with fail
    refine (hk.out _ (hA.out.alloc _)).mono ?_
    rintro e w1 ⟨rfl, hb1⟩
    have hS := lds_first (r := r) (A := A) (c := c) hb1
    obtain ⟨z0, z1, z2, z3⟩ := hS.cells
    have hsz := hS.size
    clear hb1
    go_wp2_with fail
    clear z0 z1 z2 z3
    go_loopw [5, 6] (fun o i' wr => ∃ k : Nat, k ≤ N ∧ i' = .int .i64 (r.early + (k : Int)) ∧ wr.ownsRow (w.heap.size + 1) 3 1 o k (ints (seqFrom r.early k)) ∧ LdS r A c w wr)
      (fun _ i' _ => (r.early + (N : Int) - intOf i').toNat)
    case atStart => exact ⟨0, by omega, by simp, World.ownsRow_nil _ _ _ _, hS⟩
    case round =>
      obtain ⟨k, hkN, rfl, hown, hS'⟩ := hrel
      obtain ⟨z0, z1, z2, z3⟩ := hS'.cells
      have hsz' := hS'.size
      have hN := hcnt.out
      by_cases hlt : k < N
      · have t1 : r.early + (k : Int) + (r.prof.length : Int) ≤ r.late := by omega
        go_wp2_with (at_builtin; refine wpList_append_new _ _ rfl _ _ 22 rfl (w.heap.size + 1) 3 i0 (.int .i64 0) 1 8 Try.underlying22 hi hz0 hz1 hz2 rfl (by decide) (by decide) _ _ _ rfl hown #[.int .i64 (r.early + (k : Int))] rfl (one_int _ _) rfl rfl (by omega) (by omega) ?_)
        intro v' w5 hown5 hb5
        clear hown z0 z1 z2 z3
        go_wp2
        go_roundw
        case rel => exact ⟨k + 1, by omega, by congr 1; omega, by rw [seqFrom_succ, ints_append]; exact hown5, Below.trans hS' hb5⟩
        case measure => simp [intOf]; omega
      · have t1 : decide (r.early + (k : Int) + (r.prof.length : Int) ≤ r.late) = false := by rw [decide_eq_false_iff_not]; omega
        have t2 : IntKind.i64.wrap (r.early + (k : Int) + (r.prof.length : Int)) = r.early + (k : Int) + (r.prof.length : Int) := IntWalk.i64_in _ (by omega)
        obtain rfl : k = N := by omega
        have hfin : Hid (IntsOut (seqFrom r.early k) w (.returned u5) wr) := ints_out hown (Nat.le_succ _) hS'.out
        clear hN hown hcnt
        go_wp2_with fail
        go_ret
        exact hfin.out
  · have hst : Hid (r.starts n = []) := by show _ = _; unfold Ld.starts; rw [if_neg hc]
    have hne : (r.chk n != 0) = true := by simpa using hc
    rw [hst.out]
    clear hst hA0 hc
    generalize r.chk n = k at *
    go_enter Try.func12, Try.ntmps12
    go_wp2_with fail
    refine (hk.out _ (hA.out.alloc _)).mono ?_
    rintro e w1 ⟨rfl, hb1⟩
    have hS := lds_first (r := r) (A := A) (c := c) hb1
    go_wp2_with fail
    go_ret
    exact nil_out hS.out

set_option maxHeartbeats 4000000 in
theorem rlstarts_any (r : Ld) (A : Option Addr) (c : Nat) (n : Int) (w : World) (hA0 : RInts w A r.prof) (hn : r.name.size ≤ maxLen) :
    Calls Try.prog 13 #[r.v A c, .int .i64 n] w (IntsOut (r.starts n) w) := by
  have hk := Lib.hid (fun W (h : RInts W A r.prof) => rlcheck_any r A c n W h hn)
  have hA := Lib.hid hA0
  simp only [Ld.v] at hk ⊢
  obtain ⟨i0, hi, hz0, hz1, hz2⟩ := info_parts Try.infoInt
  by_cases hc : r.chk n = 0
  · have hg := Lib.hid (Ld.good hc)
    have hst : Hid (r.starts n = seqFrom r.early r.cnt) := by show _ = _; unfold Ld.starts; rw [if_pos hc]
    have hcnt : Hid (r.cnt = (r.late - (r.prof.length : Int) - r.early + 1).toNat) := rfl
    rw [hc] at hk
    rw [hst.out]
    generalize r.cnt = N at *
    clear hc hA0 hst
    obtain ⟨n0, n1, e0, l1, el, p, p0, p1, _, _⟩ := hg.out
    go_enter Try.func13, Try.ntmps13
    go_wp2_with fail
    refine (hk.out _ (hA.out.alloc _)).mono ?_
    rintro e w1 ⟨rfl, hb1⟩
    have hS := lds_first (r := r) (A := A) (c := c) hb1
    obtain ⟨z0, z1, z2, z3⟩ := hS.cells
    have hsz := hS.size
    clear hb1
    go_wp2_with fail
    clear z0 z1 z2 z3
    go_loopw [5, 6] (fun o i' wr => ∃ k : Nat, k ≤ N ∧ i' = .int .i64 (r.early + (k : Int)) ∧ wr.ownsRow (w.heap.size + 1) 3 1 o k (ints (seqFrom r.early k)) ∧ LdS r A c w wr)
      (fun _ i' _ => (r.early + (N : Int) - intOf i').toNat)
    case atStart => exact ⟨0, by omega, by simp, World.ownsRow_nil _ _ _ _, hS⟩
    case round =>
      obtain ⟨k, hkN, rfl, hown, hS'⟩ := hrel
      obtain ⟨z0, z1, z2, z3⟩ := hS'.cells
      have hsz' := hS'.size
      have hN := hcnt.out
      by_cases hlt : k < N
      · have t1 : r.early + (k : Int) + (r.prof.length : Int) ≤ r.late := by omega
        go_wp2_with (at_builtin; refine wpList_append_new _ _ rfl _ _ 22 rfl (w.heap.size + 1) 3 i0 (.int .i64 0) 1 8 Try.underlying22 hi hz0 hz1 hz2 rfl (by decide) (by decide) _ _ _ rfl hown #[.int .i64 (r.early + (k : Int))] rfl (one_int _ _) rfl rfl (by omega) (by omega) ?_)
        intro v' w5 hown5 hb5
        clear hown z0 z1 z2 z3
        go_wp2
        go_roundw
        case rel => exact ⟨k + 1, by omega, by congr 1; omega, by rw [seqFrom_succ, ints_append]; exact hown5, Below.trans hS' hb5⟩
        case measure => simp [intOf]; omega
      · have t1 : decide (r.early + (k : Int) + (r.prof.length : Int) ≤ r.late) = false := by rw [decide_eq_false_iff_not]; omega
        have t2 : IntKind.i64.wrap (r.early + (k : Int) + (r.prof.length : Int)) = r.early + (k : Int) + (r.prof.length : Int) := IntWalk.i64_in _ (by omega)
        obtain rfl : k = N := by omega
        have hfin : Hid (IntsOut (seqFrom r.early k) w (.returned u5) wr) := ints_out hown (Nat.le_succ _) hS'.out
        clear hN hown hcnt
        go_wp2_with fail
        go_ret
        exact hfin.out
  · have hst : Hid (r.starts n = []) := by show _ = _; unfold Ld.starts; rw [if_neg hc]
    have hne : (r.chk n != 0) = true := by simpa using hc
    rw [hst.out]
    clear hst hA0 hc
    generalize r.chk n = k at *
    go_enter Try.func13, Try.ntmps13
    go_wp2_with fail
    refine (hk.out _ (hA.out.alloc _)).mono ?_
    rintro e w1 ⟨rfl, hb1⟩
    have hS := lds_first (r := r) (A := A) (c := c) hb1
    go_wp2_with fail
    go_ret
    exact nil_out hS.out
end Go.Proofs.Ytnibhdpgjmdkeaa
