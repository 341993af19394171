/-
  The walks of Conflicts (layer 8).
-/
import Derived.Test.YtgflklgjjpokaaaA12
namespace Go.Proofs.Ytgflklgjjpokaaa
open Go.RowKit

set_option maxRecDepth 100000 in
set_option maxHeartbeats 4000000 in
theorem lconf_any (A : Option Addr) (c : Nat) (l : List Cl) (w : World) (hA0 : RCls w A l) (hw : ∀ x ∈ l, x.Wf) :
    Calls Try.prog 20 #[.slice A l.length c] w (IntsOut (confL l) w) := by
  have hA := Lib.hid hA0
  have hk := clcheck_any A c l w hA0 hw
  obtain ⟨i0, hi, hz0, hz1, hz2⟩ := info_parts Try.infoInt
  by_cases h0 : clChk l = 0
  · have hg := clGood h0
    have hcn := Lib.hid (fun W (h : RCls W A l) => lcount_any A c l W h hw (by have := hg.len; omega))
    have e1 : confL l = confTo l 250 := by unfold confL; rw [if_pos h0]
    rw [e1]
    rw [h0] at hk
    have HKc := Lib.hid hk
    have hcl := Lib.hid (confTo_length l)
    have hcy := Lib.hid (fun n => confTo_yes (l := l) (n := n))
    have hcno := Lib.hid (fun (n : Nat) (h : ¬ 1 < countTo l l.length ((n : Int) + 1)) => confTo_no (l := l) (n := n) h)
    clear hA0 hw h0 hg e1 hk
    obtain ⟨m, hm⟩ : ∃ m, m = l.length := ⟨_, rfl⟩
    rw [← hm] at hcn hcy hcno HKc ⊢
    clear hm
    go_enter Try.func20, Try.ntmps20
    go_wp2_with fail
    refine HKc.out.mono ?_
    rintro e w1 ⟨rfl, hb1⟩
    have HB := Lib.hid hb1
    have hcn1 := Lib.hid (hcn.out w1 (hA.out.below hb1))
    clear hb1
    go_wp2_with fail
    refine hcn1.out.mono ?_
    rintro e w2 ⟨rfl, ⟨hmp, hlt0⟩, hb2⟩
    have HM2 := Lib.hid hmp
    have HB2 := Lib.hid (HB.out.trans (hb2.mono HB.out.size))
    have hz1w : w.heap.size ≤ w1.heap.size := HB.out.size
    clear hmp hb2
    go_wp2_with fail
    go_loopw [4, 5] (fun v i' wr => ∃ k : Nat, k ≤ 250 ∧ i' = .int .i64 ((k : Int) + 1) ∧ wr.ownsRow w2.heap.size 3 1 v (confTo l k).length (ints (confTo l k)) ∧ Below w2.heap.size w2 wr)
      (fun _ i' _ => (251 - intOf i').toNat)
    case atStart => exact ⟨0, by omega, rfl, World.ownsRow_nil _ _ _ _, Below.refl _ _⟩
    case round =>
      obtain ⟨k, hk2, rfl, hown0, hBw⟩ := hrel
      have hown := Lib.hid hown0
      have HBw := Lib.hid hBw
      have hmr := Lib.hid (HM2.out.below hBw hlt0)
      have hcl1 := hcl.out k
      have hsz := hBw.size
      clear hown0 hBw
      by_cases hlt : k < 250
      · have hwf := wf_i64 (x := (k : Int) + 1) (by omega)
        have hlk := hmr.out.look_int (t := 51) (r := .i64) Try.underlying3 Try.underlying51 Try.underlying3 (Try.zeroInt _) hwf (v := countTo l m ((k : Int) + 1)) rfl
        clear hwf
        by_cases h1 : 1 < countTo l m ((k : Int) + 1)
        · have hcy1 := Lib.hid (hcy.out k h1)
          generalize countTo l m ((k : Int) + 1) = ct at *
          go_wp2_with (at_builtin; refine wpList_append_new _ _ rfl _ _ 23 rfl w2.heap.size 3 i0 (.int .i64 0) 1 8 Try.underlying23 hi hz0 hz1 hz2 rfl (by decide) (by decide) _ _ _ rfl hown.out #[.int .i64 ((k : Int) + 1)] rfl (one_int _ _) rfl rfl (by omega) (by omega) ?_)
          intro v' w5 hown5 hb5
          have hown6 : Hid (w5.ownsRow w2.heap.size 3 1 v' (confTo l (k + 1)).length (ints (confTo l (k + 1)))) := by
            show World.ownsRow _ _ _ _ _ _ _
            rw [hcy1.out, ints_append, List.length_append]
            exact hown5
          have HB5 := Lib.hid (HBw.out.trans hb5)
          clear hown5 hb5 hlk
          go_wp2_with fail
          go_roundw
          case rel => exact ⟨k + 1, by omega, by go_num, hown6.out, HB5.out⟩
          case measure => simp [intOf]; omega
        · have hcy1 := Lib.hid (hcno.out k (by omega))
          have t1 : decide (1 < countTo l m ((k : Int) + 1)) = false := decide_eq_false h1
          generalize countTo l m ((k : Int) + 1) = ct at *
          go_wp2_with fail
          clear hlk
          go_roundw
          case rel => exact ⟨k + 1, by omega, by go_num, by have h := hcy1.out; rw [h]; exact hown.out, HBw.out⟩
          case measure => simp [intOf]; omega
      · obtain rfl : k = 250 := by omega
        have hfin := Lib.hid (ints_out hown.out (Nat.le_trans HB2.out.size (Nat.le_refl _)) (HB2.out.trans (HBw.out.mono HB2.out.size)))
        go_wp2_with fail
        go_ret
        exact hfin.out
  · have e1 : confL l = [] := by unfold confL; rw [if_neg h0]
    have hne : (clChk l != 0) = true := by simpa using h0
    rw [e1]
    clear hA0 hw e1 h0
    generalize clChk l = ck at *
    have HKc := Lib.hid hk
    clear hk
    go_enter Try.func20, Try.ntmps20
    go_wp2_with fail
    refine HKc.out.mono ?_
    rintro e w1 ⟨rfl, hb1⟩
    have HB := Lib.hid hb1
    clear hb1
    go_wp2_with fail
    go_ret
    exact nil_out HB.out

set_option maxHeartbeats 2000000 in
theorem rcount_any (A : Option Addr) (c : Nat) (l : List Cl) (a : Int) (w : World) (hA0 : RCls w A l) (hl : l.length ≤ 1000) :
    Calls Try.prog 32 #[.slice A l.length c, .int .i64 a] w fun e w' => e = .returned (.int .i64 (countTo l l.length a)) ∧ w = w' := by
  have hA := Lib.hid hA0
  obtain ⟨m, hm⟩ : ∃ m, m = l.length := ⟨_, rfl⟩
  have HM := Lib.hid hm
  rw [← hm] at hl ⊢
  clear hA0 hm
  go_enter Try.func32, Try.ntmps32
  go_wp2_with fail
  go_loopw [5, 6] (fun n' i' wr => ∃ k : Nat, k ≤ m ∧ i' = .int .i64 k ∧ n' = .int .i64 (countTo l k a) ∧ w = wr)
    (fun _ i' _ => m - (intOf i').toNat)
  case atStart => exact ⟨0, by omega, rfl, by rw [countTo_zero], rfl⟩
  case round =>
    obtain ⟨k, hkm, rfl, rfl, rfl⟩ := hrel
    have hcb := countTo_bd l k a
    by_cases hlt : k < m
    · have hkl : k < l.length := by rw [← HM.out]; exact hlt
      obtain ⟨b, of, hAe, hb, z0, z1, z2⟩ := hA.out.at' hkl
      subst hAe
      have hcs := Lib.hid (countTo_succ hkl a)
      generalize l[k] = x at *
      by_cases hx : x.addr = a
      · have hnx : Hid (countTo l (k + 1) a = countTo l k a + 1) := by show _ = _; rw [hcs.out, if_pos hx.symm]
        have t1 : (x.addr == a) = true := by simpa using hx
        clear hx hcs
        generalize countTo l k a = ct at *
        go_wp2_with fail
        go_roundw
        case rel => exact ⟨k + 1, by omega, by go_num, by rw [hnx.out], trivial⟩
        case measure => simp [intOf]; omega
      · have hnx : Hid (countTo l (k + 1) a = countTo l k a) := by show _ = _; rw [hcs.out, if_neg fun e => hx e.symm]
        have t1 : (x.addr == a) = false := by simpa using hx
        clear hx hcs
        generalize countTo l k a = ct at *
        go_wp2_with fail
        go_roundw
        case rel => exact ⟨k + 1, by omega, by go_num, by rw [hnx.out], trivial⟩
        case measure => simp [intOf]; omega
    · obtain rfl : k = m := by omega
      go_wp2_with fail
      go_ret
      exact ⟨rfl, rfl⟩

set_option maxRecDepth 100000 in
set_option maxHeartbeats 4000000 in
theorem rlconf_any (A : Option Addr) (c : Nat) (l : List Cl) (w : World) (hA0 : RCls w A l) (hw : ∀ x ∈ l, x.Wf) :
    Calls Try.prog 21 #[.slice A l.length c] w (IntsOut (confL l) w) := by
  have hA := Lib.hid hA0
  have hk := rclcheck_any A c l w hA0 hw
  obtain ⟨i0, hi, hz0, hz1, hz2⟩ := info_parts Try.infoInt
  by_cases h0 : clChk l = 0
  · have hg := clGood h0
    have hcn := Lib.hid (fun a W (h : RCls W A l) => rcount_any A c l a W h (by have := hg.len; omega))
    have e1 : confL l = confTo l 250 := by unfold confL; rw [if_pos h0]
    rw [e1]
    rw [h0] at hk
    have HKc := Lib.hid hk
    have hcl := Lib.hid (confTo_length l)
    have hcy := Lib.hid (fun n => confTo_yes (l := l) (n := n))
    have hcno := Lib.hid (fun (n : Nat) (h : ¬ 1 < countTo l l.length ((n : Int) + 1)) => confTo_no (l := l) (n := n) h)
    clear hA0 hw h0 hg e1 hk
    obtain ⟨m, hm⟩ : ∃ m, m = l.length := ⟨_, rfl⟩
    rw [← hm] at hcn hcy hcno HKc ⊢
    clear hm
    go_enter Try.func21, Try.ntmps21
    go_wp2_with fail
    refine HKc.out.mono ?_
    rintro e w2 ⟨rfl, hb1⟩
    have HB2 := Lib.hid hb1
    clear hb1
    go_wp2_with fail
    go_loopw [3, 4] (fun v i' wr => ∃ k : Nat, k ≤ 250 ∧ i' = .int .i64 ((k : Int) + 1) ∧ wr.ownsRow w2.heap.size 3 1 v (confTo l k).length (ints (confTo l k)) ∧ Below w2.heap.size w2 wr)
      (fun _ i' _ => (251 - intOf i').toNat)
    case atStart => exact ⟨0, by omega, rfl, World.ownsRow_nil _ _ _ _, Below.refl _ _⟩
    case round =>
      obtain ⟨k, hk2, rfl, hown0, hBw⟩ := hrel
      have hown := Lib.hid hown0
      have HBw := Lib.hid hBw
      have hcl1 := hcl.out k
      have hsz := hBw.size
      have hcnk := Lib.hid (hcn.out ((k : Int) + 1) wr (hA.out.below (HB2.out.trans (hBw.mono HB2.out.size))))
      clear hown0 hBw
      by_cases hlt : k < 250
      · by_cases h1 : 1 < countTo l m ((k : Int) + 1)
        · have hcy1 := Lib.hid (hcy.out k h1)
          generalize countTo l m ((k : Int) + 1) = ct at *
          go_wp2_with fail
          refine hcnk.out.mono ?_
          rintro e' w3 ⟨rfl, rfl⟩
          go_wp2_with (at_builtin; refine wpList_append_new _ _ rfl _ _ 23 rfl w2.heap.size 3 i0 (.int .i64 0) 1 8 Try.underlying23 hi hz0 hz1 hz2 rfl (by decide) (by decide) _ _ _ rfl hown.out #[.int .i64 ((k : Int) + 1)] rfl (one_int _ _) rfl rfl (by omega) (by omega) ?_)
          intro v' w5 hown5 hb5
          have hown6 : Hid (w5.ownsRow w2.heap.size 3 1 v' (confTo l (k + 1)).length (ints (confTo l (k + 1)))) := by
            show World.ownsRow _ _ _ _ _ _ _
            rw [hcy1.out, ints_append, List.length_append]
            exact hown5
          have HB5 := Lib.hid (HBw.out.trans hb5)
          clear hown5 hb5
          go_wp2_with fail
          go_roundw
          case rel => exact ⟨k + 1, by omega, by go_num, hown6.out, HB5.out⟩
          case measure => simp [intOf]; omega
        · have hcy1 := Lib.hid (hcno.out k (by omega))
          have t1 : decide (1 < countTo l m ((k : Int) + 1)) = false := decide_eq_false h1
          generalize countTo l m ((k : Int) + 1) = ct at *
          go_wp2_with fail
          refine hcnk.out.mono ?_
          rintro e' w3 ⟨rfl, rfl⟩
          go_wp2_with fail
          go_roundw
          case rel => exact ⟨k + 1, by omega, by go_num, by have h := hcy1.out; rw [h]; exact hown.out, HBw.out⟩
          case measure => simp [intOf]; omega
      · obtain rfl : k = 250 := by omega
        have hfin := Lib.hid (ints_out hown.out HB2.out.size (HB2.out.trans (HBw.out.mono HB2.out.size)))
        go_wp2_with fail
        go_ret
        exact hfin.out
  · have e1 : confL l = [] := by unfold confL; rw [if_neg h0]
    have hne : (clChk l != 0) = true := by simpa using h0
    rw [e1]
    clear hA0 hw e1 h0
    generalize clChk l = ck at *
    have HKc := Lib.hid hk
    clear hk
    go_enter Try.func21, Try.ntmps21
    go_wp2_with fail
    refine HKc.out.mono ?_
    rintro e w1 ⟨rfl, hb1⟩
    have HB := Lib.hid hb1
    clear hb1
    go_wp2_with fail
    go_ret
    exact nil_out HB.out
end Go.Proofs.Ytgflklgjjpokaaa
