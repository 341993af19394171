/-
  The walks of Round, count, Conflicts (layer 8).
-/
import Derived.Test.YtgflklgjjpokaaaA11
import Derived.Test.YtgflklgjjpokaaaAP7
namespace Go.Proofs.Ytgflklgjjpokaaa
open Go.RowKit

theorem Try.zeroInt (w : World) : (zeroValue 3).run Try.prog w = .ok (.int .i64 0) w := by kernel_rfl
theorem Try.infoInt : (Try.prog.info? 3).map (fun i => (i.zero, i.size, i.bytes)) = some (some (.int .i64 0), 1, 8) := by kernel_rfl

set_option maxHeartbeats 1000000 in
theorem lRound_any (A : Option Addr) (c : Nat) (l : List Cl) (w : World) (hA0 : RCls w A l) (hw : ∀ x ∈ l, x.Wf) :
    Calls Try.prog 15 #[.slice A l.length c] w (ClOut (rndL l) (rndN l) w) := by
  have hA := Lib.hid hA0
  have hk := clcheck_any A c l w hA0 hw
  by_cases h0 : clChk l = 0
  · have hg := clGood h0
    have hr := Lib.hid (fun W (h : RCls W A l) => lround_any A c l W h hw hg.tries (by have := hg.len; omega))
    have e1 : rndL l = roundL l := by unfold rndL; rw [if_pos h0]
    have e2 : rndN l = roundN l l.length := by unfold rndN; rw [if_pos h0]
    rw [e1, e2]
    rw [h0] at hk
    have HKc := Lib.hid hk
    clear hA0 hw h0 hg e1 e2 hk
    generalize roundN l l.length = rn at *
    generalize l.length = m at *
    go_enter Try.func15, Try.ntmps15
    go_wp2_with fail
    refine HKc.out.mono ?_
    rintro e w1 ⟨rfl, hb1⟩
    have HB := Lib.hid hb1
    have hr1 := Lib.hid (hr.out w1 (hA.out.below hb1))
    clear hb1
    go_wp2_with fail
    refine hr1.out.mono ?_
    rintro e w2 ⟨A2, c2, rfl, hq, hf, hb2⟩
    have hfin : Hid (ClOut (roundL l) rn w (.returned (.tuple #[.slice A2 (roundL l).length c2, .int .i64 rn])) w2) := ⟨A2, c2, rfl, hq, fun ad e => Nat.le_trans HB.out.size (hf ad e), HB.out.trans (hb2.mono HB.out.size)⟩
    clear hq hf hb2
    go_wp2_with fail
    go_ret2
    exact hfin.out
  · have e1 : rndL l = [] := by unfold rndL; rw [if_neg h0]
    have e2 : rndN l = 0 := by unfold rndN; rw [if_neg h0]
    have hne : (clChk l != 0) = true := by simpa using h0
    rw [e1, e2]
    clear hA0 hw e1 e2 h0
    generalize clChk l = ck at *
    have HKc := Lib.hid hk
    clear hk
    go_enter Try.func15, Try.ntmps15
    go_wp2_with fail
    refine HKc.out.mono ?_
    rintro e w1 ⟨rfl, hb1⟩
    have HB := Lib.hid hb1
    clear hb1
    go_wp2_with fail
    go_ret2
    exact ⟨none, 0, rfl, RCls.nil, (fun _ h => by cases h), HB.out⟩

set_option maxHeartbeats 1000000 in
theorem rlRound_any (A : Option Addr) (c : Nat) (l : List Cl) (w : World) (hA0 : RCls w A l) (hw : ∀ x ∈ l, x.Wf) :
    Calls Try.prog 16 #[.slice A l.length c] w (ClOut (rndL l) (rndN l) w) := by
  have hA := Lib.hid hA0
  have hk := rclcheck_any A c l w hA0 hw
  by_cases h0 : clChk l = 0
  · have hg := clGood h0
    have hr := Lib.hid (fun W (h : RCls W A l) => rlround_any A c l W h hw hg.tries (by have := hg.len; omega))
    have e1 : rndL l = roundL l := by unfold rndL; rw [if_pos h0]
    have e2 : rndN l = roundN l l.length := by unfold rndN; rw [if_pos h0]
    rw [e1, e2]
    rw [h0] at hk
    have HKc := Lib.hid hk
    clear hA0 hw h0 hg e1 e2 hk
    generalize roundN l l.length = rn at *
    generalize l.length = m at *
    go_enter Try.func16, Try.ntmps16
    go_wp2_with fail
    refine HKc.out.mono ?_
    rintro e w1 ⟨rfl, hb1⟩
    have HB := Lib.hid hb1
    have hr1 := Lib.hid (hr.out w1 (hA.out.below hb1))
    clear hb1
    go_wp2_with fail
    refine hr1.out.mono ?_
    rintro e w2 ⟨A2, c2, rfl, hq, hf, hb2⟩
    have hfin : Hid (ClOut (roundL l) rn w (.returned (.tuple #[.slice A2 (roundL l).length c2, .int .i64 rn])) w2) := ⟨A2, c2, rfl, hq, fun ad e => Nat.le_trans HB.out.size (hf ad e), HB.out.trans (hb2.mono HB.out.size)⟩
    clear hq hf hb2
    go_wp2_with fail
    go_ret2
    exact hfin.out
  · have e1 : rndL l = [] := by unfold rndL; rw [if_neg h0]
    have e2 : rndN l = 0 := by unfold rndN; rw [if_neg h0]
    have hne : (clChk l != 0) = true := by simpa using h0
    rw [e1, e2]
    clear hA0 hw e1 e2 h0
    generalize clChk l = ck at *
    have HKc := Lib.hid hk
    clear hk
    go_enter Try.func16, Try.ntmps16
    go_wp2_with fail
    refine HKc.out.mono ?_
    rintro e w1 ⟨rfl, hb1⟩
    have HB := Lib.hid hb1
    clear hb1
    go_wp2_with fail
    go_ret2
    exact ⟨none, 0, rfl, RCls.nil, (fun _ h => by cases h), HB.out⟩

set_option maxHeartbeats 4000000 in
theorem lcount_any (A : Option Addr) (c : Nat) (l : List Cl) (w : World) (hA0 : RCls w A l) (hw0 : ∀ x ∈ l, x.Wf) (hl : l.length ≤ 1000) :
    Calls Try.prog 31 #[.slice A l.length c] w fun e w' => e = .returned (.map (some w.heap.size)) ∧ (MapD Try.prog 3 3 .i64 (.int .i64 0) w' w.heap.size l.length (fun y => .int .i64 (countTo l l.length y)) (fun y => seenAt l l.length y) ∧ w.heap.size < w'.heap.size) ∧ Below w.heap.size w w' := by
  have hA := Lib.hid hA0
  have hw := Lib.hid hw0
  have hmm := @run_makeMap Try.prog
  obtain ⟨m, hm⟩ : ∃ m, m = l.length := ⟨_, rfl⟩
  have HM := Lib.hid hm
  rw [← hm] at hl ⊢
  clear hA0 hw0 hm
  go_enter Try.func31, Try.ntmps31
  go_wp2_with fail
  clear hmm
  have hM0 := Lib.hid (MapD.new (P := Try.prog) (kt := 3) (et := 3) (q := .i64) (z := .int .i64 0) w)
  have hB0 : Hid (Below w.heap.size w (w.alloc (.map #[] 0))) := (Below.refl _ _).alloc (Nat.le_refl _) _
  go_loopw [9] (fun i' wr => ∃ k : Nat, k ≤ m ∧ i' = .int .i64 k ∧ MapD Try.prog 3 3 .i64 (.int .i64 0) wr w.heap.size k (fun y => .int .i64 (countTo l k y)) (fun y => seenAt l k y) ∧ Below w.heap.size w wr)
    (fun i' _ => m - (intOf i').toNat)
  case atStart => exact ⟨0, by omega, rfl, hM0.out.congr (fun y => by rw [countTo_zero]) (fun y => by rw [seenAt_zero]), hB0.out⟩
  case round =>
    clear hM0 hB0
    obtain ⟨k, hkm, rfl, hmap0, hBw⟩ := hrel
    have hmap := Lib.hid hmap0
    have HB := Lib.hid hBw
    have hblt := hmap0.lt
    clear hmap0
    by_cases hlt : k < m
    · have hkl : k < l.length := by rw [← HM.out]; exact hlt
      obtain ⟨b, of, hAe, hb, z0, z1, z2⟩ := (hA.out.below hBw).at' hkl
      subst hAe
      have hx := hw.out _ (List.getElem_mem hkl)
      have hcs := Lib.hid (countTo_succ hkl)
      have hss := Lib.hid (seenAt_succ hkl)
      clear hBw
      generalize l[k] = x at *
      have hwf := Lib.hid (wf_i64 (x := x.addr) ⟨hx.a0, hx.a1⟩)
      have hmap1 := Lib.hid (hmap.out.kept (World.grownBy_alloc wr (.cells #[.int .u64 x.eui, .int .i64 x.addr, .int .i64 x.try_] 40) none) (by simp))
      have HB1 : Hid (Below w.heap.size w (wr.alloc (.cells #[.int .u64 x.eui, .int .i64 x.addr, .int .i64 x.try_] 40))) := HB.out.alloc HB.out.size _
      have hlk := hmap1.out.look_int (t := 51) (r := .i64) Try.underlying3 Try.underlying51 Try.underlying3 (Try.zeroInt _) hwf.out (v := countTo l k x.addr) rfl
      have hcb := countTo_bd l k x.addr
      have hcx : Hid (countTo l (k + 1) x.addr = countTo l k x.addr + 1) := by show _ = _; rw [hcs.out, if_pos rfl]
      have hnew : Hid (∀ W n', MapD Try.prog 3 3 .i64 (.int .i64 0) W w.heap.size n' (fun y => if y = x.addr then .int .i64 (countTo l k x.addr + 1) else .int .i64 (countTo l k y)) (fun y => decide (y = x.addr) || seenAt l k y) → MapD Try.prog 3 3 .i64 (.int .i64 0) W w.heap.size n' (fun y => .int .i64 (countTo l (k + 1) y)) (fun y => seenAt l (k + 1) y)) := by
        intro W n' hM
        refine hM.congr (fun y => ?_) (fun y => (hss.out y).symm)
        rw [hcs.out y]
        by_cases e : y = x.addr
        · rw [if_pos e, if_pos e, e]
        · rw [if_neg e, if_neg e]
      clear hcx
      generalize countTo l k x.addr = ct at *
      have hwc := Lib.hid (wf_i64 (x := ct + 1) (by omega))
      go_wp2_with (at_mapUpdate; clear hlk; refine wpList_mapSet _ rfl _ _ _ 51 rfl 3 3 .i64 Try.underlying3 Try.underlying51 (.int .i64 0) w.heap.size k _ _ rfl hmap1.out (by unfold maxLen; omega) x.addr (.int .i64 (ct + 1)) (.int .i64 (ct + 1)) rfl rfl hwf.out (plainElem_int Try.underlying3 hwc.out) ?_)
      intro w5 hm5 hg5
      have hm6 := Lib.hid (hnew.out w5 _ hm5)
      have HB5 := Lib.hid (HB1.out.grown hg5 HB1.out.size (fun j hj => by injection hj with hj; omega))
      clear hm5 hg5
      go_wp2_with fail
      go_roundw
      case rel => exact ⟨k + 1, by omega, by go_num, hm6.out, HB5.out⟩
      case measure => simp [intOf]; omega
    · obtain rfl : k = m := by omega
      go_wp2_with fail
      go_ret
      exact ⟨rfl, ⟨hmap.out, hblt⟩, HB.out⟩
end Go.Proofs.Ytgflklgjjpokaaa
