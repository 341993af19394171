/-
  The walk of Check of the program (layer 8).
-/
import Derived.Test.YtgflklgjjpokaaaA6
import Derived.Deep.RegionHeld3
import Derived.Deep.DrawnRows
namespace Go.Proofs.Ytgflklgjjpokaaa
open Go.RowKit
attribute [local go_sem ↓] Go.wp_at_zero Go.wp_at_succ

set_option maxRecDepth 100000 in
set_option maxHeartbeats 8000000 in
theorem clcheck_any (A : Option Addr) (c : Nat) (l : List Cl) (w : World) (hA0 : RCls w A l) (hw0 : ∀ x ∈ l, x.Wf) :
    Calls Try.prog 17 #[.slice A l.length c] w fun e w' => e = .returned (.int .i64 (clChk l)) ∧ Below w.heap.size w w' := by
  have hA := Lib.hid hA0
  have hw := Lib.hid hw0
  have hmm := @run_makeMap Try.prog
  obtain ⟨m, hm⟩ : ∃ m, m = l.length := ⟨_, rfl⟩
  have HM := Lib.hid hm
  rw [← hm]
  by_cases h24 : (24 : Int) < (m : Int)
  · have hz : Hid (clChk l = 3) := by show _ = _; unfold clChk; rw [if_pos (by omega)]
    clear hm hA0 hw0 hmm
    go_enter Try.func17, Try.ntmps17
    go_wp2_with fail
    go_ret
    exact ⟨ret_int hz.out.symm, Below.refl _ _⟩
  · clear hm hA0 hw0
    go_enter Try.func17, Try.ntmps17
    go_wp2_with fail
    clear hmm
    have hM0 := Lib.hid (MapD.new (P := Try.prog) (kt := 22) (et := 4) (q := .u64) (z := .bool false) w)
    have hB0 : Hid (Below w.heap.size w (w.alloc (.map #[] 0))) := (Below.refl _ _).alloc (Nat.le_refl _) _
    go_loopw [12] (fun i' wr => ∃ k : Nat, k ≤ m ∧ i' = .int .i64 k ∧ Hid (clTo l k = 0) ∧ MapD Try.prog 22 4 .u64 (.bool false) wr w.heap.size k (fun y => .bool (seenTo l k y)) (fun y => seenTo l k y) ∧ Below w.heap.size w wr)
      (fun i' _ => m - (intOf i').toNat)
    case atStart => exact ⟨0, by omega, rfl, rfl, hM0.out.congr (by simp [seenTo_zero]) (by simp [seenTo_zero]), hB0.out⟩
    case round =>
      clear hM0 hB0
      obtain ⟨k, hkm, rfl, hto, hmap0, hBw⟩ := hrel
      have hmap := Lib.hid hmap0
      have HB := Lib.hid hBw
      have hblt := hmap0.lt
      clear hmap0
      by_cases hlt : k < m
      · have hkl : k < l.length := by rw [← HM.out]; exact hlt
        have h24' : l.length ≤ 24 := by rw [← HM.out]; omega
        obtain ⟨b, of, hAe, hb, z0, z1, z2⟩ := (hA.out.below hBw).at' hkl
        subst hAe
        have hx := hw.out _ (List.getElem_mem hkl)
        have hdup := Lib.hid (clChk_dup hto.out hkl h24')
        have hbad := Lib.hid (clChk_bad hto.out hkl h24')
        have hok := Lib.hid (clTo_ok hto.out hkl)
        have hsu := Lib.hid (seenTo_succ hkl)
        clear hBw h24'
        generalize l[k] = x at *
        have hwf := wf_u64 (x := x.eui) ⟨hx.e0, hx.e1⟩
        have hmap1 := Lib.hid (hmap.out.kept (World.grownBy_alloc wr (.cells #[.int .u64 x.eui, .int .i64 x.addr, .int .i64 x.try_] 40) none) (by simp))
        have HBX := Lib.hid (Blk.new wr 40 #[.int .u64 x.eui, .int .i64 x.addr, .int .i64 x.try_])
        have HB1 : Hid (Below w.heap.size w (wr.alloc (.cells #[.int .u64 x.eui, .int .i64 x.addr, .int .i64 x.try_] 40))) := HB.out.alloc HB.out.size _
        cases hs : seenTo l k x.eui
        · have hlk := hmap1.out.look_bool (t := 50) Try.underlying22 Try.underlying50 Try.underlying4 (Try.zeroBool _) hwf (v := false) (by rw [hs])
          have hbad1 := Lib.hid (hbad.out hs)
          have hok1 := Lib.hid (hok.out hs)
          have hWF := Lib.hid hwf
          clear hdup hbad hok hs hwf
          go_wp2_with (at_mapUpdate; clear hlk; refine wpList_mapSet _ rfl _ _ _ 50 rfl 22 4 .u64 Try.underlying22 Try.underlying50 (.bool false) w.heap.size k _ _ rfl hmap1.out (by unfold maxLen; omega) x.eui (.bool true) (.bool true) rfl rfl hWF.out (plainElem_bool Try.underlying4 true) ?_)
          intro w5 hm5 hg5
          have hm6 : Hid (MapD Try.prog 22 4 .u64 (.bool false) w5 w.heap.size (k + 1) (fun y => .bool (seenTo l (k + 1) y)) (fun y => seenTo l (k + 1) y)) := by
            refine hm5.congr (fun y => ?_) (fun y => (hsu.out y).symm)
            rw [hsu.out y]
            by_cases h1 : y = x.eui <;> simp [h1]
          have HB5 := Lib.hid (HB1.out.grown hg5 HB1.out.size (fun j hj => by injection hj with hj; omega))
          have HX5 := HBX.out.grown hg5 (by intro h; injection h with h; omega)
          have x0 := HX5.cell 0; have x1 := HX5.cell 1; have x2 := HX5.cell 2
          simp only [List.getElem?_toArray, List.getElem?_cons_zero, List.getElem?_cons_succ] at x0 x1 x2
          have hb5 : w.heap.size < w5.heap.size := by have := hm5.lt; omega
          have HK : Hid (∀ W, Below w5.heap.size w5 W → Below w5.heap.size w5 W ∧ W.cell? ⟨wr.heap.size, 0, none⟩ = some (.int .u64 x.eui) ∧ W.cell? ⟨wr.heap.size, 1, none⟩ = some (.int .i64 x.addr) ∧ W.cell? ⟨wr.heap.size, 2, none⟩ = some (.int .i64 x.try_)) := fun W hb => ⟨hb, cell_below x0 hb, cell_below x1 hb, cell_below x2 hb⟩
          have hpk := Lib.hid (fun W => pick_any x.eui x.try_ W hx.e0 hx.e1 hx.t1)
          have hcs := x.ok_cases
          clear hm5 hg5 HX5 z0 z1 z2 hx
          rcases hcs with ⟨o1, o2⟩ | ⟨o1, o2, o3⟩ | ⟨o1, o2, o3, o4⟩ | ⟨o1, o2, o3, o4⟩
          · have hz : Hid (clChk l = 2) := hbad1.out o1
            have t1 : decide (x.try_ < 0) = true := decide_eq_true o2
            clear o1
            go_wp2_with fail
            go_quiet (fail)
            go_wp2_with fail
            go_ret
            exact ⟨ret_int hz.out.symm, below_drewN HB5.out _⟩
          · have hz : Hid (clChk l = 2) := hbad1.out o1
            have t1 : decide (x.try_ < 0) = false := decide_eq_false o2
            have t2 : decide (100000 < x.try_) = true := decide_eq_true o3
            clear o1
            go_wp2_with fail
            go_quiet (fail)
            go_wp2_with fail
            go_ret
            exact ⟨ret_int hz.out.symm, below_drewN HB5.out _⟩
          · have hz : Hid (clChk l = 2) := hbad1.out o1
            have t1 : decide (x.try_ < 0) = false := decide_eq_false o2
            have t2 : decide (100000 < x.try_) = false := decide_eq_false o3
            have t3 : (x.addr != pickZ x.eui x.try_) = true := by simpa using o4
            clear o1 o4
            generalize pickZ x.eui x.try_ = pk at *
            go_wp2_with fail
            go_region_held3 (fun w' => Below w5.heap.size w5 w' ∧ w'.cell? ⟨wr.heap.size, 0, none⟩ = some (.int .u64 x.eui) ∧ w'.cell? ⟨wr.heap.size, 1, none⟩ = some (.int .i64 x.addr) ∧ w'.cell? ⟨wr.heap.size, 2, none⟩ = some (.int .i64 x.try_))
              (first | exact HK.out _ (Below.refl _ _) | exact HK.out _ (Below.drew (Below.refl _ _)) | exact HK.out _ (Below.drew (by assumption)) | exact HK.out _ (Below.drew (And.left (by assumption))) | exact HK.out _ (Below.trans (by first | assumption | exact And.left (by assumption) | exact Below.refl _ _ | exact Below.drew (Below.refl _ _) | exact Below.drew (by assumption) | exact Below.drew (And.left (by assumption))) (Below.mono (by assumption) (Below.size (by first | assumption | exact And.left (by assumption) | exact Below.refl _ _ | exact Below.drew (Below.refl _ _) | exact Below.drew (by assumption) | exact Below.drew (And.left (by assumption)))))))
              (first | (go_at_call 13; refine (hpk.out _).mono ?_; rintro e' w7 ⟨rfl, hb7⟩))
            go_wp2_with fail
            go_ret
            exact ⟨ret_int hz.out.symm, HB5.out.trans (Below.mono (by first | assumption | exact And.left (by assumption) | exact Below.refl _ _ | exact Below.drew (Below.refl _ _) | exact Below.drew (by assumption) | exact Below.drew (And.left (by assumption))) HB5.out.size)⟩
          · have hz : Hid (clTo l (k + 1) = 0) := hok1.out o1
            have t1 : decide (x.try_ < 0) = false := decide_eq_false o2
            have t2 : decide (100000 < x.try_) = false := decide_eq_false o3
            have t3 : (x.addr != pickZ x.eui x.try_) = false := by simpa using o4
            clear o1 o4
            generalize pickZ x.eui x.try_ = pk at *
            go_wp2_with fail
            go_region_held3 (fun w' => Below w5.heap.size w5 w' ∧ w'.cell? ⟨wr.heap.size, 0, none⟩ = some (.int .u64 x.eui) ∧ w'.cell? ⟨wr.heap.size, 1, none⟩ = some (.int .i64 x.addr) ∧ w'.cell? ⟨wr.heap.size, 2, none⟩ = some (.int .i64 x.try_))
              (first | exact HK.out _ (Below.refl _ _) | exact HK.out _ (Below.drew (Below.refl _ _)) | exact HK.out _ (Below.drew (by assumption)) | exact HK.out _ (Below.drew (And.left (by assumption))) | exact HK.out _ (Below.trans (by first | assumption | exact And.left (by assumption) | exact Below.refl _ _ | exact Below.drew (Below.refl _ _) | exact Below.drew (by assumption) | exact Below.drew (And.left (by assumption))) (Below.mono (by assumption) (Below.size (by first | assumption | exact And.left (by assumption) | exact Below.refl _ _ | exact Below.drew (Below.refl _ _) | exact Below.drew (by assumption) | exact Below.drew (And.left (by assumption)))))))
              (first | (go_at_call 13; refine (hpk.out _).mono ?_; rintro e' w7 ⟨rfl, hb7⟩))
            go_wp2_with fail
            go_roundw
            case rel => exact ⟨k + 1, by omega, by go_num, hz, hm6.out.below (by first | assumption | exact And.left (by assumption) | exact Below.refl _ _ | exact Below.drew (Below.refl _ _) | exact Below.drew (by assumption) | exact Below.drew (And.left (by assumption))) hb5, HB5.out.trans (Below.mono (by first | assumption | exact And.left (by assumption) | exact Below.refl _ _ | exact Below.drew (Below.refl _ _) | exact Below.drew (by assumption) | exact Below.drew (And.left (by assumption))) HB5.out.size)⟩
            case measure => simp [intOf]; omega
        · have hlk := hmap1.out.look_bool (t := 50) Try.underlying22 Try.underlying50 Try.underlying4 (Try.zeroBool _) hwf (v := true) (by rw [hs])
          have hz : Hid (clChk l = 9) := hdup.out hs
          clear hdup hbad hok hs hwf
          go_wp2_with fail
          clear hlk
          go_ret
          exact ⟨ret_int hz.out.symm, HB1.out⟩
      · have hz : Hid (clChk l = 0) := by
          show _ = _
          unfold clChk
          rw [if_neg (by rw [← HM.out]; omega), ← HM.out, show m = k by omega]
          exact hto.out
        go_wp2_with fail
        go_ret
        exact ⟨ret_int hz.out.symm, HB.out⟩
end Go.Proofs.Ytgflklgjjpokaaa
