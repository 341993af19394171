/-
  The walk of Check of the reference (layer 8).
-/
import Derived.Test.YtgflklgjjpokaaaA7
namespace Go.Proofs.Ytgflklgjjpokaaa
open Go.RowKit
attribute [local go_sem ↓] Go.wp_at_zero Go.wp_at_succ

theorem seenTo_mono {l : List Cl} {j k : Nat} {e : Int} (h : seenTo l j e = true) (hk : j ≤ k) : seenTo l k e = true := by
  unfold seenTo at *
  rw [decide_eq_true_iff] at *
  rw [List.mem_map] at *
  obtain ⟨c, hc, he⟩ := h
  obtain ⟨i, hi, rfl⟩ := List.mem_iff_getElem.1 hc
  rw [List.length_take] at hi
  exact ⟨_, List.mem_iff_getElem.2 ⟨i, by rw [List.length_take]; omega, rfl⟩, by simpa using he⟩

set_option maxRecDepth 100000 in
set_option maxHeartbeats 8000000 in
theorem rclcheck_any (A : Option Addr) (c : Nat) (l : List Cl) (w : World) (hA0 : RCls w A l) (hw0 : ∀ x ∈ l, x.Wf) :
    Calls Try.prog 18 #[.slice A l.length c] w fun e w' => e = .returned (.int .i64 (clChk l)) ∧ Below w.heap.size w w' := by
  have hA := Lib.hid hA0
  have hw := Lib.hid hw0
  obtain ⟨m, hm⟩ : ∃ m, m = l.length := ⟨_, rfl⟩
  have HM := Lib.hid hm
  rw [← hm]
  by_cases h24 : (24 : Int) < (m : Int)
  · have hz : Hid (clChk l = 3) := by show _ = _; unfold clChk; rw [if_pos (by omega)]
    clear hm hA0 hw0
    go_enter Try.func18, Try.ntmps18
    go_wp2_with fail
    go_ret
    exact ⟨ret_int hz.out.symm, Below.refl _ _⟩
  · clear hm hA0 hw0
    go_enter Try.func18, Try.ntmps18
    go_wp2_with fail
    go_loopw [3] (fun i' wr => ∃ k : Nat, k ≤ m ∧ i' = .int .i64 k ∧ Hid (clTo l k = 0) ∧ Below w.heap.size w wr)
      (fun i' _ => m - (intOf i').toNat)
    case atStart => exact ⟨0, by omega, rfl, rfl, Below.refl _ _⟩
    case round =>
      obtain ⟨k, hkm, rfl, hto, hBw⟩ := hrel
      have HB := Lib.hid hBw
      clear hBw
      by_cases hlt : k < m
      · have hkl : k < l.length := by rw [← HM.out]; exact hlt
        have h24' : l.length ≤ 24 := by rw [← HM.out]; omega
        have hx := hw.out _ (List.getElem_mem hkl)
        have HATK := Lib.hid (fun W (h : RCls W A l) => h.at' hkl)
        have hdup := Lib.hid (clChk_dup hto.out hkl h24')
        have hbad := Lib.hid (clChk_bad hto.out hkl h24')
        have hok := Lib.hid (clTo_ok hto.out hkl)
        clear h24'
        generalize l[k] = x at *
        go_wp2_with fail
        go_loopw [4] (fun i' wj => ∃ j : Nat, j ≤ k ∧ i' = .int .i64 j ∧ Hid (seenTo l j x.eui = false) ∧ Below w.heap.size w wj)
          (fun i' _ => k - (intOf i').toNat)
        case atStart => exact ⟨0, by omega, rfl, seenTo_zero _ _, HB.out⟩
        case round =>
          obtain ⟨j, hjk, rfl, hno, hBj⟩ := hrel
          have HBJ := Lib.hid hBj
          clear hBj
          obtain ⟨b, of, hAe, hb, z0, z1, z2⟩ := HATK.out _ (hA.out.below HBJ.out)
          have i1 : (0 : Int) ≤ (j : Int) := by omega
          have i3 : (0 : Int) ≤ (k : Int) := by omega
          have i4 : (k : Int) < (m : Int) := by omega
          by_cases hlj : j < k
          · have hjl : j < l.length := by omega
            obtain ⟨b', of', hAe', hb', y0, _, _⟩ := (hA.out.below HBJ.out).at' hjl
            subst hAe
            injection hAe' with hAe'
            injection hAe' with h1 h2
            subst h1 h2
            have i2 : (j : Int) < (m : Int) := by omega
            have hsu := Lib.hid (seenTo_succ hjl x.eui)
            clear z1 z2
            generalize l[j] = y at *
            by_cases hnn : y.eui = x.eui
            · have hz : Hid (clChk l = 9) := hdup.out (seenTo_mono (j := j + 1) (by rw [hsu.out]; simp [hnn]) (by omega))
              rw [hnn] at y0
              clear hnn hsu
              go_wp2_with fail
              go_quiet (fail)
              go_wp2_with fail
              go_ret
              exact ⟨ret_int hz.out.symm, below_drewN HBJ.out _⟩
            · have hno' : Hid (seenTo l (j + 1) x.eui = false) := by
                show _ = _
                rw [hsu.out, hno.out, Bool.or_false, decide_eq_false_iff_not]
                exact fun h => hnn h.symm
              have hne : (y.eui == x.eui) = false := by simpa using hnn
              clear hnn hsu
              go_wp2_with fail
              go_quiet (fail)
              go_wp2_with fail
              go_roundw
              case rel => exact ⟨j + 1, by omega, by go_num, hno', below_drewN HBJ.out _⟩
              case measure => simp [intOf]; omega
          · have hs : seenTo l k x.eui = false := by rw [show k = j by omega]; exact hno.out
            have hbad1 := Lib.hid (hbad.out hs)
            have hok1 := Lib.hid (hok.out hs)
            have hpk := Lib.hid (fun W => rpick_any x.eui x.try_ W hx.e0 hx.e1 hx.t1)
            have hcs := x.ok_cases
            have HK : Hid (∀ W, Below wr.heap.size wr W → Below wr.heap.size wr W ∧ W.cell? ⟨b, of + k * 3, none⟩ = some (.int .u64 x.eui) ∧ W.cell? ⟨b, of + k * 3 + 1, none⟩ = some (.int .i64 x.addr) ∧ W.cell? ⟨b, of + k * 3 + 2, none⟩ = some (.int .i64 x.try_)) := fun W hb => ⟨hb, cell_below z0 hb, cell_below z1 hb, cell_below z2 hb⟩
            subst hAe
            clear hs hdup hbad hok hx
            rcases hcs with ⟨o1, o2⟩ | ⟨o1, o2, o3⟩ | ⟨o1, o2, o3, o4⟩ | ⟨o1, o2, o3, o4⟩
            · have hz : Hid (clChk l = 2) := hbad1.out o1
              have t1 : decide (x.try_ < 0) = true := decide_eq_true o2
              clear o1
              go_wp2_with fail
              go_quiet (fail)
              go_wp2_with fail
              go_ret
              exact ⟨ret_int hz.out.symm, below_drewN HBJ.out _⟩
            · have hz : Hid (clChk l = 2) := hbad1.out o1
              have t1 : decide (x.try_ < 0) = false := decide_eq_false o2
              have t2 : decide (100000 < x.try_) = true := decide_eq_true o3
              clear o1
              go_wp2_with fail
              go_quiet (fail)
              go_wp2_with fail
              go_ret
              exact ⟨ret_int hz.out.symm, below_drewN HBJ.out _⟩
            · have hz : Hid (clChk l = 2) := hbad1.out o1
              have t1 : decide (x.try_ < 0) = false := decide_eq_false o2
              have t2 : decide (100000 < x.try_) = false := decide_eq_false o3
              have t3 : (x.addr != pickZ x.eui x.try_) = true := by simpa using o4
              clear o1 o4 z0 z1 z2
              generalize pickZ x.eui x.try_ = pk at *
              go_wp2_with fail
              go_region_held3 (fun w' => Below wr.heap.size wr w' ∧ w'.cell? ⟨b, of + k * 3, none⟩ = some (.int .u64 x.eui) ∧ w'.cell? ⟨b, of + k * 3 + 1, none⟩ = some (.int .i64 x.addr) ∧ w'.cell? ⟨b, of + k * 3 + 2, none⟩ = some (.int .i64 x.try_))
                (first | exact HK.out _ (Below.refl _ _) | exact HK.out _ (Below.drew (Below.refl _ _)) | exact HK.out _ (Below.drew (by assumption)) | exact HK.out _ (Below.drew (And.left (by assumption))) | exact HK.out _ (Below.trans (by first | assumption | exact And.left (by assumption) | exact Below.refl _ _ | exact Below.drew (Below.refl _ _) | exact Below.drew (by assumption) | exact Below.drew (And.left (by assumption))) (Below.mono (by assumption) (Below.size (by first | assumption | exact And.left (by assumption) | exact Below.refl _ _ | exact Below.drew (Below.refl _ _) | exact Below.drew (by assumption) | exact Below.drew (And.left (by assumption)))))))
                (first | (go_at_call 14; refine (hpk.out _).mono ?_; rintro e' w7 ⟨rfl, hb7⟩))
              go_wp2_with fail
              go_ret
              exact ⟨ret_int hz.out.symm, HBJ.out.trans (Below.mono (by first | assumption | exact And.left (by assumption) | exact Below.refl _ _ | exact Below.drew (Below.refl _ _) | exact Below.drew (by assumption) | exact Below.drew (And.left (by assumption))) HBJ.out.size)⟩
            · have hz : Hid (clTo l (k + 1) = 0) := hok1.out o1
              have t1 : decide (x.try_ < 0) = false := decide_eq_false o2
              have t2 : decide (100000 < x.try_) = false := decide_eq_false o3
              have t3 : (x.addr != pickZ x.eui x.try_) = false := by simpa using o4
              clear o1 o4 z0 z1 z2
              generalize pickZ x.eui x.try_ = pk at *
              go_wp2_with fail
              go_region_held3 (fun w' => Below wr.heap.size wr w' ∧ w'.cell? ⟨b, of + k * 3, none⟩ = some (.int .u64 x.eui) ∧ w'.cell? ⟨b, of + k * 3 + 1, none⟩ = some (.int .i64 x.addr) ∧ w'.cell? ⟨b, of + k * 3 + 2, none⟩ = some (.int .i64 x.try_))
                (first | exact HK.out _ (Below.refl _ _) | exact HK.out _ (Below.drew (Below.refl _ _)) | exact HK.out _ (Below.drew (by assumption)) | exact HK.out _ (Below.drew (And.left (by assumption))) | exact HK.out _ (Below.trans (by first | assumption | exact And.left (by assumption) | exact Below.refl _ _ | exact Below.drew (Below.refl _ _) | exact Below.drew (by assumption) | exact Below.drew (And.left (by assumption))) (Below.mono (by assumption) (Below.size (by first | assumption | exact And.left (by assumption) | exact Below.refl _ _ | exact Below.drew (Below.refl _ _) | exact Below.drew (by assumption) | exact Below.drew (And.left (by assumption)))))))
                (first | (go_at_call 14; refine (hpk.out _).mono ?_; rintro e' w7 ⟨rfl, hb7⟩))
              go_wp2_with fail
              go_roundw
              case rel => exact ⟨k + 1, by omega, by go_num, hz, HBJ.out.trans (Below.mono (by first | assumption | exact And.left (by assumption) | exact Below.refl _ _ | exact Below.drew (Below.refl _ _) | exact Below.drew (by assumption) | exact Below.drew (And.left (by assumption))) HBJ.out.size)⟩
              case measure => simp [intOf]; omega
      · have hz : Hid (clChk l = 0) := by
          show _ = _
          unfold clChk
          rw [if_neg (by rw [← HM.out]; omega), ← HM.out, show m = k by omega]
          exact hto.out
        go_wp2_with fail
        go_ret
        exact ⟨ret_int hz.out.symm, HB.out⟩
end Go.Proofs.Ytgflklgjjpokaaa
