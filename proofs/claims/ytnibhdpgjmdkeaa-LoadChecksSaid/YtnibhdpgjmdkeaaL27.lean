/-
  The walk of the law LoadChecks (layer 41).
-/
import Derived.Test.YtnibhdpgjmdkeaaL26
import Derived.Deep.RegionHeld3
import Derived.Deep.DrawnRows
namespace Go.Proofs.Ytnibhdpgjmdkeaa
open Go.RowKit
attribute [local go_sem ↓] Go.wp_at_zero Go.wp_at_succ

set_option maxHeartbeats 8000000 in
theorem lchecks_law (A : Option Addr) (c : Nat) (l : List LdM) (n : Int) (w : World) (hA0 : RLoads w A l) (hp : ∀ x ∈ l, x.r.prof.length ≤ maxLen) (hc : l.length ≤ c) :
    Calls Try.prog 8 #[.slice A l.length c, .int .i64 n] w fun e w' => e = .returned (.bool true) ∧ Below w.heap.size w w' := by
  have hf := Lib.hid (few_any A c l w hA0 hp)
  have hA := Lib.hid hA0
  have hB0 := Lib.hid (Below.refl w.heap.size w)
  clear hA0 hp
  cases hg : fewM l
  all_goals rw [hg] at hf
  · clear hg
    go_enter Try.func8, Try.ntmps8
    go_wp2_with fail
    refine hf.out.mono ?_
    rintro e w1 ⟨rfl, rfl⟩
    go_wp2_with fail
    refine (awake_any _).mono ?_
    rintro e w9 ⟨rfl, hb9⟩
    have hO := Lib.hid (hB0.out.trans (hb9.mono hB0.out.size))
    clear hb9
    go_wp2_with fail
    go_ret
    exact ⟨rfl, hO.out⟩
  · obtain ⟨h8, hsm0⟩ := fewM_true hg
    have hsm := Lib.hid hsm0
    have HALL := Lib.hid (fun W (h : RLoads W A l) => lall_any A c l n W h (fun x hx => by have := (hsm0 x hx).1; unfold maxLen; omega) (fun x hx => by have := (hsm0 x hx).2; omega) hc)
    have HRALL := Lib.hid (fun W (h : RLoads W A l) => rlall_any A c l n W h (fun x hx => by have := (hsm0 x hx).1; unfold maxLen; omega))
    clear hg hsm0
    generalize allChk (l.map LdM.r) n = ac at *
    obtain ⟨m, hm⟩ : ∃ m, m = l.length := ⟨_, rfl⟩
    have HM := Lib.hid hm
    rw [← hm] at h8 hf HALL HRALL ⊢
    clear hm hc
    go_enter Try.func8, Try.ntmps8
    go_wp2_with fail
    refine hf.out.mono ?_
    rintro e w1 ⟨rfl, rfl⟩
    go_wp2_with fail
    go_loopw [5] (fun i' wr => ∃ k : Nat, k ≤ m ∧ i' = .int .i64 k ∧ Below w.heap.size w wr)
      (fun i' _ => m - (intOf i').toNat)
    case atStart => exact ⟨0, by omega, rfl, hB0.out⟩
    case round =>
      obtain ⟨k, hkm, rfl, hBw⟩ := hrel
      have HB := Lib.hid hBw
      by_cases hlt : k < m
      · have hkl : k < l.length := by rw [← HM.out]; exact hlt
        have HL := Lib.hid (hA.out.below hBw)
        obtain ⟨b, of, hAe, hb, z0, z1, z2, z3⟩ := HL.out.at' hkl
        subst hAe
        have hs := hsm.out _ (List.getElem_mem hkl)
        have HPR := Lib.hid (HL.out.prof hkl)
        clear hBw
        generalize l[k] = x at *
        have k1 := Lib.hid (fun W (h : RInts W x.A x.r.prof) => lcheck_any x.r x.A x.c n W h (by have := hs.1; unfold maxLen; omega) (by have := hs.2; omega))
        have k2 := Lib.hid (fun W (h : RInts W x.A x.r.prof) => rlcheck_any x.r x.A x.c n W h (by have := hs.1; unfold maxLen; omega))
        simp only [Ld.v] at k1 k2
        generalize x.r.chk n = e0 at *
        have i1 : (0 : Int) ≤ (k : Int) := by omega
        have i2 : (k : Int) < (m : Int) := by omega
        have HK : Hid (∀ W, Below wr.heap.size wr W → Below wr.heap.size wr W ∧ W.cell? ⟨b, of + k * 4, none⟩ = some (.string x.r.name) ∧ W.cell? ⟨b, of + k * 4 + 1, none⟩ = some (.slice x.A x.r.prof.length x.c) ∧ W.cell? ⟨b, of + k * 4 + 2, none⟩ = some (.int .i64 x.r.early) ∧ W.cell? ⟨b, of + k * 4 + 3, none⟩ = some (.int .i64 x.r.late)) := fun W hb => ⟨hb, cell_below z0 hb, cell_below z1 hb, cell_below z2 hb, cell_below z3 hb⟩
        clear z0 z1 z2 z3
        go_wp2_with fail
        go_region_held3 (fun w' => Below wr.heap.size wr w' ∧ w'.cell? ⟨b, of + k * 4, none⟩ = some (.string x.r.name) ∧ w'.cell? ⟨b, of + k * 4 + 1, none⟩ = some (.slice x.A x.r.prof.length x.c) ∧ w'.cell? ⟨b, of + k * 4 + 2, none⟩ = some (.int .i64 x.r.early) ∧ w'.cell? ⟨b, of + k * 4 + 3, none⟩ = some (.int .i64 x.r.late))
          (first | exact HK.out _ (Below.refl _ _) | exact HK.out _ (Below.drew (Below.refl _ _)) | exact HK.out _ (Below.drew (by assumption)) | exact HK.out _ (Below.drew (And.left (by assumption))) | exact HK.out _ (Below.trans (by first | assumption | exact And.left (by assumption) | exact Below.refl _ _ | exact Below.drew (Below.refl _ _) | exact Below.drew (by assumption) | exact Below.drew (And.left (by assumption))) (Below.mono (by assumption) (Below.size (by first | assumption | exact And.left (by assumption) | exact Below.refl _ _ | exact Below.drew (Below.refl _ _) | exact Below.drew (by assumption) | exact Below.drew (And.left (by assumption)))))))
          (first
            | (go_at_call 27; refine (k1.out _ (HPR.out.below (by first | assumption | exact And.left (by assumption) | exact Below.refl _ _ | exact Below.drew (Below.refl _ _) | exact Below.drew (by assumption) | exact Below.drew (And.left (by assumption))))).mono ?_; rintro e w4 ⟨rfl, hb4⟩)
            | (go_at_call 28; refine (k2.out _ (HPR.out.below (by first | assumption | exact And.left (by assumption) | exact Below.refl _ _ | exact Below.drew (Below.refl _ _) | exact Below.drew (by assumption) | exact Below.drew (And.left (by assumption))))).mono ?_; rintro e w5 ⟨rfl, hb5⟩))
        go_wp2_with fail
        go_roundw
        case rel => exact ⟨k + 1, by omega, by go_num, HB.out.trans (Below.mono (by first | assumption | exact And.left (by assumption) | exact Below.refl _ _ | exact Below.drew (Below.refl _ _) | exact Below.drew (by assumption) | exact Below.drew (And.left (by assumption))) HB.out.size)⟩
        case measure => simp [intOf]; omega
      · go_wp2_with fail
        refine (HALL.out _ (hA.out.below HB.out)).mono ?_
        rintro e w2 ⟨rfl, hb2⟩
        have HB2 := Lib.hid (HB.out.trans (hb2.mono HB.out.size))
        clear hb2 hBw
        go_wp2_with fail
        refine (HRALL.out _ (hA.out.below HB2.out)).mono ?_
        rintro e w3 ⟨rfl, hb3⟩
        have HB3 := Lib.hid (HB2.out.trans (hb3.mono HB2.out.size))
        clear hb3
        go_wp2_with fail
        refine (awake_any _).mono ?_
        rintro e w9 ⟨rfl, hb9⟩
        have hO := Lib.hid (HB3.out.trans (hb9.mono HB3.out.size))
        clear hb9
        go_wp2_with fail
        go_ret
        exact ⟨rfl, hO.out⟩
end Go.Proofs.Ytnibhdpgjmdkeaa
