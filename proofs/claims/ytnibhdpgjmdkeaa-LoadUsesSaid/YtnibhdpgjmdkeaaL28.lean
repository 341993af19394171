/-
  The walk of the law LoadUses (layer 41).
-/
import Derived.Test.YtnibhdpgjmdkeaaL26
import Derived.Deep.RegionHeld3
import Derived.Deep.DrawnRows
namespace Go.Proofs.Ytnibhdpgjmdkeaa
open Go.RowKit
attribute [local go_sem ↓] Go.wp_at_zero Go.wp_at_succ

theorem usesL_length (ls : List Ld) (ss : List Int) (n : Int) : (usesL ls ss n).length ≤ 96 := by
  have := slotsN_le n
  simp [usesL]; omega

set_option maxRecDepth 100000 in
set_option maxHeartbeats 16000000 in
theorem luses_law (A B : Option Addr) (c d : Nat) (l : List LdM) (ss : List Int) (i : Int) (w : World) (hA0 : RLoads w A l) (hp : ∀ x ∈ l, x.r.prof.length ≤ maxLen) (hB0 : RInts w B ss) (hd : ss.length ≤ d)
    (hw : ∀ s ∈ ss, -9223372036854775808 ≤ s ∧ s ≤ 9223372036854775807) (wi : -9223372036854775808 ≤ i ∧ i ≤ 9223372036854775807) :
    Calls Try.prog 4 #[.slice A l.length c, .slice B ss.length d, .int .i64 i] w fun e w' => e = .returned (.bool true) ∧ Below w.heap.size w w' := by
  have hf := Lib.hid (few_any A c l w hA0 hp)
  have hA := Lib.hid hA0
  have hBr := Lib.hid hB0
  have hR0 := Lib.hid (Below.refl w.heap.size w)
  clear hA0 hp hB0
  cases hg : fewM l
  all_goals rw [hg] at hf
  · clear hg
    go_enter Try.func4, Try.ntmps4
    go_wp2_with fail
    refine hf.out.mono ?_
    rintro e w1 ⟨rfl, rfl⟩
    go_wp2_with fail
    refine (awake_any _).mono ?_
    rintro e w9 ⟨rfl, hb9⟩
    have hO := Lib.hid (hR0.out.trans (hb9.mono hR0.out.size))
    clear hb9
    go_wp2_with fail
    go_ret
    exact ⟨rfl, hO.out⟩
  · obtain ⟨h8, hsm0⟩ := fewM_true hg
    by_cases h20 : (20 : Int) < (ss.length : Int)
    · clear hg hw wi
      go_enter Try.func4, Try.ntmps4
      go_wp2_with fail
      refine hf.out.mono ?_
      rintro e w1 ⟨rfl, rfl⟩
      go_wp2_with fail
      refine (awake_any _).mono ?_
      rintro e w9 ⟨rfl, hb9⟩
      have hO := Lib.hid (hR0.out.trans (hb9.mono hR0.out.size))
      clear hb9
      go_wp2_with fail
      go_ret
      exact ⟨rfl, hO.out⟩
    have hsm := Lib.hid hsm0
    have HU := Lib.hid (fun W (h : RLoads W A l) (h2 : RInts W B ss) => luses_any A B c d l ss i W h h2 (fun x hx => by have := (hsm0 x hx).2; omega) hw (by omega) (by omega) hd)
    have HRU := Lib.hid (fun W (h : RLoads W A l) (h2 : RInts W B ss) => rluses_any A B c d l ss i W h h2 (fun x hx => by have := (hsm0 x hx).2; omega) hw (by omega))
    have hul := usesL_length (l.map LdM.r) ss i
    have HW := Lib.hid hw
    clear hg hsm0 hw
    generalize usesL (l.map LdM.r) ss i = us at *
    obtain ⟨m, hm⟩ : ∃ m, m = l.length := ⟨_, rfl⟩
    have HM := Lib.hid hm
    rw [← hm] at h8 hf HU HRU ⊢
    obtain ⟨q, hq⟩ : ∃ q, q = ss.length := ⟨_, rfl⟩
    have HQ := Lib.hid hq
    rw [← hq] at h20 HU HRU ⊢
    clear hm hq hd
    go_enter Try.func4, Try.ntmps4
    go_wp2_with fail
    refine hf.out.mono ?_
    rintro e w1 ⟨rfl, rfl⟩
    go_wp2_with fail
    go_loopw [7] (fun i' wr => ∃ k : Nat, k ≤ m ∧ i' = .int .i64 k ∧ Below w.heap.size w wr)
      (fun i' _ => m - (intOf i').toNat)
    case atStart => exact ⟨0, by omega, rfl, hR0.out⟩
    case round =>
      obtain ⟨k, hkm, rfl, hBw⟩ := hrel
      have HB := Lib.hid hBw
      by_cases hlt : k < m
      · have hkl : k < l.length := by rw [← HM.out]; exact hlt
        have HL := Lib.hid (hA.out.below hBw)
        obtain ⟨b, of, hAe, hb, z0, z1, z2, z3⟩ := HL.out.at' hkl
        subst hAe
        have hs := hsm.out _ (List.getElem_mem hkl)
        have HPR := Lib.hid (HL.out.prof hkl)
        have HBR := Lib.hid (hBr.out.below hBw)
        clear hBw
        generalize l[k] = x at *
        by_cases hkq : k < q
        · have hkq2 : k < ss.length := by rw [← HQ.out]; exact hkq
          obtain ⟨bs, os, hBe, hbs, y0⟩ := HBR.out.at' hkq2
          subst hBe
          have hws := HW.out _ (List.getElem_mem hkq2)
          generalize ss[k] = s at *
          have i1 : (0 : Int) ≤ (k : Int) := by omega
          have i2 : (k : Int) < (m : Int) := by omega
          have HK : Hid (∀ W, Below wr.heap.size wr W → Below wr.heap.size wr W ∧ W.cell? ⟨b, of + k * 4, none⟩ = some (.string x.r.name) ∧ W.cell? ⟨b, of + k * 4 + 1, none⟩ = some (.slice x.A x.r.prof.length x.c) ∧ W.cell? ⟨b, of + k * 4 + 2, none⟩ = some (.int .i64 x.r.early) ∧ W.cell? ⟨b, of + k * 4 + 3, none⟩ = some (.int .i64 x.r.late)) := fun W hb => ⟨hb, cell_below z0 hb, cell_below z1 hb, cell_below z2 hb, cell_below z3 hb⟩
          have k1 := Lib.hid (fun W (h : RInts W x.A x.r.prof) => luse_any x.r x.A x.c s i W h (by have := hs.2; omega) (by omega) (by omega) wi.1 wi.2)
          have k2 := Lib.hid (fun W (h : RInts W x.A x.r.prof) => rluse_any x.r x.A x.c s i W h (by have := hs.2; omega) (by omega) (by omega) wi.1 wi.2)
          have k3 := Lib.hid (fun W (h : RInts W x.A x.r.prof) => lenergy_any x.r x.A x.c W h (by have := hs.2; omega))
          have k4 := Lib.hid (fun W (h : RInts W x.A x.r.prof) => rlenergy_any x.r x.A x.c W h (by have := hs.2; omega))
          simp only [Ld.v] at k1 k2 k3 k4
          generalize x.r.use s i = u at *
          generalize x.r.energy = en at *
          clear z0 z1 z2 z3 hs
          go_wp2_with fail
          go_region_held3 (fun w' => Below wr.heap.size wr w' ∧ w'.cell? ⟨b, of + k * 4, none⟩ = some (.string x.r.name) ∧ w'.cell? ⟨b, of + k * 4 + 1, none⟩ = some (.slice x.A x.r.prof.length x.c) ∧ w'.cell? ⟨b, of + k * 4 + 2, none⟩ = some (.int .i64 x.r.early) ∧ w'.cell? ⟨b, of + k * 4 + 3, none⟩ = some (.int .i64 x.r.late))
            (first | exact HK.out _ (Below.refl _ _) | exact HK.out _ (Below.drew (Below.refl _ _)) | exact HK.out _ (Below.drew (by assumption)) | exact HK.out _ (Below.drew (And.left (by assumption))) | exact HK.out _ (Below.trans (by first | assumption | exact And.left (by assumption) | exact Below.refl _ _ | exact Below.drew (Below.refl _ _) | exact Below.drew (by assumption) | exact Below.drew (And.left (by assumption))) (Below.mono (by assumption) (Below.size (by first | assumption | exact And.left (by assumption) | exact Below.refl _ _ | exact Below.drew (Below.refl _ _) | exact Below.drew (by assumption) | exact Below.drew (And.left (by assumption)))))))
            (first
              | (go_at_call 18; refine (k1.out _ (HPR.out.below (by first | assumption | exact And.left (by assumption) | exact Below.refl _ _ | exact Below.drew (Below.refl _ _) | exact Below.drew (by assumption) | exact Below.drew (And.left (by assumption))))).mono ?_; rintro e w4 ⟨rfl, hb4⟩)
              | (go_at_call 19; refine (k2.out _ (HPR.out.below (by first | assumption | exact And.left (by assumption) | exact Below.refl _ _ | exact Below.drew (Below.refl _ _) | exact Below.drew (by assumption) | exact Below.drew (And.left (by assumption))))).mono ?_; rintro e w5 ⟨rfl, hb5⟩)
              | (go_at_call 20; refine (k3.out _ (HPR.out.below (by first | assumption | exact And.left (by assumption) | exact Below.refl _ _ | exact Below.drew (Below.refl _ _) | exact Below.drew (by assumption) | exact Below.drew (And.left (by assumption))))).mono ?_; rintro e w6 ⟨rfl, hb6⟩)
              | (go_at_call 21; refine (k4.out _ (HPR.out.below (by first | assumption | exact And.left (by assumption) | exact Below.refl _ _ | exact Below.drew (Below.refl _ _) | exact Below.drew (by assumption) | exact Below.drew (And.left (by assumption))))).mono ?_; rintro e w7 ⟨rfl, hb7⟩))
          go_wp2_with fail
          go_roundw
          case rel => exact ⟨k + 1, by omega, by go_num, HB.out.trans (Below.mono (by first | assumption | exact And.left (by assumption) | exact Below.refl _ _ | exact Below.drew (Below.refl _ _) | exact Below.drew (by assumption) | exact Below.drew (And.left (by assumption))) HB.out.size)⟩
          case measure => simp [intOf]; omega
        · have i1 : (0 : Int) ≤ (k : Int) := by omega
          have i2 : (k : Int) < (m : Int) := by omega
          have HK : Hid (∀ W, Below wr.heap.size wr W → Below wr.heap.size wr W ∧ W.cell? ⟨b, of + k * 4, none⟩ = some (.string x.r.name) ∧ W.cell? ⟨b, of + k * 4 + 1, none⟩ = some (.slice x.A x.r.prof.length x.c) ∧ W.cell? ⟨b, of + k * 4 + 2, none⟩ = some (.int .i64 x.r.early) ∧ W.cell? ⟨b, of + k * 4 + 3, none⟩ = some (.int .i64 x.r.late)) := fun W hb => ⟨hb, cell_below z0 hb, cell_below z1 hb, cell_below z2 hb, cell_below z3 hb⟩
          have k1 := Lib.hid (fun W (h : RInts W x.A x.r.prof) => luse_any x.r x.A x.c i i W h (by have := hs.2; omega) (by omega) (by omega) wi.1 wi.2)
          have k2 := Lib.hid (fun W (h : RInts W x.A x.r.prof) => rluse_any x.r x.A x.c i i W h (by have := hs.2; omega) (by omega) (by omega) wi.1 wi.2)
          have k3 := Lib.hid (fun W (h : RInts W x.A x.r.prof) => lenergy_any x.r x.A x.c W h (by have := hs.2; omega))
          have k4 := Lib.hid (fun W (h : RInts W x.A x.r.prof) => rlenergy_any x.r x.A x.c W h (by have := hs.2; omega))
          simp only [Ld.v] at k1 k2 k3 k4
          generalize x.r.use i i = u at *
          generalize x.r.energy = en at *
          clear z0 z1 z2 z3 hs
          go_wp2_with fail
          go_region_held3 (fun w' => Below wr.heap.size wr w' ∧ w'.cell? ⟨b, of + k * 4, none⟩ = some (.string x.r.name) ∧ w'.cell? ⟨b, of + k * 4 + 1, none⟩ = some (.slice x.A x.r.prof.length x.c) ∧ w'.cell? ⟨b, of + k * 4 + 2, none⟩ = some (.int .i64 x.r.early) ∧ w'.cell? ⟨b, of + k * 4 + 3, none⟩ = some (.int .i64 x.r.late))
            (first | exact HK.out _ (Below.refl _ _) | exact HK.out _ (Below.drew (Below.refl _ _)) | exact HK.out _ (Below.drew (by assumption)) | exact HK.out _ (Below.drew (And.left (by assumption))) | exact HK.out _ (Below.trans (by first | assumption | exact And.left (by assumption) | exact Below.refl _ _ | exact Below.drew (Below.refl _ _) | exact Below.drew (by assumption) | exact Below.drew (And.left (by assumption))) (Below.mono (by assumption) (Below.size (by first | assumption | exact And.left (by assumption) | exact Below.refl _ _ | exact Below.drew (Below.refl _ _) | exact Below.drew (by assumption) | exact Below.drew (And.left (by assumption)))))))
            (first
              | (go_at_call 18; refine (k1.out _ (HPR.out.below (by first | assumption | exact And.left (by assumption) | exact Below.refl _ _ | exact Below.drew (Below.refl _ _) | exact Below.drew (by assumption) | exact Below.drew (And.left (by assumption))))).mono ?_; rintro e w4 ⟨rfl, hb4⟩)
              | (go_at_call 19; refine (k2.out _ (HPR.out.below (by first | assumption | exact And.left (by assumption) | exact Below.refl _ _ | exact Below.drew (Below.refl _ _) | exact Below.drew (by assumption) | exact Below.drew (And.left (by assumption))))).mono ?_; rintro e w5 ⟨rfl, hb5⟩)
              | (go_at_call 20; refine (k3.out _ (HPR.out.below (by first | assumption | exact And.left (by assumption) | exact Below.refl _ _ | exact Below.drew (Below.refl _ _) | exact Below.drew (by assumption) | exact Below.drew (And.left (by assumption))))).mono ?_; rintro e w6 ⟨rfl, hb6⟩)
              | (go_at_call 21; refine (k4.out _ (HPR.out.below (by first | assumption | exact And.left (by assumption) | exact Below.refl _ _ | exact Below.drew (Below.refl _ _) | exact Below.drew (by assumption) | exact Below.drew (And.left (by assumption))))).mono ?_; rintro e w7 ⟨rfl, hb7⟩))
          go_wp2_with fail
          go_roundw
          case rel => exact ⟨k + 1, by omega, by go_num, HB.out.trans (Below.mono (by first | assumption | exact And.left (by assumption) | exact Below.refl _ _ | exact Below.drew (Below.refl _ _) | exact Below.drew (by assumption) | exact Below.drew (And.left (by assumption))) HB.out.size)⟩
          case measure => simp [intOf]; omega
      · go_wp2_with fail
        refine (HU.out _ (hA.out.below HB.out) (hBr.out.below HB.out)).mono ?_
        rintro e w2 ⟨A1, c1, rfl, hr1, _, hb2⟩
        have HB2 := Lib.hid (HB.out.trans (hb2.mono HB.out.size))
        have R1 := Lib.hid hr1
        clear hb2 hBw hr1
        go_wp2_with fail
        refine (HRU.out _ (hA.out.below HB2.out) (hBr.out.below HB2.out)).mono ?_
        rintro e w3 ⟨A2, c2, rfl, hr2, _, hb3⟩
        have HB3 := Lib.hid (HB2.out.trans (hb3.mono HB2.out.size))
        have R2 := Lib.hid (R1.out.below hb3)
        have R3 := Lib.hid hr2
        clear hb3 hr2
        go_wp2_with fail
        refine (equal_at us us rfl rfl R2.out R3.out (by omega)).mono ?_
        rintro e w4 ⟨rfl, hb4⟩
        have HB4 := Lib.hid (HB3.out.trans (hb4.mono HB3.out.size))
        clear hb4
        go_wp2_with fail
        refine (awake_any _).mono ?_
        rintro e w9 ⟨rfl, hb9⟩
        have hO := Lib.hid (HB4.out.trans (hb9.mono HB4.out.size))
        clear hb9
        go_wp2_with fail
        go_ret
        exact ⟨rfl, hO.out⟩
end Go.Proofs.Ytnibhdpgjmdkeaa
