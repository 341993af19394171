/-
  The walk of the law LoadStarts (layer 41).
-/
import Derived.Test.YtnibhdpgjmdkeaaL22
import Derived.Deep.RegionHeld3
import Derived.Deep.DrawnRows
namespace Go.Proofs.Ytnibhdpgjmdkeaa
open Go.RowKit
attribute [local go_sem ↓] Go.wp_at_zero Go.wp_at_succ

set_option maxHeartbeats 8000000 in
theorem starts_law (r : Ld) (A : Option Addr) (c : Nat) (start n : Int) (w : World) (hA : RInts w A r.prof) (hm : r.prof.length ≤ maxLen) :
    Calls Try.prog 3 #[r.v A c, .int .i64 start, .int .i64 n] w fun e w' => e = .returned (.bool true) ∧ Below w.heap.size w w' := by
  have hf := Lib.hid (few1_any (c := c) (W := w.alloc (.cells #[.string r.name, .slice A r.prof.length c, .int .i64 r.early, .int .i64 r.late] 24)) hA hm rfl)
  simp only [World.size_alloc] at hf
  simp only [Ld.v]
  cases hg0 : r.few1
  all_goals rw [hg0] at hf
  · go_enter Try.func3, Try.ntmps3
    go_wp2_with fail
    refine hf.out.mono ?_
    rintro e w1 ⟨rfl, rfl⟩
    go_wp2_with fail
    refine (awake_any _).mono ?_
    rintro e w2 ⟨rfl, hb2⟩
    have hO : Hid (Below w.heap.size w w2) := (((Below.refl _ _).alloc (Nat.le_refl _) _).alloc (by simp) _).trans (hb2.mono (by simp; omega))
    clear hb2
    go_wp2_with fail
    go_ret
    exact ⟨rfl, hO.out⟩
  · obtain ⟨n1, l1⟩ := Ld.few1_true hg0
    have h0 := Lib.hid ((LdX.first (c := c) hA n1 l1).mk' ((Below.refl _ _).alloc (Nat.le_refl _) (.cells #[.string r.name, .slice A r.prof.length c, .int .i64 r.early, .int .i64 r.late] 24)))
    clear hg0 hm n1 l1
    go_enter Try.func3, Try.ntmps3
    go_wp2_with fail
    refine hf.out.mono ?_
    rintro e w1 ⟨rfl, rfl⟩
    obtain ⟨W1, hW1⟩ : ∃ W1, W1 = (w.alloc (.cells #[.string r.name, .slice A r.prof.length c, .int .i64 r.early, .int .i64 r.late] 24)).alloc (.cells #[.string r.name, .slice A r.prof.length c, .int .i64 r.early, .int .i64 r.late] 24) := ⟨_, rfl⟩
    rw [← hW1] at h0 ⊢
    clear hW1
    obtain ⟨x0, x1, x2, x3⟩ := h0.out.cells
    go_wp2_with fail
    clear x0 x1 x2 x3
    have hl := starts_len r n
    have c1 := Lib.hid (fun W (h : LdX r A c w W) => h.cStarts n)
    have c2 := Lib.hid (fun W (h : LdX r A c w W) => h.cRStarts n)
    have c3 := Lib.hid (fun W (h : LdX r A c w W) => h.cFit start n)
    have c4 := Lib.hid (fun W (h : LdX r A c w W) => h.cRFit start n)
    have c5 := Lib.hid (fun W (h : LdX r A c w W) => h.cLast)
    have c6 := Lib.hid (fun W (h : LdX r A c w W) => h.cRLast)
    generalize r.starts n = xs at *
    generalize r.fit start n = ft at *
    generalize r.last = la at *
    go_region_held3 (fun w' => Below W1.heap.size W1 w' ∧ w'.cell? ⟨w.heap.size, 0, none⟩ = some (.string r.name) ∧ w'.cell? ⟨w.heap.size, 1, none⟩ = some (.slice A r.prof.length c) ∧ w'.cell? ⟨w.heap.size, 2, none⟩ = some (.int .i64 r.early) ∧ w'.cell? ⟨w.heap.size, 3, none⟩ = some (.int .i64 r.late))
      (first | exact h0.out.keep (Below.refl _ _) | exact h0.out.keep (Below.drew (Below.refl _ _)) | exact h0.out.keep (Below.drew (by assumption)) | exact h0.out.keep (Below.drew (And.left (by assumption))) | exact h0.out.keep (Below.trans (by first | assumption | exact And.left (by assumption) | exact Below.refl _ _ | exact Below.drew (Below.refl _ _) | exact Below.drew (by assumption) | exact Below.drew (And.left (by assumption))) (Below.mono (by assumption) (Below.size (by first | assumption | exact And.left (by assumption) | exact Below.refl _ _ | exact Below.drew (Below.refl _ _) | exact Below.drew (by assumption) | exact Below.drew (And.left (by assumption)))))))
      (first
        | (go_at_call 12; refine (c1.out _ (h0.out.mk' (by first | assumption | exact And.left (by assumption) | exact Below.refl _ _ | exact Below.drew (Below.refl _ _) | exact Below.drew (by assumption) | exact Below.drew (And.left (by assumption))))).mono ?_; rintro e w3 ⟨A1, c1', rfl, hr1, _, hb3⟩)
        | (go_at_call 13; refine (c2.out _ (h0.out.mk' (by first | assumption | exact And.left (by assumption) | exact Below.refl _ _ | exact Below.drew (Below.refl _ _) | exact Below.drew (by assumption) | exact Below.drew (And.left (by assumption))))).mono ?_; rintro e w4 ⟨A2, c2', rfl, hr2, _, hb4⟩; have hr1b := hr1.below hb4; clear hr1)
        | (go_at_call 11; refine (equal_at xs xs rfl rfl hr1b hr2 (by omega)).mono ?_; rintro e w5 ⟨rfl, hb5⟩; clear hr1b hr2)
        | (go_at_call 14; refine (c3.out _ (h0.out.mk' (by first | assumption | exact And.left (by assumption) | exact Below.refl _ _ | exact Below.drew (Below.refl _ _) | exact Below.drew (by assumption) | exact Below.drew (And.left (by assumption))))).mono ?_; rintro e w6 ⟨rfl, hb6⟩)
        | (go_at_call 15; refine (c4.out _ (h0.out.mk' (by first | assumption | exact And.left (by assumption) | exact Below.refl _ _ | exact Below.drew (Below.refl _ _) | exact Below.drew (by assumption) | exact Below.drew (And.left (by assumption))))).mono ?_; rintro e w7 ⟨rfl, hb7⟩)
        | (go_at_call 16; refine (c5.out _ (h0.out.mk' (by first | assumption | exact And.left (by assumption) | exact Below.refl _ _ | exact Below.drew (Below.refl _ _) | exact Below.drew (by assumption) | exact Below.drew (And.left (by assumption))))).mono ?_; rintro e w8 ⟨rfl, hb8⟩)
        | (go_at_call 17; refine (c6.out _ (h0.out.mk' (by first | assumption | exact And.left (by assumption) | exact Below.refl _ _ | exact Below.drew (Below.refl _ _) | exact Below.drew (by assumption) | exact Below.drew (And.left (by assumption))))).mono ?_; rintro e w9 ⟨rfl, hb9⟩)
        | (go_at_call 10; refine (awake_any _).mono ?_; rintro e w10 ⟨rfl, hb10⟩))
    go_wp2_with fail
    go_ret
    exact ⟨rfl, (h0.out.mk' (by first | assumption | exact And.left (by assumption))).out⟩
end Go.Proofs.Ytnibhdpgjmdkeaa
