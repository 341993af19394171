/-
  The walk of the law LoadShifts (layer 41).
-/
import Derived.Test.YtnibhdpgjmdkeaaL22
import Derived.Deep.RegionHeld3
import Derived.Deep.DrawnRows
namespace Go.Proofs.Ytnibhdpgjmdkeaa
open Go.RowKit
attribute [local go_sem ↓] Go.wp_at_zero Go.wp_at_succ

theorem LdX.cellsW {r : Ld} {A : Option Addr} {c : Nat} {w W : World} (h : LdX r A c w W) : W.cell? ⟨w.heap.size, 0, none⟩ = some (.string r.name) ∧ W.cell? ⟨w.heap.size, 1, none⟩ = some (.slice A r.prof.length c) ∧ W.cell? ⟨w.heap.size, 2, none⟩ = some (.int .i64 r.early) ∧ W.cell? ⟨w.heap.size, 3, none⟩ = some (.int .i64 r.late) ∧ w.heap.size < W.heap.size := by
  obtain ⟨a, b, c, d⟩ := h.cells
  exact ⟨a, b, c, d, by have := h.s.size; omega⟩
set_option maxHeartbeats 8000000 in
theorem shifts_law (r : Ld) (A : Option Addr) (c : Nat) (k : Int) (w : World) (hA : RInts w A r.prof) (hm : r.prof.length ≤ maxLen) :
    Calls Try.prog 5 #[r.v A c, .int .i64 k] w fun e w' => e = .returned (.bool true) ∧ Below w.heap.size w w' := by
  have hf := Lib.hid (few1_any (c := c) (W := w.alloc (.cells #[.string r.name, .slice A r.prof.length c, .int .i64 r.early, .int .i64 r.late] 24)) hA hm rfl)
  simp only [World.size_alloc] at hf
  simp only [Ld.v]
  cases hg0 : r.few1
  all_goals rw [hg0] at hf
  · go_enter Try.func5, Try.ntmps5
    go_wp2_with fail
    refine hf.out.mono ?_
    rintro e w1 ⟨rfl, rfl⟩
    go_wp2_with fail
    refine (awake_any _).mono ?_
    rintro e w2 ⟨rfl, hb2⟩
    have hO : Hid (Below w.heap.size w w2) := (((Below.refl _ _).alloc (Nat.le_refl _) _).alloc (by simp) _).trans (hb2.mono (by simp; omega))
    clear hb2
    go_wp2_with fail
    go_ret
    exact ⟨rfl, hO.out⟩
  · obtain ⟨n1, l1⟩ := Ld.few1_true hg0
    have h0 := Lib.hid ((LdX.first (c := c) hA n1 l1).mk' ((Below.refl _ _).alloc (Nat.le_refl _) (.cells #[.string r.name, .slice A r.prof.length c, .int .i64 r.early, .int .i64 r.late] 24)))
    clear hg0 hm n1 l1
    go_enter Try.func5, Try.ntmps5
    go_wp2_with fail
    refine hf.out.mono ?_
    rintro e w1 ⟨rfl, rfl⟩
    obtain ⟨W1, hW1⟩ : ∃ W1, W1 = (w.alloc (.cells #[.string r.name, .slice A r.prof.length c, .int .i64 r.early, .int .i64 r.late] 24)).alloc (.cells #[.string r.name, .slice A r.prof.length c, .int .i64 r.early, .int .i64 r.late] 24) := ⟨_, rfl⟩
    rw [← hW1] at h0 ⊢
    clear hW1
    have c1 := Lib.hid (fun W (h : LdX r A c w W) => h.cShift k)
    have c2 := Lib.hid (fun W (h : LdX r A c w W) => h.cRShift k)
    have hpl : (r.shift k).prof.length < 1000000000 := by
      have := h0.out.len
      cases hc : r.canShift k
      · rw [Ld.shift_no hc]; simp [Ld.zero]
      · rw [Ld.shift_yes hc]; exact this
    generalize r.shift k = m at *
    generalize r.canShift k = ok at *
    obtain ⟨x0, x1, x2, x3, hz1⟩ := h0.out.cellsW
    go_wp2_with fail
    clear x0 x1 x2 x3
    refine (c1.out _ h0.out).mono ?_
    rintro e w2 ⟨A1, c1', rfl, hr1, _, hb2⟩
    have h2 := Lib.hid (h0.out.mk' hb2)
    have R1 := Lib.hid (hr1.alloc (.cells #[.string m.name, .slice A1 m.prof.length c1', .int .i64 m.early, .int .i64 m.late] 24))
    have M1 := Lib.hid (Blk.new w2 24 #[.string m.name, .slice A1 m.prof.length c1', .int .i64 m.early, .int .i64 m.late])
    obtain ⟨x0, x1, x2, x3, hz2⟩ := h2.out.cellsW
    clear hb2 hr1 h0
    go_wp2_with fail
    clear x0 x1 x2 x3
    have h3 := Lib.hid (h2.out.mk' ((Below.refl _ _).alloc (Nat.le_refl _) (.cells #[.string m.name, .slice A1 m.prof.length c1', .int .i64 m.early, .int .i64 m.late] 24)))
    refine (c2.out _ h3.out).mono ?_
    rintro e w4 ⟨A2, c2', rfl, hr2, _, hb4⟩
    have h4 := Lib.hid (h3.out.mk' hb4)
    have M4 := M1.out.below hb4 M1.out.lt
    have R4 := Lib.hid ((R1.out.below hb4).alloc (.cells #[.string m.name, .slice A2 m.prof.length c2', .int .i64 m.early, .int .i64 m.late] 24))
    have R2 := Lib.hid (hr2.alloc (.cells #[.string m.name, .slice A2 m.prof.length c2', .int .i64 m.early, .int .i64 m.late] 24))
    have u0 := M4.cell 0; have u1 := M4.cell 1; have u2 := M4.cell 2; have u3 := M4.cell 3
    have hz4 := M4.lt
    simp only [List.getElem?_toArray, List.getElem?_cons_zero, List.getElem?_cons_succ] at u0 u1 u2 u3
    have hS := Lib.hid (lsame_any m m A1 A2 c1' c2' _ R4.out R2.out hpl rfl)
    simp only [Ld.v] at hS
    clear hb4 hr2 M4 M1 R1
    go_wp2_with fail
    refine hS.out.mono ?_
    rintro e w5 ⟨rfl, hb5⟩
    have h5 := Lib.hid ((h4.out.mk' ((Below.refl _ _).alloc (Nat.le_refl _) (.cells #[.string m.name, .slice A2 m.prof.length c2', .int .i64 m.early, .int .i64 m.late] 24))).mk' hb5)
    clear u0 u1 u2 u3 hb5
    go_wp2_with fail
    refine (awake_any _).mono ?_
    rintro e w6 ⟨rfl, hb6⟩
    have h6 := Lib.hid (h5.out.mk' hb6)
    go_wp2_with fail
    go_ret
    exact ⟨rfl, h6.out.out⟩
end Go.Proofs.Ytnibhdpgjmdkeaa
