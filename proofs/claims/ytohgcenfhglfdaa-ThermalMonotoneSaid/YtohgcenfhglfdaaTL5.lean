/-
  The walk of the law ThermalMonotone (layer 40).
-/
import Derived.Test.YtohgcenfhglfdaaTL0
import Derived.Test.YtohgcenfhglfdaaTP4
import Derived.Deep.RegionHeld3
import Derived.Deep.DrawnRows
namespace Go.Proofs.Ytohgcenfhglfdaa
open Go.RowKit
attribute [local go_sem ↓] Go.wp_at_zero Go.wp_at_succ

set_option maxHeartbeats 8000000 in
theorem monotone_law (r : Rm) (A B : Option Addr) (c d : Nat) (x0 x1 x2 y0 y1 : Int) (w : World) (hA : RInts w A r.low) (hB : RInts w B r.high) :
    Calls Try.prog 6 #[r.v A c B d, .agg #[.int .i64 x0, .int .i64 x1, .int .i64 x2], .agg #[.int .i64 y0, .int .i64 y1]] w fun e w' => e = .returned (.bool true) ∧ Below w.heap.size w w' := by
  have h00 := RoomX.first (c := c) (d := d) hA hB
  have h0 : RoomX r A c B d w (((roomX r A c B d w).alloc (.cells #[.int .i64 x0, .int .i64 x1, .int .i64 x2] 38)).alloc (.cells #[.int .i64 y0, .int .i64 y1] 30)) := (h00.mk' ((Below.refl _ _).alloc (Nat.le_refl _) _)).mk' ((Below.refl _ _).alloc (Nat.le_refl _) _)
  have k0 : ((((roomX r A c B d w).alloc (.cells #[.int .i64 x0, .int .i64 x1, .int .i64 x2] 38)).alloc (.cells #[.int .i64 y0, .int .i64 y1] 30))).cell? ⟨w.heap.size + 1, 0, none⟩ = some (.int .i64 x0) := by rw [World.cell?_alloc_lt _ _ _ (by simp [roomX])]; simp [roomX]
  have k1 : ((((roomX r A c B d w).alloc (.cells #[.int .i64 x0, .int .i64 x1, .int .i64 x2] 38)).alloc (.cells #[.int .i64 y0, .int .i64 y1] 30))).cell? ⟨w.heap.size + 1, 1, none⟩ = some (.int .i64 x1) := by rw [World.cell?_alloc_lt _ _ _ (by simp [roomX])]; simp [roomX]
  have k2 : ((((roomX r A c B d w).alloc (.cells #[.int .i64 x0, .int .i64 x1, .int .i64 x2] 38)).alloc (.cells #[.int .i64 y0, .int .i64 y1] 30))).cell? ⟨w.heap.size + 1, 2, none⟩ = some (.int .i64 x2) := by rw [World.cell?_alloc_lt _ _ _ (by simp [roomX])]; simp [roomX]
  have m0 : ((((roomX r A c B d w).alloc (.cells #[.int .i64 x0, .int .i64 x1, .int .i64 x2] 38)).alloc (.cells #[.int .i64 y0, .int .i64 y1] 30))).cell? ⟨w.heap.size + 2, 0, none⟩ = some (.int .i64 y0) := by
    have h := (Blk.new ((roomX r A c B d w).alloc (.cells #[.int .i64 x0, .int .i64 x1, .int .i64 x2] 38)) 30 #[.int .i64 y0, .int .i64 y1]).cell 0
    rw [show ((roomX r A c B d w).alloc (.cells #[.int .i64 x0, .int .i64 x1, .int .i64 x2] 38)).heap.size = w.heap.size + 2 from by simp [roomX]] at h
    exact h
  have m1 : ((((roomX r A c B d w).alloc (.cells #[.int .i64 x0, .int .i64 x1, .int .i64 x2] 38)).alloc (.cells #[.int .i64 y0, .int .i64 y1] 30))).cell? ⟨w.heap.size + 2, 1, none⟩ = some (.int .i64 y1) := by
    have h := (Blk.new ((roomX r A c B d w).alloc (.cells #[.int .i64 x0, .int .i64 x1, .int .i64 x2] 38)) 30 #[.int .i64 y0, .int .i64 y1]).cell 1
    rw [show ((roomX r A c B d w).alloc (.cells #[.int .i64 x0, .int .i64 x1, .int .i64 x2] 38)).heap.size = w.heap.size + 2 from by simp [roomX]] at h
    exact h
  have HG := great_any r A B c d
  have H1 := fun W (h : RoomX r A c B d w W) => h.cStep x0 x1 x2
  have H2 := fun W (h : RoomX r A c B d w W) => h.cStep y0 x1 y1
  have hmono : x0 ≤ y0 → x2 ≤ y1 → r.valid.step x0 x1 x2 ≤ r.valid.step y0 x1 y1 := fun a b => r.step_mono a b
  have hbd := r.valid.step_bd x0 x1 x2
  simp only [Rm.v] at HG ⊢
  generalize r.valid.step x0 x1 x2 = u at *
  generalize r.valid.step y0 x1 y1 = v at *
  generalize r.great = g at *
  obtain ⟨hb0, hb9⟩ := hbd
  have hg := Lib.hid HG
  have c1 := Lib.hid H1
  have c2 := Lib.hid H2
  have hm := Lib.hid hmono
  clear HG H1 H2 hmono hA hB h00
  cases g
  · go_enter Try.func6, Try.ntmps6
    go_wp2_with fail
    refine (hg.out _).mono ?_
    rintro e v1 ⟨rfl, hb1⟩
    have h1 := h0.mk' hb1
    obtain ⟨z0, z1, z2, z3, z4, z5⟩ := h1.cells
    have p0 := cell_below k0 hb1
    have p1 := cell_below k1 hb1
    have p2 := cell_below k2 hb1
    have p3 := cell_below m0 hb1
    have p4 := cell_below m1 hb1
    clear k0 k1 k2 m0 m1 h0
    have q0 := p0; have q1 := p1; have q2 := p2; have q3 := p3; have q4 := p4
    clear hb1
    go_wp2_with fail
    clear z0 z1 z2 z3 z4 z5 p0 p1 p2 p3 p4
    refine (c1.out _ h1).mono ?_
    rintro e v2 ⟨rfl, hb2⟩
    have h2 := h1.mk' hb2
    obtain ⟨z0, z1, z2, z3, z4, z5⟩ := h2.cells
    have p0 := cell_below q0 hb2
    have p1 := cell_below q1 hb2
    have p2 := cell_below q2 hb2
    have p3 := cell_below q3 hb2
    have p4 := cell_below q4 hb2
    clear q0 q1 q2 q3 q4
    by_cases k : y0 < x0
    · clear hb2 h1 hm
      go_wp2_with fail
      refine (lives_any _).mono ?_
      rintro e v3 ⟨rfl, hb3⟩
      go_wp2_with fail
      go_ret
      exact ⟨rfl, (h2.mk' hb3).out⟩
    · by_cases k' : y1 < x2
      · clear hb2 h1 hm
        go_wp2_with fail
        refine (lives_any _).mono ?_
        rintro e v3 ⟨rfl, hb3⟩
        go_wp2_with fail
        go_ret
        exact ⟨rfl, (h2.mk' hb3).out⟩
      · have huv := hm.out (by omega) (by omega)
        clear hb2 h1 hm
        go_wp2_with fail
        refine (c2.out _ h2).mono ?_
        rintro e v4 ⟨rfl, hb4⟩
        have h4 := h2.mk' hb4
        clear z0 z1 z2 z3 z4 z5 p0 p1 p2 p3 p4 h2 hb4
        go_wp2_with fail
        refine (lives_any _).mono ?_
        rintro e v3 ⟨rfl, hb3⟩
        go_wp2_with fail
        go_ret
        exact ⟨rfl, (h4.mk' hb3).out⟩
  · go_enter Try.func6, Try.ntmps6
    go_wp2_with fail
    refine (hg.out _).mono ?_
    rintro e v1 ⟨rfl, hb1⟩
    have h1 := h0.mk' hb1
    clear k0 k1 k2 m0 m1 hb1
    go_wp2_with fail
    refine (lives_any _).mono ?_
    rintro e v2 ⟨rfl, hb2⟩
    go_wp2_with fail
    go_ret
    exact ⟨rfl, (h1.mk' hb2).out⟩
end Go.Proofs.Ytohgcenfhglfdaa
