/-
  The walk of the law ThermalHolds (layer 40).
-/
import Derived.Test.YtohgcenfhglfdaaTL0
import Derived.Test.YtohgcenfhglfdaaTP4
import Derived.Deep.RegionHeld3
import Derived.Deep.DrawnRows
namespace Go.Proofs.Ytohgcenfhglfdaa
open Go.RowKit
attribute [local go_sem ↓] Go.wp_at_zero Go.wp_at_succ
attribute [local go_sem] undef

theorem RoomX.keepL {s : Rm} {A B : Option Addr} {c d : Nat} {w1 W W' : World} {n b k : Nat} {x y z : Int} (h : RoomX s A c B d w1 W) (k0 : W.cell? ⟨n, 0, none⟩ = some (.int .i64 x)) (k1 : W.cell? ⟨n, 1, none⟩ = some (.int .i64 y)) (k2 : W.cell? ⟨b, k, none⟩ = some (.int .i64 z)) (hb : Below W.heap.size W W') : Below W.heap.size W W' ∧ W'.cell? ⟨w1.heap.size, 0, none⟩ = some (.int .i64 s.gain) ∧ W'.cell? ⟨w1.heap.size, 1, none⟩ = some (.int .i64 s.loss) ∧ W'.cell? ⟨w1.heap.size, 2, none⟩ = some (.int .i64 s.steps) ∧ W'.cell? ⟨w1.heap.size, 3, none⟩ = some (.int .i64 s.power) ∧ W'.cell? ⟨w1.heap.size, 4, none⟩ = some (.slice A s.low.length c) ∧ W'.cell? ⟨w1.heap.size, 5, none⟩ = some (.slice B s.high.length d) ∧ W'.cell? ⟨n, 0, none⟩ = some (.int .i64 x) ∧ W'.cell? ⟨n, 1, none⟩ = some (.int .i64 y) ∧ W'.cell? ⟨b, k, none⟩ = some (.int .i64 z) := by
  obtain ⟨y0, y1, y2, y3, y4, y5⟩ := (h.mk' hb).cells
  exact ⟨hb, y0, y1, y2, y3, y4, y5, cell_below k0 hb, cell_below k1 hb, cell_below k2 hb⟩

set_option linter.unusedSimpArgs false in
set_option maxHeartbeats 8000000 in
theorem holds_law (r : Rm) (A B : Option Addr) (c d : Nat) (i x y : Int) (w : World) (hA : RInts w A r.low) (hB : RInts w B r.high) :
    Calls Try.prog 8 #[r.v A c B d, .int .i64 i, .agg #[.int .i64 x, .int .i64 y]] w fun e w' => e = .returned (.bool true) ∧ Below w.heap.size w w' := by
  have h00 := RoomX.first (c := c) (d := d) hA hB
  have h0 : RoomX r A c B d w ((roomX r A c B d w).alloc (.cells #[.int .i64 x, .int .i64 y] 30)) := h00.mk' ((Below.refl _ _).alloc (Nat.le_refl _) _)
  have k0 : (((roomX r A c B d w).alloc (.cells #[.int .i64 x, .int .i64 y] 30))).cell? ⟨w.heap.size + 1, 0, none⟩ = some (.int .i64 x) := by simp [roomX]
  have k1 : (((roomX r A c B d w).alloc (.cells #[.int .i64 x, .int .i64 y] 30))).cell? ⟨w.heap.size + 1, 1, none⟩ = some (.int .i64 y) := by simp [roomX]
  have HC := fun W (h : RoomX r A c B d w W) => h.cRCheck r.low.length
  have hcs : r.chk r.low.length ≠ 0 ∨ (r.chk r.low.length = 0 ∧ i < 0) ∨ (r.chk r.low.length = 0 ∧ ¬ i < 0 ∧ (r.low.length : Int) ≤ i) ∨ (r.chk r.low.length = 0 ∧ 0 ≤ i ∧ i < (r.low.length : Int)) := by omega
  simp only [Rm.v] at ⊢
  rcases hcs with q | ⟨q, q1⟩ | ⟨q, q1, q2⟩ | ⟨q, q1, q2⟩
  · have hne : (r.chk r.low.length != 0) = true := by simpa using q
    have hc := Lib.hid HC
    clear HC q k0 k1
    generalize r.chk r.low.length = k at *
    go_enter Try.func8, Try.ntmps8
    go_wp2_with fail
    refine (hc.out _ h0).mono ?_
    rintro e v1 ⟨rfl, hb1⟩
    have h1 := h0.mk' hb1
    clear hb1
    go_wp2_with fail
    refine (lives_any _).mono ?_
    rintro e v2 ⟨rfl, hb2⟩
    go_wp2_with fail
    go_ret
    exact ⟨rfl, (h1.mk' hb2).out⟩
  · rw [q] at HC
    have hc := Lib.hid HC
    clear HC q k0 k1
    go_enter Try.func8, Try.ntmps8
    go_wp2_with fail
    refine (hc.out _ h0).mono ?_
    rintro e v1 ⟨rfl, hb1⟩
    have h1 := h0.mk' hb1
    clear hb1
    go_wp2_with fail
    refine (lives_any _).mono ?_
    rintro e v2 ⟨rfl, hb2⟩
    go_wp2_with fail
    go_ret
    exact ⟨rfl, (h1.mk' hb2).out⟩
  · rw [q] at HC
    have hc := Lib.hid HC
    clear HC q k0 k1
    go_enter Try.func8, Try.ntmps8
    go_wp2_with fail
    refine (hc.out _ h0).mono ?_
    rintro e v1 ⟨rfl, hb1⟩
    have h1 := h0.mk' hb1
    obtain ⟨z0, z1, z2, z3, z4, z5⟩ := h1.cells
    clear hb1
    go_wp2_with fail
    refine (lives_any _).mono ?_
    rintro e v2 ⟨rfl, hb2⟩
    go_wp2_with fail
    go_ret
    exact ⟨rfl, (h1.mk' hb2).out⟩
  · have hok : r.ok = true := by simpa [Rm.ok] using q
    rw [q] at HC
    have HH := fun W (h : RoomX r A c B d w W) => h.cHold i x y
    have hsp := Rm.hold_spec hok q1 q2 x y
    rw [Rm.valid_ok hok] at HH
    have HS := fun W (h : RoomX r A c B d w W) (k : Int) => h.cStep x y k
    rw [Rm.valid_ok hok] at HS
    have s1 := (Rm.good hok).s1
    clear q hok
    obtain ⟨j, rfl⟩ := Int.eq_ofNat_of_zero_le q1
    rw [Int.toNat_natCast] at hsp
    have hj : j < r.low.length := by omega
    obtain ⟨ba, oa, hAe, hab, hac⟩ := hA.at' hj
    subst hAe
    rw [getD_eq hj] at hac
    have HS1 := fun W (h : RoomX r (some ⟨ba, oa, none⟩) c B d w W) => HS W h (r.hold j x y)
    have HS2 := fun W (h : RoomX r (some ⟨ba, oa, none⟩) c B d w W) => HS W h (r.hold j x y - 1)
    clear HS
    generalize r.low.getD j 0 = lo at *
    generalize r.step x y (r.hold j x y) = u at *
    generalize r.step x y (r.hold j x y - 1) = v at *
    generalize r.hold j x y = h at *
    obtain ⟨a1, a2, a3, a4⟩ := hsp
    have kl : (((roomX r (some ⟨ba, oa, none⟩) c B d w).alloc (.cells #[.int .i64 x, .int .i64 y] 30))).cell? ⟨ba, oa + j, none⟩ = some (.int .i64 lo) := (h0.out.cell (p := ⟨ba, oa + j, none⟩) hab).trans hac
    have hc := Lib.hid HC
    have c1 := Lib.hid HH
    have c2 := Lib.hid HS1
    have c3 := Lib.hid HS2
    clear HC HH HS1 HS2 hA hB hac hab h00
    go_enter Try.func8, Try.ntmps8
    go_wp2_with fail
    refine (hc.out _ h0).mono ?_
    rintro e v1 ⟨rfl, hb1⟩
    have h1 := h0.mk' hb1
    have j0 := cell_below k0 hb1
    have j1 := cell_below k1 hb1
    have jl := cell_below kl hb1
    obtain ⟨z0, z1, z2, z3, z4, z5⟩ := h1.cells
    have p0 := j0; have p1 := j1
    clear h0 k0 k1 kl hb1
    have hj0 : ¬ (j : Int) < 0 := by omega
    have hj2 : ¬ (r.low.length : Int) ≤ (j : Int) := by omega
    go_wp2_with fail
    clear z0 z1 z2 z3 z4 z5 p0 p1
    refine (c1.out _ h1).mono ?_
    rintro e v2 ⟨rfl, hb2⟩
    have h2 := h1.mk' hb2
    have i0 := cell_below j0 hb2
    have i1 := cell_below j1 hb2
    have il := cell_below jl hb2
    clear h1 j0 j1 jl hb2
    obtain ⟨z0, z1, z2, z3, z4, z5⟩ := h2.cells
    go_wp2_with fail
    clear z0 z1 z2 z3 z4 z5
    by_cases hu : u < lo
    · have heq : h = r.steps := by omega
      have hne : (h != r.steps) = false := by simp [heq]
      clear heq a3
      go_region_held3 (fun w' => Below v2.heap.size v2 w' ∧ w'.cell? ⟨w.heap.size, 0, none⟩ = some (.int .i64 r.gain) ∧ w'.cell? ⟨w.heap.size, 1, none⟩ = some (.int .i64 r.loss) ∧ w'.cell? ⟨w.heap.size, 2, none⟩ = some (.int .i64 r.steps) ∧ w'.cell? ⟨w.heap.size, 3, none⟩ = some (.int .i64 r.power) ∧ w'.cell? ⟨w.heap.size, 4, none⟩ = some (.slice (some ⟨ba, oa, none⟩) r.low.length c) ∧ w'.cell? ⟨w.heap.size, 5, none⟩ = some (.slice B r.high.length d) ∧ w'.cell? ⟨w.heap.size + 1, 0, none⟩ = some (.int .i64 x) ∧ w'.cell? ⟨w.heap.size + 1, 1, none⟩ = some (.int .i64 y) ∧ w'.cell? ⟨ba, oa + j, none⟩ = some (.int .i64 lo))
        (first | exact h2.keepL i0 i1 il (Below.refl _ _) | exact h2.keepL i0 i1 il (Below.drew (Below.refl _ _)) | exact h2.keepL i0 i1 il (Below.drew (by assumption)) | exact h2.keepL i0 i1 il (Below.drew (And.left (by assumption))) | exact h2.keepL i0 i1 il (Below.trans (by first | assumption | exact And.left (by assumption) | exact Below.refl _ _ | exact Below.drew (Below.refl _ _) | exact Below.drew (by assumption) | exact Below.drew (And.left (by assumption))) (Below.mono (by assumption) (Below.size (by first | assumption | exact And.left (by assumption) | exact Below.refl _ _ | exact Below.drew (Below.refl _ _) | exact Below.drew (by assumption) | exact Below.drew (And.left (by assumption)))))))
        (first
          | (go_at_call 24; refine (c2.out _ (h2.mk' (by first | assumption | exact And.left (by assumption) | exact Below.refl _ _ | exact Below.drew (Below.refl _ _) | exact Below.drew (by assumption) | exact Below.drew (And.left (by assumption))))).mono ?_; rintro e v3 ⟨rfl, hb3⟩))

      have hB3 : Below v2.heap.size v2 v3 := by first | assumption | exact And.left (by assumption)
      have h3 := h2.mk' hB3
      have e0 := cell_below i0 hB3
      have e1 := cell_below i1 hB3
      have el := cell_below il hB3
      clear h2 i0 i1 il
      by_cases hz : h = 0
      · have he : (h == 0) = true := by simp [hz]
        clear hz a4
        go_wp2_with fail
        refine wp_region_held_drew (S := (fun w' => Below v3.heap.size v3 w' ∧ w'.cell? ⟨w.heap.size, 0, none⟩ = some (.int .i64 r.gain) ∧ w'.cell? ⟨w.heap.size, 1, none⟩ = some (.int .i64 r.loss) ∧ w'.cell? ⟨w.heap.size, 2, none⟩ = some (.int .i64 r.steps) ∧ w'.cell? ⟨w.heap.size, 3, none⟩ = some (.int .i64 r.power) ∧ w'.cell? ⟨w.heap.size, 4, none⟩ = some (.slice (some ⟨ba, oa, none⟩) r.low.length c) ∧ w'.cell? ⟨w.heap.size, 5, none⟩ = some (.slice B r.high.length d) ∧ w'.cell? ⟨w.heap.size + 1, 0, none⟩ = some (.int .i64 x) ∧ w'.cell? ⟨w.heap.size + 1, 1, none⟩ = some (.int .i64 y) ∧ w'.cell? ⟨ba, oa + j, none⟩ = some (.int .i64 lo))) (by kernel_rfl) (by (first | exact h3.keepL e0 e1 el (Below.refl _ _) | exact h3.keepL e0 e1 el (Below.drew (Below.refl _ _)) | exact h3.keepL e0 e1 el (Below.drew (by assumption)) | exact h3.keepL e0 e1 el (Below.drew (And.left (by assumption))) | exact h3.keepL e0 e1 el (Below.trans (by first | assumption | exact And.left (by assumption) | exact Below.refl _ _ | exact Below.drew (Below.refl _ _) | exact Below.drew (by assumption) | exact Below.drew (And.left (by assumption))) (Below.mono (by assumption) (Below.size (by first | assumption | exact And.left (by assumption) | exact Below.refl _ _ | exact Below.drew (Below.refl _ _) | exact Below.drew (by assumption) | exact Below.drew (And.left (by assumption)))))))) (fun hHeld => ?_)
        refine wpAnyH_take (i := 0) (v := ?_) rfl (by kernel_rfl) (by kernel_rfl) (by kernel_rfl) (fun _ _ _ h => h) (Or.inl ⟨by rfl, ?_⟩) (by assumption) ?_
        rotate_left
        · (intro w' hSw; (try dsimp only at hSw); go_simp; try with_reducible rfl)
        (try simp only [List.getElem_toArray, List.getElem_cons_zero, List.getElem_cons_succ, Act.put, List.setIfInBounds_toArray, List.set_cons_zero, List.set_cons_succ])
        refine wpAnyH_take (i := 1) (v := ?_) rfl (by kernel_rfl) (by kernel_rfl) (by kernel_rfl) (fun _ _ _ h => h) (Or.inl ⟨by rfl, ?_⟩) (by assumption) ?_
        rotate_left
        · (intro w' hSw; (try dsimp only at hSw); go_simp; try with_reducible rfl)
        (try simp only [List.getElem_toArray, List.getElem_cons_zero, List.getElem_cons_succ, Act.put, List.setIfInBounds_toArray, List.set_cons_zero, List.set_cons_succ])
        refine wpAnyH_take (i := 2) (v := ?_) rfl (by kernel_rfl) (by kernel_rfl) (by kernel_rfl) (fun _ _ _ h => h) (Or.inl ⟨by rfl, ?_⟩) (by assumption) ?_
        rotate_left
        · (intro w' hSw; (try dsimp only at hSw); go_simp; try with_reducible rfl)
        (try simp only [List.getElem_toArray, List.getElem_cons_zero, List.getElem_cons_succ, Act.put, List.setIfInBounds_toArray, List.set_cons_zero, List.set_cons_succ])
        refine wpAnyH_take (i := 3) (v := undef) rfl (by kernel_rfl) (by kernel_rfl) (by kernel_rfl) (fun _ _ _ h => h) (Or.inr ⟨by rfl, rfl⟩) (by assumption) ?_
        (try simp only [List.getElem_toArray, List.getElem_cons_zero, List.getElem_cons_succ, Act.put, List.setIfInBounds_toArray, List.set_cons_zero, List.set_cons_succ])
        refine wpAnyH_take (i := 4) (v := undef) rfl (by kernel_rfl) (by kernel_rfl) (by kernel_rfl) (fun _ _ _ h => h) (Or.inr ⟨by rfl, rfl⟩) (by assumption) ?_
        (try simp only [List.getElem_toArray, List.getElem_cons_zero, List.getElem_cons_succ, Act.put, List.setIfInBounds_toArray, List.set_cons_zero, List.set_cons_succ])
        refine wpAnyH_take (i := 5) (v := undef) rfl (by kernel_rfl) (by kernel_rfl) (by kernel_rfl) (fun _ _ _ h => h) (Or.inr ⟨by rfl, rfl⟩) (by assumption) ?_
        (try simp only [List.getElem_toArray, List.getElem_cons_zero, List.getElem_cons_succ, Act.put, List.setIfInBounds_toArray, List.set_cons_zero, List.set_cons_succ])
        refine wpAnyH_take (i := 6) (v := undef) rfl (by kernel_rfl) (by kernel_rfl) (by kernel_rfl) (fun _ _ _ h => h) (Or.inr ⟨by rfl, rfl⟩) (by assumption) ?_
        (try simp only [List.getElem_toArray, List.getElem_cons_zero, List.getElem_cons_succ, Act.put, List.setIfInBounds_toArray, List.set_cons_zero, List.set_cons_succ])
        refine wpAnyH_take (i := 7) (v := undef) rfl (by kernel_rfl) (by kernel_rfl) (by kernel_rfl) (fun _ _ _ h => h) (Or.inr ⟨by rfl, rfl⟩) (by assumption) ?_
        (try simp only [List.getElem_toArray, List.getElem_cons_zero, List.getElem_cons_succ, Act.put, List.setIfInBounds_toArray, List.set_cons_zero, List.set_cons_succ])
        refine wpAnyH_take (i := 8) (v := undef) rfl (by kernel_rfl) (by kernel_rfl) (by kernel_rfl) (fun _ _ _ h => h) (Or.inr ⟨by rfl, rfl⟩) (by assumption) ?_
        (try simp only [List.getElem_toArray, List.getElem_cons_zero, List.getElem_cons_succ, Act.put, List.setIfInBounds_toArray, List.set_cons_zero, List.set_cons_succ])
        refine wpAnyH_take (i := 9) (v := undef) rfl (by kernel_rfl) (by kernel_rfl) (by kernel_rfl) (fun _ _ _ h => h) (Or.inr ⟨by rfl, rfl⟩) (by assumption) ?_
        (try simp only [List.getElem_toArray, List.getElem_cons_zero, List.getElem_cons_succ, Act.put, List.setIfInBounds_toArray, List.set_cons_zero, List.set_cons_succ])
        refine wpAnyH_take (i := 10) (v := undef) rfl (by kernel_rfl) (by kernel_rfl) (by kernel_rfl) (fun _ _ _ h => h) (Or.inr ⟨by rfl, rfl⟩) (by assumption) ?_
        (try simp only [List.getElem_toArray, List.getElem_cons_zero, List.getElem_cons_succ, Act.put, List.setIfInBounds_toArray, List.set_cons_zero, List.set_cons_succ])
        refine wpAnyH_take (i := 11) (v := undef) rfl (by kernel_rfl) (by kernel_rfl) (by kernel_rfl) (fun _ _ _ h => h) (Or.inr ⟨by rfl, rfl⟩) (by assumption) ?_
        (try simp only [List.getElem_toArray, List.getElem_cons_zero, List.getElem_cons_succ, Act.put, List.setIfInBounds_toArray, List.set_cons_zero, List.set_cons_succ])
        refine wpAnyH_take (i := 12) (v := undef) rfl (by kernel_rfl) (by kernel_rfl) (by kernel_rfl) (fun _ _ _ h => h) (Or.inr ⟨by rfl, rfl⟩) (by assumption) ?_
        (try simp only [List.getElem_toArray, List.getElem_cons_zero, List.getElem_cons_succ, Act.put, List.setIfInBounds_toArray, List.set_cons_zero, List.set_cons_succ])
        refine wpAnyH_take (i := 13) (v := undef) rfl (by kernel_rfl) (by kernel_rfl) (by kernel_rfl) (fun _ _ _ h => h) (Or.inr ⟨by rfl, rfl⟩) (by assumption) ?_
        (try simp only [List.getElem_toArray, List.getElem_cons_zero, List.getElem_cons_succ, Act.put, List.setIfInBounds_toArray, List.set_cons_zero, List.set_cons_succ])
        refine wpAnyH_take (i := 14) (v := undef) rfl (by kernel_rfl) (by kernel_rfl) (by kernel_rfl) (fun _ _ _ h => h) (Or.inr ⟨by rfl, rfl⟩) (by assumption) ?_
        (try simp only [List.getElem_toArray, List.getElem_cons_zero, List.getElem_cons_succ, Act.put, List.setIfInBounds_toArray, List.set_cons_zero, List.set_cons_succ])
        refine wpAnyH_take (i := 15) (v := undef) rfl (by kernel_rfl) (by kernel_rfl) (by kernel_rfl) (fun _ _ _ h => h) (Or.inr ⟨by rfl, rfl⟩) (by assumption) ?_
        (try simp only [List.getElem_toArray, List.getElem_cons_zero, List.getElem_cons_succ, Act.put, List.setIfInBounds_toArray, List.set_cons_zero, List.set_cons_succ])
        refine wpAnyH_take (i := 16) (v := undef) rfl (by kernel_rfl) (by kernel_rfl) (by kernel_rfl) (fun _ _ _ h => h) (Or.inr ⟨by rfl, rfl⟩) (by assumption) ?_
        (try simp only [List.getElem_toArray, List.getElem_cons_zero, List.getElem_cons_succ, Act.put, List.setIfInBounds_toArray, List.set_cons_zero, List.set_cons_succ])
        refine wpAnyH_take (i := 17) (v := ?_) rfl (by kernel_rfl) (by kernel_rfl) (by kernel_rfl) (fun _ _ _ h => h) (Or.inl ⟨by rfl, ?_⟩) (by assumption) ?_
        rotate_left
        · (intro w' hSw; (try dsimp only at hSw); go_simp; try with_reducible rfl)
        (try simp only [List.getElem_toArray, List.getElem_cons_zero, List.getElem_cons_succ, Act.put, List.setIfInBounds_toArray, List.set_cons_zero, List.set_cons_succ])
        refine wpAnyH_take (i := 18) (v := ?_) rfl (by kernel_rfl) (by kernel_rfl) (by kernel_rfl) (fun _ _ _ h => h) (Or.inl ⟨by rfl, ?_⟩) (by assumption) ?_
        rotate_left
        · (intro w' hSw; (try dsimp only at hSw); go_simp; try with_reducible rfl)
        (try simp only [List.getElem_toArray, List.getElem_cons_zero, List.getElem_cons_succ, Act.put, List.setIfInBounds_toArray, List.set_cons_zero, List.set_cons_succ])
        refine wpAnyH_ready (rs := [19]) (by kernel_rfl) (by simp) ?_
        refine AllReadyH.cons rfl (fun K hK => ?_) AllReadyH.nil
        go_simp
        refine (lives_any _).mono ?_; rintro e v5 ⟨rfl, hb5⟩
        go_wp2_with fail
        refine hK.out _ _ (by (first | exact h3.keepL e0 e1 el (Below.refl _ _) | exact h3.keepL e0 e1 el (Below.drew (Below.refl _ _)) | exact h3.keepL e0 e1 el (Below.drew (by assumption)) | exact h3.keepL e0 e1 el (Below.drew (And.left (by assumption))) | exact h3.keepL e0 e1 el (Below.trans (by first | assumption | exact And.left (by assumption) | exact Below.refl _ _ | exact Below.drew (Below.refl _ _) | exact Below.drew (by assumption) | exact Below.drew (And.left (by assumption))) (Below.mono (by assumption) (Below.size (by first | assumption | exact And.left (by assumption) | exact Below.refl _ _ | exact Below.drew (Below.refl _ _) | exact Below.drew (by assumption) | exact Below.drew (And.left (by assumption)))))))) (fun hHeld => ?_)
        clear hK K
        (try simp only [List.getElem_toArray, List.getElem_cons_zero, List.getElem_cons_succ, Act.put, List.setIfInBounds_toArray, List.set_cons_zero, List.set_cons_succ])
        refine wpAnyH_take (i := 20) (v := ?_) rfl (by kernel_rfl) (by kernel_rfl) (by kernel_rfl) (fun _ _ _ h => h) (Or.inl ⟨by rfl, ?_⟩) (by assumption) ?_
        rotate_left
        · (intro w' hSw; (try dsimp only at hSw); go_simp; try with_reducible rfl)
        (try simp only [List.getElem_toArray, List.getElem_cons_zero, List.getElem_cons_succ, Act.put, List.setIfInBounds_toArray, List.set_cons_zero, List.set_cons_succ])
        refine wpAnyH_take (i := 21) (v := ?_) rfl (by kernel_rfl) (by kernel_rfl) (by kernel_rfl) (fun _ _ _ h => h) (Or.inl ⟨by rfl, ?_⟩) (by assumption) ?_
        rotate_left
        · (intro w' hSw; (try dsimp only at hSw); go_simp; try with_reducible rfl)
        (try simp only [List.getElem_toArray, List.getElem_cons_zero, List.getElem_cons_succ, Act.put, List.setIfInBounds_toArray, List.set_cons_zero, List.set_cons_succ])
        refine wpAnyH_done (by kernel_rfl) ?_ _
        go_wp2_with fail
        go_ret
        exact ⟨rfl, (h3.mk' (by first | assumption | exact And.left (by assumption))).out⟩
      · have he : (h == 0) = false := by simp [hz]
        have hv := a4 (by omega)
        have hwr : IntKind.i64.wrap (h - 1) = h - 1 := IntWalk.i64_in _ (by omega)
        clear hz a4
        go_wp2_with fail
        go_region_held3 (fun w' => Below v3.heap.size v3 w' ∧ w'.cell? ⟨w.heap.size, 0, none⟩ = some (.int .i64 r.gain) ∧ w'.cell? ⟨w.heap.size, 1, none⟩ = some (.int .i64 r.loss) ∧ w'.cell? ⟨w.heap.size, 2, none⟩ = some (.int .i64 r.steps) ∧ w'.cell? ⟨w.heap.size, 3, none⟩ = some (.int .i64 r.power) ∧ w'.cell? ⟨w.heap.size, 4, none⟩ = some (.slice (some ⟨ba, oa, none⟩) r.low.length c) ∧ w'.cell? ⟨w.heap.size, 5, none⟩ = some (.slice B r.high.length d) ∧ w'.cell? ⟨w.heap.size + 1, 0, none⟩ = some (.int .i64 x) ∧ w'.cell? ⟨w.heap.size + 1, 1, none⟩ = some (.int .i64 y) ∧ w'.cell? ⟨ba, oa + j, none⟩ = some (.int .i64 lo))
          (first | exact h3.keepL e0 e1 el (Below.refl _ _) | exact h3.keepL e0 e1 el (Below.drew (Below.refl _ _)) | exact h3.keepL e0 e1 el (Below.drew (by assumption)) | exact h3.keepL e0 e1 el (Below.drew (And.left (by assumption))) | exact h3.keepL e0 e1 el (Below.trans (by first | assumption | exact And.left (by assumption) | exact Below.refl _ _ | exact Below.drew (Below.refl _ _) | exact Below.drew (by assumption) | exact Below.drew (And.left (by assumption))) (Below.mono (by assumption) (Below.size (by first | assumption | exact And.left (by assumption) | exact Below.refl _ _ | exact Below.drew (Below.refl _ _) | exact Below.drew (by assumption) | exact Below.drew (And.left (by assumption)))))))
          (first
            | (go_at_call 24; refine (c3.out _ (h3.mk' (by first | assumption | exact And.left (by assumption) | exact Below.refl _ _ | exact Below.drew (Below.refl _ _) | exact Below.drew (by assumption) | exact Below.drew (And.left (by assumption))))).mono ?_; rintro e v4 ⟨rfl, hb4⟩)
            | (go_at_call 14; refine (lives_any _).mono ?_; rintro e v5 ⟨rfl, hb5⟩))
        go_wp2_with fail
        go_ret
        exact ⟨rfl, (h3.mk' (by first | assumption | exact And.left (by assumption))).out⟩
    · have hud : decide (u < lo) = false := by rw [decide_eq_false_iff_not]; exact hu
      clear a3
      refine wp_region_held_drew (S := (fun w' => Below v2.heap.size v2 w' ∧ w'.cell? ⟨w.heap.size, 0, none⟩ = some (.int .i64 r.gain) ∧ w'.cell? ⟨w.heap.size, 1, none⟩ = some (.int .i64 r.loss) ∧ w'.cell? ⟨w.heap.size, 2, none⟩ = some (.int .i64 r.steps) ∧ w'.cell? ⟨w.heap.size, 3, none⟩ = some (.int .i64 r.power) ∧ w'.cell? ⟨w.heap.size, 4, none⟩ = some (.slice (some ⟨ba, oa, none⟩) r.low.length c) ∧ w'.cell? ⟨w.heap.size, 5, none⟩ = some (.slice B r.high.length d) ∧ w'.cell? ⟨w.heap.size + 1, 0, none⟩ = some (.int .i64 x) ∧ w'.cell? ⟨w.heap.size + 1, 1, none⟩ = some (.int .i64 y) ∧ w'.cell? ⟨ba, oa + j, none⟩ = some (.int .i64 lo))) (by kernel_rfl) (by (first | exact h2.keepL i0 i1 il (Below.refl _ _) | exact h2.keepL i0 i1 il (Below.drew (Below.refl _ _)) | exact h2.keepL i0 i1 il (Below.drew (by assumption)) | exact h2.keepL i0 i1 il (Below.drew (And.left (by assumption))) | exact h2.keepL i0 i1 il (Below.trans (by first | assumption | exact And.left (by assumption) | exact Below.refl _ _ | exact Below.drew (Below.refl _ _) | exact Below.drew (by assumption) | exact Below.drew (And.left (by assumption))) (Below.mono (by assumption) (Below.size (by first | assumption | exact And.left (by assumption) | exact Below.refl _ _ | exact Below.drew (Below.refl _ _) | exact Below.drew (by assumption) | exact Below.drew (And.left (by assumption)))))))) (fun hHeld => ?_)
      refine wpAnyH_take (i := 0) (v := ?_) rfl (by kernel_rfl) (by kernel_rfl) (by kernel_rfl) (fun _ _ _ h => h) (Or.inl ⟨by rfl, ?_⟩) (by assumption) ?_
      rotate_left
      · (intro w' hSw; (try dsimp only at hSw); go_simp; try with_reducible rfl)
      (try simp only [List.getElem_toArray, List.getElem_cons_zero, List.getElem_cons_succ, Act.put, List.setIfInBounds_toArray, List.set_cons_zero, List.set_cons_succ])
      refine wpAnyH_take (i := 1) (v := ?_) rfl (by kernel_rfl) (by kernel_rfl) (by kernel_rfl) (fun _ _ _ h => h) (Or.inl ⟨by rfl, ?_⟩) (by assumption) ?_
      rotate_left
      · (intro w' hSw; (try dsimp only at hSw); go_simp; try with_reducible rfl)
      (try simp only [List.getElem_toArray, List.getElem_cons_zero, List.getElem_cons_succ, Act.put, List.setIfInBounds_toArray, List.set_cons_zero, List.set_cons_succ])
      refine wpAnyH_take (i := 2) (v := ?_) rfl (by kernel_rfl) (by kernel_rfl) (by kernel_rfl) (fun _ _ _ h => h) (Or.inl ⟨by rfl, ?_⟩) (by assumption) ?_
      rotate_left
      · (intro w' hSw; (try dsimp only at hSw); go_simp; try with_reducible rfl)
      (try simp only [List.getElem_toArray, List.getElem_cons_zero, List.getElem_cons_succ, Act.put, List.setIfInBounds_toArray, List.set_cons_zero, List.set_cons_succ])
      refine wpAnyH_take (i := 3) (v := ?_) rfl (by kernel_rfl) (by kernel_rfl) (by kernel_rfl) (fun _ _ _ h => h) (Or.inl ⟨by rfl, ?_⟩) (by assumption) ?_
      rotate_left
      · (intro w' hSw; (try dsimp only at hSw); go_simp; try with_reducible rfl)
      (try simp only [List.getElem_toArray, List.getElem_cons_zero, List.getElem_cons_succ, Act.put, List.setIfInBounds_toArray, List.set_cons_zero, List.set_cons_succ])
      refine wpAnyH_take (i := 4) (v := ?_) rfl (by kernel_rfl) (by kernel_rfl) (by kernel_rfl) (fun _ _ _ h => h) (Or.inl ⟨by rfl, ?_⟩) (by assumption) ?_
      rotate_left
      · (intro w' hSw; (try dsimp only at hSw); go_simp; try with_reducible rfl)
      (try simp only [List.getElem_toArray, List.getElem_cons_zero, List.getElem_cons_succ, Act.put, List.setIfInBounds_toArray, List.set_cons_zero, List.set_cons_succ])
      refine wpAnyH_take (i := 5) (v := ?_) rfl (by kernel_rfl) (by kernel_rfl) (by kernel_rfl) (fun _ _ _ h => h) (Or.inl ⟨by rfl, ?_⟩) (by assumption) ?_
      rotate_left
      · (intro w' hSw; (try dsimp only at hSw); go_simp; try with_reducible rfl)
      (try simp only [List.getElem_toArray, List.getElem_cons_zero, List.getElem_cons_succ, Act.put, List.setIfInBounds_toArray, List.set_cons_zero, List.set_cons_succ])
      refine wpAnyH_take (i := 7) (v := ?_) rfl (by kernel_rfl) (by kernel_rfl) (by kernel_rfl) (fun _ _ _ h => h) (Or.inl ⟨by rfl, ?_⟩) (by assumption) ?_
      rotate_left
      · (intro w' hSw; (try dsimp only at hSw); go_simp; try with_reducible rfl)
      (try simp only [List.getElem_toArray, List.getElem_cons_zero, List.getElem_cons_succ, Act.put, List.setIfInBounds_toArray, List.set_cons_zero, List.set_cons_succ])
      refine wpAnyH_take (i := 8) (v := ?_) rfl (by kernel_rfl) (by kernel_rfl) (by kernel_rfl) (fun _ _ _ h => h) (Or.inl ⟨by rfl, ?_⟩) (by assumption) ?_
      rotate_left
      · (intro w' hSw; (try dsimp only at hSw); go_simp; try with_reducible rfl)
      (try simp only [List.getElem_toArray, List.getElem_cons_zero, List.getElem_cons_succ, Act.put, List.setIfInBounds_toArray, List.set_cons_zero, List.set_cons_succ])
      refine wpAnyH_take (i := 9) (v := ?_) rfl (by kernel_rfl) (by kernel_rfl) (by kernel_rfl) (fun _ _ _ h => h) (Or.inl ⟨by rfl, ?_⟩) (by assumption) ?_
      rotate_left
      · (intro w' hSw; (try dsimp only at hSw); go_simp; try with_reducible rfl)
      (try simp only [List.getElem_toArray, List.getElem_cons_zero, List.getElem_cons_succ, Act.put, List.setIfInBounds_toArray, List.set_cons_zero, List.set_cons_succ])
      refine wpAnyH_take (i := 10) (v := ?_) rfl (by kernel_rfl) (by kernel_rfl) (by kernel_rfl) (fun _ _ _ h => h) (Or.inl ⟨by rfl, ?_⟩) (by assumption) ?_
      rotate_left
      · (intro w' hSw; (try dsimp only at hSw); go_simp; try with_reducible rfl)
      (try simp only [List.getElem_toArray, List.getElem_cons_zero, List.getElem_cons_succ, Act.put, List.setIfInBounds_toArray, List.set_cons_zero, List.set_cons_succ])
      refine wpAnyH_take (i := 11) (v := ?_) rfl (by kernel_rfl) (by kernel_rfl) (by kernel_rfl) (fun _ _ _ h => h) (Or.inl ⟨by rfl, ?_⟩) (by assumption) ?_
      rotate_left
      · (intro w' hSw; (try dsimp only at hSw); go_simp; try with_reducible rfl)
      (try simp only [List.getElem_toArray, List.getElem_cons_zero, List.getElem_cons_succ, Act.put, List.setIfInBounds_toArray, List.set_cons_zero, List.set_cons_succ])
      refine wpAnyH_ready (rs := [6]) (by kernel_rfl) (by simp) ?_
      refine AllReadyH.cons rfl (fun K hK => ?_) AllReadyH.nil
      go_simp
      refine (c2.out _ (h2.mk' (by first | assumption | exact And.left (by assumption) | exact Below.refl _ _ | exact Below.drew (Below.refl _ _) | exact Below.drew (by assumption) | exact Below.drew (And.left (by assumption))))).mono ?_; rintro e v3 ⟨rfl, hb3⟩
      go_wp2_with fail
      refine hK.out _ _ (by (first | exact h2.keepL i0 i1 il (Below.refl _ _) | exact h2.keepL i0 i1 il (Below.drew (Below.refl _ _)) | exact h2.keepL i0 i1 il (Below.drew (by assumption)) | exact h2.keepL i0 i1 il (Below.drew (And.left (by assumption))) | exact h2.keepL i0 i1 il (Below.trans (by first | assumption | exact And.left (by assumption) | exact Below.refl _ _ | exact Below.drew (Below.refl _ _) | exact Below.drew (by assumption) | exact Below.drew (And.left (by assumption))) (Below.mono (by assumption) (Below.size (by first | assumption | exact And.left (by assumption) | exact Below.refl _ _ | exact Below.drew (Below.refl _ _) | exact Below.drew (by assumption) | exact Below.drew (And.left (by assumption)))))))) (fun hHeld => ?_)
      clear hK K
      (try simp only [List.getElem_toArray, List.getElem_cons_zero, List.getElem_cons_succ, Act.put, List.setIfInBounds_toArray, List.set_cons_zero, List.set_cons_succ])
      refine wpAnyH_take (i := 12) (v := ?_) rfl (by kernel_rfl) (by kernel_rfl) (by kernel_rfl) (fun _ _ _ h => h) (Or.inl ⟨by rfl, ?_⟩) (by assumption) ?_
      rotate_left
      · (intro w' hSw; (try dsimp only at hSw); go_simp; try with_reducible rfl)
      (try simp only [List.getElem_toArray, List.getElem_cons_zero, List.getElem_cons_succ, Act.put, List.setIfInBounds_toArray, List.set_cons_zero, List.set_cons_succ])
      refine wpAnyH_take (i := 13) (v := ?_) rfl (by kernel_rfl) (by kernel_rfl) (by kernel_rfl) (fun _ _ _ h => h) (Or.inl ⟨by rfl, ?_⟩) (by assumption) ?_
      rotate_left
      · (intro w' hSw; (try dsimp only at hSw); go_simp; try with_reducible rfl)
      (try simp only [List.getElem_toArray, List.getElem_cons_zero, List.getElem_cons_succ, Act.put, List.setIfInBounds_toArray, List.set_cons_zero, List.set_cons_succ])
      refine wpAnyH_take (i := 14) (v := undef) rfl (by kernel_rfl) (by kernel_rfl) (by kernel_rfl) (fun _ _ _ h => h) (Or.inr ⟨by rfl, rfl⟩) (by assumption) ?_
      (try simp only [List.getElem_toArray, List.getElem_cons_zero, List.getElem_cons_succ, Act.put, List.setIfInBounds_toArray, List.set_cons_zero, List.set_cons_succ])
      refine wpAnyH_take (i := 15) (v := undef) rfl (by kernel_rfl) (by kernel_rfl) (by kernel_rfl) (fun _ _ _ h => h) (Or.inr ⟨by rfl, rfl⟩) (by assumption) ?_
      (try simp only [List.getElem_toArray, List.getElem_cons_zero, List.getElem_cons_succ, Act.put, List.setIfInBounds_toArray, List.set_cons_zero, List.set_cons_succ])
      refine wpAnyH_take (i := 16) (v := undef) rfl (by kernel_rfl) (by kernel_rfl) (by kernel_rfl) (fun _ _ _ h => h) (Or.inr ⟨by rfl, rfl⟩) (by assumption) ?_
      (try simp only [List.getElem_toArray, List.getElem_cons_zero, List.getElem_cons_succ, Act.put, List.setIfInBounds_toArray, List.set_cons_zero, List.set_cons_succ])
      refine wpAnyH_take (i := 17) (v := undef) rfl (by kernel_rfl) (by kernel_rfl) (by kernel_rfl) (fun _ _ _ h => h) (Or.inr ⟨by rfl, rfl⟩) (by assumption) ?_
      (try simp only [List.getElem_toArray, List.getElem_cons_zero, List.getElem_cons_succ, Act.put, List.setIfInBounds_toArray, List.set_cons_zero, List.set_cons_succ])
      refine wpAnyH_take (i := 18) (v := ?_) rfl (by kernel_rfl) (by kernel_rfl) (by kernel_rfl) (fun _ _ _ h => h) (Or.inl ⟨by rfl, ?_⟩) (by assumption) ?_
      rotate_left
      · (intro w' hSw; (try dsimp only at hSw); go_simp; try with_reducible rfl)
      (try simp only [List.getElem_toArray, List.getElem_cons_zero, List.getElem_cons_succ, Act.put, List.setIfInBounds_toArray, List.set_cons_zero, List.set_cons_succ])
      refine wpAnyH_done (by kernel_rfl) ?_ _

      have hB3 : Below v2.heap.size v2 v3 := by first | assumption | exact And.left (by assumption)
      have h3 := h2.mk' hB3
      have e0 := cell_below i0 hB3
      have e1 := cell_below i1 hB3
      have el := cell_below il hB3
      clear h2 i0 i1 il
      by_cases hz : h = 0
      · have he : (h == 0) = true := by simp [hz]
        clear hz a4
        go_wp2_with fail
        refine wp_region_held_drew (S := (fun w' => Below v3.heap.size v3 w' ∧ w'.cell? ⟨w.heap.size, 0, none⟩ = some (.int .i64 r.gain) ∧ w'.cell? ⟨w.heap.size, 1, none⟩ = some (.int .i64 r.loss) ∧ w'.cell? ⟨w.heap.size, 2, none⟩ = some (.int .i64 r.steps) ∧ w'.cell? ⟨w.heap.size, 3, none⟩ = some (.int .i64 r.power) ∧ w'.cell? ⟨w.heap.size, 4, none⟩ = some (.slice (some ⟨ba, oa, none⟩) r.low.length c) ∧ w'.cell? ⟨w.heap.size, 5, none⟩ = some (.slice B r.high.length d) ∧ w'.cell? ⟨w.heap.size + 1, 0, none⟩ = some (.int .i64 x) ∧ w'.cell? ⟨w.heap.size + 1, 1, none⟩ = some (.int .i64 y) ∧ w'.cell? ⟨ba, oa + j, none⟩ = some (.int .i64 lo))) (by kernel_rfl) (by (first | exact h3.keepL e0 e1 el (Below.refl _ _) | exact h3.keepL e0 e1 el (Below.drew (Below.refl _ _)) | exact h3.keepL e0 e1 el (Below.drew (by assumption)) | exact h3.keepL e0 e1 el (Below.drew (And.left (by assumption))) | exact h3.keepL e0 e1 el (Below.trans (by first | assumption | exact And.left (by assumption) | exact Below.refl _ _ | exact Below.drew (Below.refl _ _) | exact Below.drew (by assumption) | exact Below.drew (And.left (by assumption))) (Below.mono (by assumption) (Below.size (by first | assumption | exact And.left (by assumption) | exact Below.refl _ _ | exact Below.drew (Below.refl _ _) | exact Below.drew (by assumption) | exact Below.drew (And.left (by assumption)))))))) (fun hHeld => ?_)
        refine wpAnyH_take (i := 0) (v := ?_) rfl (by kernel_rfl) (by kernel_rfl) (by kernel_rfl) (fun _ _ _ h => h) (Or.inl ⟨by rfl, ?_⟩) (by assumption) ?_
        rotate_left
        · (intro w' hSw; (try dsimp only at hSw); go_simp; try with_reducible rfl)
        (try simp only [List.getElem_toArray, List.getElem_cons_zero, List.getElem_cons_succ, Act.put, List.setIfInBounds_toArray, List.set_cons_zero, List.set_cons_succ])
        refine wpAnyH_take (i := 1) (v := ?_) rfl (by kernel_rfl) (by kernel_rfl) (by kernel_rfl) (fun _ _ _ h => h) (Or.inl ⟨by rfl, ?_⟩) (by assumption) ?_
        rotate_left
        · (intro w' hSw; (try dsimp only at hSw); go_simp; try with_reducible rfl)
        (try simp only [List.getElem_toArray, List.getElem_cons_zero, List.getElem_cons_succ, Act.put, List.setIfInBounds_toArray, List.set_cons_zero, List.set_cons_succ])
        refine wpAnyH_take (i := 2) (v := ?_) rfl (by kernel_rfl) (by kernel_rfl) (by kernel_rfl) (fun _ _ _ h => h) (Or.inl ⟨by rfl, ?_⟩) (by assumption) ?_
        rotate_left
        · (intro w' hSw; (try dsimp only at hSw); go_simp; try with_reducible rfl)
        (try simp only [List.getElem_toArray, List.getElem_cons_zero, List.getElem_cons_succ, Act.put, List.setIfInBounds_toArray, List.set_cons_zero, List.set_cons_succ])
        refine wpAnyH_take (i := 3) (v := undef) rfl (by kernel_rfl) (by kernel_rfl) (by kernel_rfl) (fun _ _ _ h => h) (Or.inr ⟨by rfl, rfl⟩) (by assumption) ?_
        (try simp only [List.getElem_toArray, List.getElem_cons_zero, List.getElem_cons_succ, Act.put, List.setIfInBounds_toArray, List.set_cons_zero, List.set_cons_succ])
        refine wpAnyH_take (i := 4) (v := undef) rfl (by kernel_rfl) (by kernel_rfl) (by kernel_rfl) (fun _ _ _ h => h) (Or.inr ⟨by rfl, rfl⟩) (by assumption) ?_
        (try simp only [List.getElem_toArray, List.getElem_cons_zero, List.getElem_cons_succ, Act.put, List.setIfInBounds_toArray, List.set_cons_zero, List.set_cons_succ])
        refine wpAnyH_take (i := 5) (v := undef) rfl (by kernel_rfl) (by kernel_rfl) (by kernel_rfl) (fun _ _ _ h => h) (Or.inr ⟨by rfl, rfl⟩) (by assumption) ?_
        (try simp only [List.getElem_toArray, List.getElem_cons_zero, List.getElem_cons_succ, Act.put, List.setIfInBounds_toArray, List.set_cons_zero, List.set_cons_succ])
        refine wpAnyH_take (i := 6) (v := undef) rfl (by kernel_rfl) (by kernel_rfl) (by kernel_rfl) (fun _ _ _ h => h) (Or.inr ⟨by rfl, rfl⟩) (by assumption) ?_
        (try simp only [List.getElem_toArray, List.getElem_cons_zero, List.getElem_cons_succ, Act.put, List.setIfInBounds_toArray, List.set_cons_zero, List.set_cons_succ])
        refine wpAnyH_take (i := 7) (v := undef) rfl (by kernel_rfl) (by kernel_rfl) (by kernel_rfl) (fun _ _ _ h => h) (Or.inr ⟨by rfl, rfl⟩) (by assumption) ?_
        (try simp only [List.getElem_toArray, List.getElem_cons_zero, List.getElem_cons_succ, Act.put, List.setIfInBounds_toArray, List.set_cons_zero, List.set_cons_succ])
        refine wpAnyH_take (i := 8) (v := undef) rfl (by kernel_rfl) (by kernel_rfl) (by kernel_rfl) (fun _ _ _ h => h) (Or.inr ⟨by rfl, rfl⟩) (by assumption) ?_
        (try simp only [List.getElem_toArray, List.getElem_cons_zero, List.getElem_cons_succ, Act.put, List.setIfInBounds_toArray, List.set_cons_zero, List.set_cons_succ])
        refine wpAnyH_take (i := 9) (v := undef) rfl (by kernel_rfl) (by kernel_rfl) (by kernel_rfl) (fun _ _ _ h => h) (Or.inr ⟨by rfl, rfl⟩) (by assumption) ?_
        (try simp only [List.getElem_toArray, List.getElem_cons_zero, List.getElem_cons_succ, Act.put, List.setIfInBounds_toArray, List.set_cons_zero, List.set_cons_succ])
        refine wpAnyH_take (i := 10) (v := undef) rfl (by kernel_rfl) (by kernel_rfl) (by kernel_rfl) (fun _ _ _ h => h) (Or.inr ⟨by rfl, rfl⟩) (by assumption) ?_
        (try simp only [List.getElem_toArray, List.getElem_cons_zero, List.getElem_cons_succ, Act.put, List.setIfInBounds_toArray, List.set_cons_zero, List.set_cons_succ])
        refine wpAnyH_take (i := 11) (v := undef) rfl (by kernel_rfl) (by kernel_rfl) (by kernel_rfl) (fun _ _ _ h => h) (Or.inr ⟨by rfl, rfl⟩) (by assumption) ?_
        (try simp only [List.getElem_toArray, List.getElem_cons_zero, List.getElem_cons_succ, Act.put, List.setIfInBounds_toArray, List.set_cons_zero, List.set_cons_succ])
        refine wpAnyH_take (i := 12) (v := undef) rfl (by kernel_rfl) (by kernel_rfl) (by kernel_rfl) (fun _ _ _ h => h) (Or.inr ⟨by rfl, rfl⟩) (by assumption) ?_
        (try simp only [List.getElem_toArray, List.getElem_cons_zero, List.getElem_cons_succ, Act.put, List.setIfInBounds_toArray, List.set_cons_zero, List.set_cons_succ])
        refine wpAnyH_take (i := 13) (v := undef) rfl (by kernel_rfl) (by kernel_rfl) (by kernel_rfl) (fun _ _ _ h => h) (Or.inr ⟨by rfl, rfl⟩) (by assumption) ?_
        (try simp only [List.getElem_toArray, List.getElem_cons_zero, List.getElem_cons_succ, Act.put, List.setIfInBounds_toArray, List.set_cons_zero, List.set_cons_succ])
        refine wpAnyH_take (i := 14) (v := undef) rfl (by kernel_rfl) (by kernel_rfl) (by kernel_rfl) (fun _ _ _ h => h) (Or.inr ⟨by rfl, rfl⟩) (by assumption) ?_
        (try simp only [List.getElem_toArray, List.getElem_cons_zero, List.getElem_cons_succ, Act.put, List.setIfInBounds_toArray, List.set_cons_zero, List.set_cons_succ])
        refine wpAnyH_take (i := 15) (v := undef) rfl (by kernel_rfl) (by kernel_rfl) (by kernel_rfl) (fun _ _ _ h => h) (Or.inr ⟨by rfl, rfl⟩) (by assumption) ?_
        (try simp only [List.getElem_toArray, List.getElem_cons_zero, List.getElem_cons_succ, Act.put, List.setIfInBounds_toArray, List.set_cons_zero, List.set_cons_succ])
        refine wpAnyH_take (i := 16) (v := undef) rfl (by kernel_rfl) (by kernel_rfl) (by kernel_rfl) (fun _ _ _ h => h) (Or.inr ⟨by rfl, rfl⟩) (by assumption) ?_
        (try simp only [List.getElem_toArray, List.getElem_cons_zero, List.getElem_cons_succ, Act.put, List.setIfInBounds_toArray, List.set_cons_zero, List.set_cons_succ])
        refine wpAnyH_take (i := 17) (v := ?_) rfl (by kernel_rfl) (by kernel_rfl) (by kernel_rfl) (fun _ _ _ h => h) (Or.inl ⟨by rfl, ?_⟩) (by assumption) ?_
        rotate_left
        · (intro w' hSw; (try dsimp only at hSw); go_simp; try with_reducible rfl)
        (try simp only [List.getElem_toArray, List.getElem_cons_zero, List.getElem_cons_succ, Act.put, List.setIfInBounds_toArray, List.set_cons_zero, List.set_cons_succ])
        refine wpAnyH_take (i := 18) (v := ?_) rfl (by kernel_rfl) (by kernel_rfl) (by kernel_rfl) (fun _ _ _ h => h) (Or.inl ⟨by rfl, ?_⟩) (by assumption) ?_
        rotate_left
        · (intro w' hSw; (try dsimp only at hSw); go_simp; try with_reducible rfl)
        (try simp only [List.getElem_toArray, List.getElem_cons_zero, List.getElem_cons_succ, Act.put, List.setIfInBounds_toArray, List.set_cons_zero, List.set_cons_succ])
        refine wpAnyH_ready (rs := [19]) (by kernel_rfl) (by simp) ?_
        refine AllReadyH.cons rfl (fun K hK => ?_) AllReadyH.nil
        go_simp
        refine (lives_any _).mono ?_; rintro e v5 ⟨rfl, hb5⟩
        go_wp2_with fail
        refine hK.out _ _ (by (first | exact h3.keepL e0 e1 el (Below.refl _ _) | exact h3.keepL e0 e1 el (Below.drew (Below.refl _ _)) | exact h3.keepL e0 e1 el (Below.drew (by assumption)) | exact h3.keepL e0 e1 el (Below.drew (And.left (by assumption))) | exact h3.keepL e0 e1 el (Below.trans (by first | assumption | exact And.left (by assumption) | exact Below.refl _ _ | exact Below.drew (Below.refl _ _) | exact Below.drew (by assumption) | exact Below.drew (And.left (by assumption))) (Below.mono (by assumption) (Below.size (by first | assumption | exact And.left (by assumption) | exact Below.refl _ _ | exact Below.drew (Below.refl _ _) | exact Below.drew (by assumption) | exact Below.drew (And.left (by assumption)))))))) (fun hHeld => ?_)
        clear hK K
        (try simp only [List.getElem_toArray, List.getElem_cons_zero, List.getElem_cons_succ, Act.put, List.setIfInBounds_toArray, List.set_cons_zero, List.set_cons_succ])
        refine wpAnyH_take (i := 20) (v := ?_) rfl (by kernel_rfl) (by kernel_rfl) (by kernel_rfl) (fun _ _ _ h => h) (Or.inl ⟨by rfl, ?_⟩) (by assumption) ?_
        rotate_left
        · (intro w' hSw; (try dsimp only at hSw); go_simp; try with_reducible rfl)
        (try simp only [List.getElem_toArray, List.getElem_cons_zero, List.getElem_cons_succ, Act.put, List.setIfInBounds_toArray, List.set_cons_zero, List.set_cons_succ])
        refine wpAnyH_take (i := 21) (v := ?_) rfl (by kernel_rfl) (by kernel_rfl) (by kernel_rfl) (fun _ _ _ h => h) (Or.inl ⟨by rfl, ?_⟩) (by assumption) ?_
        rotate_left
        · (intro w' hSw; (try dsimp only at hSw); go_simp; try with_reducible rfl)
        (try simp only [List.getElem_toArray, List.getElem_cons_zero, List.getElem_cons_succ, Act.put, List.setIfInBounds_toArray, List.set_cons_zero, List.set_cons_succ])
        refine wpAnyH_done (by kernel_rfl) ?_ _
        go_wp2_with fail
        go_ret
        exact ⟨rfl, (h3.mk' (by first | assumption | exact And.left (by assumption))).out⟩
      · have he : (h == 0) = false := by simp [hz]
        have hv := a4 (by omega)
        have hwr : IntKind.i64.wrap (h - 1) = h - 1 := IntWalk.i64_in _ (by omega)
        clear hz a4
        go_wp2_with fail
        go_region_held3 (fun w' => Below v3.heap.size v3 w' ∧ w'.cell? ⟨w.heap.size, 0, none⟩ = some (.int .i64 r.gain) ∧ w'.cell? ⟨w.heap.size, 1, none⟩ = some (.int .i64 r.loss) ∧ w'.cell? ⟨w.heap.size, 2, none⟩ = some (.int .i64 r.steps) ∧ w'.cell? ⟨w.heap.size, 3, none⟩ = some (.int .i64 r.power) ∧ w'.cell? ⟨w.heap.size, 4, none⟩ = some (.slice (some ⟨ba, oa, none⟩) r.low.length c) ∧ w'.cell? ⟨w.heap.size, 5, none⟩ = some (.slice B r.high.length d) ∧ w'.cell? ⟨w.heap.size + 1, 0, none⟩ = some (.int .i64 x) ∧ w'.cell? ⟨w.heap.size + 1, 1, none⟩ = some (.int .i64 y) ∧ w'.cell? ⟨ba, oa + j, none⟩ = some (.int .i64 lo))
          (first | exact h3.keepL e0 e1 el (Below.refl _ _) | exact h3.keepL e0 e1 el (Below.drew (Below.refl _ _)) | exact h3.keepL e0 e1 el (Below.drew (by assumption)) | exact h3.keepL e0 e1 el (Below.drew (And.left (by assumption))) | exact h3.keepL e0 e1 el (Below.trans (by first | assumption | exact And.left (by assumption) | exact Below.refl _ _ | exact Below.drew (Below.refl _ _) | exact Below.drew (by assumption) | exact Below.drew (And.left (by assumption))) (Below.mono (by assumption) (Below.size (by first | assumption | exact And.left (by assumption) | exact Below.refl _ _ | exact Below.drew (Below.refl _ _) | exact Below.drew (by assumption) | exact Below.drew (And.left (by assumption)))))))
          (first
            | (go_at_call 24; refine (c3.out _ (h3.mk' (by first | assumption | exact And.left (by assumption) | exact Below.refl _ _ | exact Below.drew (Below.refl _ _) | exact Below.drew (by assumption) | exact Below.drew (And.left (by assumption))))).mono ?_; rintro e v4 ⟨rfl, hb4⟩)
            | (go_at_call 14; refine (lives_any _).mono ?_; rintro e v5 ⟨rfl, hb5⟩))
        go_wp2_with fail
        go_ret
        exact ⟨rfl, (h3.mk' (by first | assumption | exact And.left (by assumption))).out⟩
end Go.Proofs.Ytohgcenfhglfdaa
