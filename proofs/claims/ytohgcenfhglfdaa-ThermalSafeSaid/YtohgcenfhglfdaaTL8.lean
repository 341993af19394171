/-
  The walk of the law ThermalSafe (layer 40).
-/
import Derived.Test.YtohgcenfhglfdaaTL0
import Derived.Test.YtohgcenfhglfdaaTP4
import Derived.Test.YtohgcenfhglfdaaTM2
import Derived.Deep.RegionHeld3
import Derived.Deep.DrawnRows
namespace Go.Proofs.Ytohgcenfhglfdaa
open Go.RowKit
attribute [local go_sem ↓] Go.wp_at_zero Go.wp_at_succ
attribute [local go_sem] undef

theorem RoomX.keepO {s : Rm} {A B : Option Addr} {c d : Nat} {w1 W W' : World} {b k : Nat} {z : Int} (h : RoomX s A c B d w1 W) (k2 : W.cell? ⟨b, k, none⟩ = some (.int .i64 z)) (hb : Below W.heap.size W W') : Below W.heap.size W W' ∧ W'.cell? ⟨w1.heap.size, 0, none⟩ = some (.int .i64 s.gain) ∧ W'.cell? ⟨w1.heap.size, 1, none⟩ = some (.int .i64 s.loss) ∧ W'.cell? ⟨w1.heap.size, 2, none⟩ = some (.int .i64 s.steps) ∧ W'.cell? ⟨w1.heap.size, 3, none⟩ = some (.int .i64 s.power) ∧ W'.cell? ⟨w1.heap.size, 4, none⟩ = some (.slice A s.low.length c) ∧ W'.cell? ⟨w1.heap.size, 5, none⟩ = some (.slice B s.high.length d) ∧ W'.cell? ⟨b, k, none⟩ = some (.int .i64 z) := by
  obtain ⟨y0, y1, y2, y3, y4, y5⟩ := (h.mk' hb).cells
  exact ⟨hb, y0, y1, y2, y3, y4, y5, cell_below k2 hb⟩
theorem ints_len {l : List Int} {w w' : World} {e : Ending} (h : IntsOut l w e w') : ∃ A c, e = .returned (.slice A l.length c) ∧ Below w.heap.size w w' := by
  obtain ⟨A, c, he, _, _, hb⟩ := h
  exact ⟨A, c, he, hb⟩
theorem outsT_small {l : List Int} (h : l.length ≤ 96) : outsT l = l := by unfold outsT; rw [if_neg (by omega)]

set_option maxHeartbeats 8000000 in
theorem safe_law (r : Rm) (A B : Option Addr) (c d : Nat) (t : Int) (C : Option Addr) (f : Nat) (l : List Int) (w : World) (hA : RInts w A r.low) (hB : RInts w B r.high) (hC : RInts w C l) (hf : l.length ≤ f) :
    Calls Try.prog 9 #[r.v A c B d, .int .i64 t, .slice C l.length f] w fun e w' => e = .returned (.bool true) ∧ Below w.heap.size w w' := by
  have h0 := RoomX.first (c := c) (d := d) hA hB
  have HC := fun W (h : RoomX r A c B d w W) => h.cRCheck r.low.length
  have hcs : r.chk r.low.length ≠ 0 ∨ (r.chk r.low.length = 0 ∧ (l.length : Int) < 1) ∨ (r.chk r.low.length = 0 ∧ ¬ (l.length : Int) < 1 ∧ (12 : Int) < (l.length : Int)) ∨ (r.chk r.low.length = 0 ∧ 1 ≤ l.length ∧ l.length ≤ 12) := by omega
  simp only [Rm.v] at ⊢
  rcases hcs with q | ⟨q, q1⟩ | ⟨q, q1, q2⟩ | ⟨q, q1, q2⟩
  · have hne : (r.chk r.low.length != 0) = true := by simpa using q
    have hc := Lib.hid HC
    clear HC q hf hA hB hC
    generalize r.chk r.low.length = k at *
    generalize l.length = n at *
    go_enter Try.func9, Try.ntmps9
    go_wp2_with fail
    refine (hc.out _ h0).mono ?_
    rintro e v1 ⟨rfl, hb1⟩
    have h1 := h0.mk' hb1
    clear hb1
    go_wp2_with fail
    refine (lives_any _).mono ?_
    rintro e v2 ⟨rfl, hb2⟩
    go_wp2_with fail
    go_ret
    exact ⟨rfl, (h1.mk' hb2).out⟩
  · rw [q] at HC
    have hc := Lib.hid HC
    clear HC q hf hA hB hC
    generalize l.length = n at *
    go_enter Try.func9, Try.ntmps9
    go_wp2_with fail
    refine (hc.out _ h0).mono ?_
    rintro e v1 ⟨rfl, hb1⟩
    have h1 := h0.mk' hb1
    clear hb1
    go_wp2_with fail
    refine (lives_any _).mono ?_
    rintro e v2 ⟨rfl, hb2⟩
    go_wp2_with fail
    go_ret
    exact ⟨rfl, (h1.mk' hb2).out⟩
  · rw [q] at HC
    have hc := Lib.hid HC
    clear HC q hf hA hB hC
    generalize l.length = n at *
    go_enter Try.func9, Try.ntmps9
    go_wp2_with fail
    refine (hc.out _ h0).mono ?_
    rintro e v1 ⟨rfl, hb1⟩
    have h1 := h0.mk' hb1
    clear hb1
    go_wp2_with fail
    refine (lives_any _).mono ?_
    rintro e v2 ⟨rfl, hb2⟩
    go_wp2_with fail
    go_ret
    exact ⟨rfl, (h1.mk' hb2).out⟩
  · have hok : r.ok = true := by simpa [Rm.ok] using q
    rw [q] at HC
    have H1 := fun W (h : RoomX r A c B d w W) => h.cSafe t (f := f) (hC.below h.out)
    have hol := outsT_small (l := l) (by omega)
    rw [hol, Rm.valid_ok hok] at H1
    obtain ⟨m, hm⟩ : ∃ m, l.length = m + 1 := ⟨l.length - 1, by omega⟩
    have H2 := fun W (h : RoomX r A c B d w W) => h.cSafe t (f := f) ((hC.take m).below h.out)
    have hol2 := outsT_small (l := l.take m) (by rw [List.length_take]; omega)
    have hlen2 : (l.take m).length = m := by rw [List.length_take]; omega
    rw [hol2, Rm.valid_ok hok, hlen2] at H2
    obtain ⟨bb, oo, hCe, hbb, hbc⟩ := hC.at' (show 0 < l.length by omega)
    subst hCe
    rw [getD_eq (show 0 < l.length by omega), Nat.add_zero] at hbc
    have H3 := fun W (h : RoomX r A c B d w W) => h.cChoices 0 t (l.getD 0 0)
    rw [Rm.valid_ok hok] at H3
    have hfirst := Rm.safe_first (s := r) (t := t) (outs := l) (by omega) rfl
    have hbd := r.safe_bd t l
    have htk := r.safe_take t (outs := l) (m := m) (by omega)
    rw [hm] at H1 hbd hf ⊢
    generalize l.getD 0 0 = ov at *
    have H4 := fun W (h : RoomX r A c B d w W) => (H3 W h).mono (fun _ _ hh => ints_len hh)
    clear H3
    generalize (r.choices 0 t ov).length = n at *
    generalize r.safe t (l.take m) = k2 at *
    generalize r.safe t l = k at *
    obtain ⟨b1, b2, b3⟩ := hbd
    have hc := Lib.hid HC
    have c1 := Lib.hid H1
    have c2 := Lib.hid H2
    have c3 := Lib.hid H4
    have kl : (roomX r A c B d w).cell? ⟨bb, oo, none⟩ = some (.int .i64 ov) := (h0.out.cell (p := ⟨bb, oo, none⟩) hbb).trans hbc
    have d1 : decide (k < 0) = false := by rw [decide_eq_false_iff_not]; omega
    have d2 : decide (((m + 1 : Nat) : Int) < k) = false := by rw [decide_eq_false_iff_not]; omega
    have d2' : decide ((m : Int) + 1 < k) = false := by rw [decide_eq_false_iff_not]; omega
    have d3 : decide ((r.low.length : Int) < k) = false := by rw [decide_eq_false_iff_not]; omega
    have q3 : ¬ (((m + 1 : Nat) : Int)) < 1 := by omega
    have q4 : ¬ (12 : Int) < (((m + 1 : Nat) : Int)) := by omega
    have hm12 : m ≤ 11 := by omega
    have hfm : m ≤ f := by omega
    clear HC H1 H2 H4 hA hB hC hbb hbc hol hol2 hlen2 hm q q1 q2 b1 b2 b3 hok
    have hkn : (decide (1 ≤ k) = true ∧ decide ((0 : Int) < (n : Int)) = true ∧ decide (0 < n) = true) ∨ (decide (1 ≤ k) = false ∧ decide ((0 : Int) < (n : Int)) = false ∧ decide (0 < n) = false) := by
      simp only [decide_eq_true_iff, decide_eq_false_iff_not]; omega
    clear hfirst
    rcases hkn with ⟨n1, n2, n3⟩ | ⟨n1, n2, n3⟩
    all_goals
      go_enter Try.func9, Try.ntmps9
      go_wp2_with fail
      refine (hc.out _ h0).mono ?_
      rintro e v1 ⟨rfl, hb1⟩
      have h1 := h0.mk' hb1
      have j0 := cell_below kl hb1
      obtain ⟨z0, z1, z2, z3, z4, z5⟩ := h1.cells
      clear h0 kl hb1
      go_wp2_with fail
      clear z0 z1 z2 z3 z4 z5
      refine (c1.out _ h1).mono ?_
      rintro e v2 ⟨rfl, hb2⟩
      have h2 := h1.mk' hb2
      have i0 := cell_below j0 hb2
      clear h1 j0 hb2
      go_wp2_with fail
      go_region_held3 (fun w' => Below v2.heap.size v2 w' ∧ w'.cell? ⟨w.heap.size, 0, none⟩ = some (.int .i64 r.gain) ∧ w'.cell? ⟨w.heap.size, 1, none⟩ = some (.int .i64 r.loss) ∧ w'.cell? ⟨w.heap.size, 2, none⟩ = some (.int .i64 r.steps) ∧ w'.cell? ⟨w.heap.size, 3, none⟩ = some (.int .i64 r.power) ∧ w'.cell? ⟨w.heap.size, 4, none⟩ = some (.slice A r.low.length c) ∧ w'.cell? ⟨w.heap.size, 5, none⟩ = some (.slice B r.high.length d) ∧ w'.cell? ⟨bb, oo, none⟩ = some (.int .i64 ov))
        (first | exact h2.keepO i0 (Below.refl _ _) | exact h2.keepO i0 (Below.drew (Below.refl _ _)) | exact h2.keepO i0 (Below.drew (by assumption)) | exact h2.keepO i0 (Below.drew (And.left (by assumption))) | exact h2.keepO i0 (Below.trans (by first | assumption | exact And.left (by assumption) | exact Below.refl _ _ | exact Below.drew (Below.refl _ _) | exact Below.drew (by assumption) | exact Below.drew (And.left (by assumption))) (Below.mono (by assumption) (Below.size (by first | assumption | exact And.left (by assumption) | exact Below.refl _ _ | exact Below.drew (Below.refl _ _) | exact Below.drew (by assumption) | exact Below.drew (And.left (by assumption)))))))
        (first
          | (go_at_call 16; refine (c3.out _ (h2.mk' (by first | assumption | exact And.left (by assumption) | exact Below.refl _ _ | exact Below.drew (Below.refl _ _) | exact Below.drew (by assumption) | exact Below.drew (And.left (by assumption))))).mono ?_; rintro e v3 ⟨A3, c3', rfl, hb3⟩))
      have hB3 : Below v2.heap.size v2 v3 := by first | assumption | exact And.left (by assumption)
      have h3 := h2.mk' hB3
      clear h2 i0
      have e1 : (m : Int) + 1 - 1 = (m : Int) := by omega
      have e2 : IntKind.i64.wrap (m : Int) = (m : Int) := IntWalk.i64_in _ (by omega)
      have e3 : IntKind.i64.wrap ((m : Int) + 1 - 1) = (m : Int) := by rw [e1]; exact e2
      have e4 : (0 : Int) ≤ (m : Int) := by omega
      have e5 : (m : Int) ≤ (f : Int) := by omega
      go_wp2_with fail
      go_region_held3 (fun w' => Below v3.heap.size v3 w' ∧ w'.cell? ⟨w.heap.size, 0, none⟩ = some (.int .i64 r.gain) ∧ w'.cell? ⟨w.heap.size, 1, none⟩ = some (.int .i64 r.loss) ∧ w'.cell? ⟨w.heap.size, 2, none⟩ = some (.int .i64 r.steps) ∧ w'.cell? ⟨w.heap.size, 3, none⟩ = some (.int .i64 r.power) ∧ w'.cell? ⟨w.heap.size, 4, none⟩ = some (.slice A r.low.length c) ∧ w'.cell? ⟨w.heap.size, 5, none⟩ = some (.slice B r.high.length d))
        (first | exact h3.keep (Below.refl _ _) | exact h3.keep (Below.drew (Below.refl _ _)) | exact h3.keep (Below.drew (by assumption)) | exact h3.keep (Below.drew (And.left (by assumption))) | exact h3.keep (Below.trans (by first | assumption | exact And.left (by assumption) | exact Below.refl _ _ | exact Below.drew (Below.refl _ _) | exact Below.drew (by assumption) | exact Below.drew (And.left (by assumption))) (Below.mono (by assumption) (Below.size (by first | assumption | exact And.left (by assumption) | exact Below.refl _ _ | exact Below.drew (Below.refl _ _) | exact Below.drew (by assumption) | exact Below.drew (And.left (by assumption)))))))
        (first
          | (go_at_call 22; refine (c2.out _ (h3.mk' (by first | assumption | exact And.left (by assumption) | exact Below.refl _ _ | exact Below.drew (Below.refl _ _) | exact Below.drew (by assumption) | exact Below.drew (And.left (by assumption))))).mono ?_; rintro e v4 ⟨rfl, hb4⟩)
          | (go_at_call 14; refine (lives_any _).mono ?_; rintro e v5 ⟨rfl, hb5⟩))
      go_wp2_with fail
      go_ret
      exact ⟨rfl, (h3.mk' (by first | assumption | exact And.left (by assumption))).out⟩
end Go.Proofs.Ytohgcenfhglfdaa
