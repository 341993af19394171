/-
  The walks of layer 40 (thermal), the reference, part 3: Choices, Hold.
-/
import Derived.Test.YtohgcenfhglfdaaTR2
namespace Go.Proofs.Ytohgcenfhglfdaa
open Go.RowKit
attribute [local go_sem ↓] Go.wp_at_zero Go.wp_at_succ

section
variable {s : Rm} {A B : Option Addr} {c d : Nat} {w1 W : World}
theorem RoomX.rstep (h : RoomX s A c B d w1 W) (hv : s.valid = s) (temp out heat : Int) :
    Calls Try.prog 25 #[.agg #[.int .i64 s.gain, .int .i64 s.loss, .int .i64 s.steps, .int .i64 s.power, .slice A s.low.length c, .slice B s.high.length d], .int .i64 temp, .int .i64 out, .int .i64 heat] W fun e w' => e = .returned (.int .i64 (stepT s.gain s.loss s.steps temp out heat)) ∧ Below W.heap.size W w' := by
  have h1 := rtstep_any s A B c d temp out heat W h.low h.high
  rw [hv] at h1
  exact h1
theorem RoomX.rok (h : RoomX s A c B d w1 W) (hv : s.valid = s) (i temp : Int) :
    Calls Try.prog 27 #[.agg #[.int .i64 s.gain, .int .i64 s.loss, .int .i64 s.steps, .int .i64 s.power, .slice A s.low.length c, .slice B s.high.length d], .int .i64 i, .int .i64 temp] W fun e w' => e = .returned (.bool (s.okAt i temp)) ∧ Below W.heap.size W w' := by
  have h1 := rtok_any s A B c d i temp W h.low h.high
  rw [hv] at h1
  exact h1
theorem RoomX.heldL {b o : Nat} {x : Int} {W' : World} (h : RoomX s A c B d w1 W) (hl : W.cell? ⟨b, o, none⟩ = some (.int .i64 x)) (hb : Below W.heap.size W W') : Below W.heap.size W W' ∧ W'.cell? ⟨w1.heap.size, 0, none⟩ = some (.int .i64 s.gain) ∧ W'.cell? ⟨w1.heap.size, 1, none⟩ = some (.int .i64 s.loss) ∧ W'.cell? ⟨w1.heap.size, 2, none⟩ = some (.int .i64 s.steps) ∧
    W'.cell? ⟨w1.heap.size, 3, none⟩ = some (.int .i64 s.power) ∧ W'.cell? ⟨w1.heap.size, 4, none⟩ = some (.slice A s.low.length c) ∧ W'.cell? ⟨w1.heap.size, 5, none⟩ = some (.slice B s.high.length d) ∧ W'.cell? ⟨b, o, none⟩ = some (.int .i64 x) := by
  obtain ⟨y0, y1, y2, y3, y4, y5⟩ := (h.mk' hb).cells
  exact ⟨hb, y0, y1, y2, y3, y4, y5, (hb.cell (p := ⟨b, o, none⟩) (World.block_lt_of_cell? _ _ hl)).trans hl⟩
end

set_option maxHeartbeats 4000000 in
theorem rtchoices_any (r : Rm) (A B : Option Addr) (c d : Nat) (i temp out : Int) (w : World) (hA : RInts w A r.low) (hB : RInts w B r.high) :
    Calls Try.prog 17 #[r.v A c B d, .int .i64 i, .int .i64 temp, .int .i64 out] w (IntsOut (r.valid.choices i temp out) w) := by
  have hv := fun w' hA' hB' => rvalid_any r A B c d w' hA' hB'
  have hf := r.fine
  have hvv := r.valid_valid
  generalize r.valid = s at *
  have hA1 : RInts (w.alloc (.cells #[.int .i64 r.gain, .int .i64 r.loss, .int .i64 r.steps, .int .i64 r.power, .slice A r.low.length c, .slice B r.high.length d] 24)) A r.low := hA.alloc _
  have hB1 : RInts (w.alloc (.cells #[.int .i64 r.gain, .int .i64 r.loss, .int .i64 r.steps, .int .i64 r.power, .slice A r.low.length c, .slice B r.high.length d] 24)) B r.high := hB.alloc _
  simp only [Rm.v] at hv ⊢
  have HV := Lib.hid hv
  have HA := Lib.hid hA1
  have HB := Lib.hid hB1
  have HF := Lib.hid hf
  have HVV := Lib.hid hvv
  have s0 := hf.s0
  have s1 := hf.s1
  have hl96 := hf.len1
  clear hv hA hB hA1 hB1 hf hvv
  obtain ⟨i0, hi, hz0, hz1, hz2⟩ := info_parts Try.infoInt
  rw [show s.choices i temp out = tchTo s i temp out (s.steps + 1).toNat from rfl]
  go_enter Try.func17, Try.ntmps17
  go_wp2_with fail
  refine (HV.out _ HA.out HB.out).mono ?_
  rintro e w1 ⟨A', c', B', d', rfl, hA', hB', hb1⟩
  have hW1 : Below w.heap.size w w1 := ((Below.refl _ _).alloc (Nat.le_refl _) _).trans (hb1.mono (by simp))
  clear HA HB HV hb1
  simp only [Rm.v]
  have hS0 : RoomX s A' c' B' d' w1 (roomX s A' c' B' d' w1) := ⟨by rw [← roomX_size (s := s) (A := A') (B := B') (c := c') (d := d')]; exact Below.refl _ _, hA', hB'⟩
  have HS := Lib.hid hS0
  clear hA' hB' hS0
  go_wp2_with fail
  go_loopw [9, 11] (fun o i' wr => ∃ k : Nat, (k : Int) ≤ s.steps + 1 ∧ i' = .int .i64 k ∧ wr.ownsRow (w1.heap.size + 1) 3 1 o (tchTo s i temp out k).length (ints (tchTo s i temp out k)) ∧ RoomX s A' c' B' d' w1 wr)
    (fun _ i' _ => (s.steps + 1).toNat - (intOf i').toNat)
  case atStart => exact ⟨0, by omega, rfl, World.ownsRow_nil _ _ _ _, HS.out⟩
  case round =>
    obtain ⟨k, hk, rfl, hown, hS⟩ := hrel
    have hlen := tchTo_len s i temp out k
    have hsz := hS.size
    obtain ⟨x0, x1, x2, x3, x4, x5⟩ := hS.cells
    by_cases hlt : (k : Int) ≤ s.steps
    · have hsucc := Lib.hid (tchTo_succ s i temp out k)
      generalize hok : s.okAt i (stepT s.gain s.loss s.steps temp out ↑k) = ok at *
      have HOK := Lib.hid hok
      clear hok
      go_wp2_with fail
      clear x0 x1 x2 x3 x4 x5
      go_region_held3 (fun w' => Below wr.heap.size wr w' ∧ w'.cell? ⟨w1.heap.size, 0, none⟩ = some (.int .i64 s.gain) ∧ w'.cell? ⟨w1.heap.size, 1, none⟩ = some (.int .i64 s.loss) ∧ w'.cell? ⟨w1.heap.size, 2, none⟩ = some (.int .i64 s.steps) ∧ w'.cell? ⟨w1.heap.size, 3, none⟩ = some (.int .i64 s.power) ∧ w'.cell? ⟨w1.heap.size, 4, none⟩ = some (.slice A' s.low.length c') ∧ w'.cell? ⟨w1.heap.size, 5, none⟩ = some (.slice B' s.high.length d'))
        (first | exact hS.held (Below.refl _ _) | exact hS.held (Below.drew (Below.refl _ _)) | exact hS.held (Below.trans (by first | assumption | exact And.left (by assumption) | exact Below.refl _ _ | exact Below.drew (Below.refl _ _)) (Below.mono (by assumption) (Below.size (by first | assumption | exact And.left (by assumption) | exact Below.refl _ _ | exact Below.drew (Below.refl _ _))))))
        (first
          | (go_at_call 25; refine ((hS.mk' (by first | assumption | exact And.left (by assumption) | exact Below.refl _ _ | exact Below.drew (Below.refl _ _))).rstep HVV.out temp out _).mono ?_; rintro e w3 ⟨rfl, hb3⟩)
          | (go_at_call 27; refine ((hS.mk' (by first | assumption | exact And.left (by assumption) | exact Below.refl _ _ | exact Below.drew (Below.refl _ _))).rok HVV.out i _).mono ?_; rintro e w4 ⟨rfl, hb4⟩; rw [HOK.out]))
      have hBw : Below wr.heap.size wr w4 := by first | assumption | exact And.left (by assumption)
      have hSw := hS.mk' hBw
      have hown4 := own_below hown hBw
      have hsz4 := hSw.size
      clear hown
      cases ok
      · go_wp2_with fail
        go_roundw
        case rel =>
          refine ⟨k + 1, by omega, by go_num, ?_, hSw⟩
          rw [hsucc.out, if_neg (by simp), List.append_nil]
          exact hown4
        case measure => simp [intOf]; omega
      · go_wp2_with (at_builtin; refine wpList_append_new _ _ rfl _ _ 22 rfl (w1.heap.size + 1) 3 i0 (.int .i64 0) 1 8 Try.underlying22 hi hz0 hz1 hz2 rfl (by decide) (by decide) _ _ _ rfl hown4 #[.int .i64 ↑k] rfl (one_int _ _) rfl rfl (by omega) (by omega) ?_)
        intro v' w5 hown5 hb5
        clear hown4
        go_wp2
        go_roundw
        case rel =>
          refine ⟨k + 1, by omega, by go_num, ?_, hSw.on hb5⟩
          rw [hsucc.out, if_pos (by simp), ints_append, List.length_append]
          exact hown5
        case measure => simp [intOf]; omega
    · have hkn : (s.steps + 1).toNat = k := by omega
      have HK := Lib.hid hkn
      clear hkn
      go_wp2_with fail
      go_ret
      rw [HK.out]
      exact ints_out hown (by have := hW1.size; omega) (hW1.trans (hS.from1.mono hW1.size))

theorem hold_le {s : Rm} {j : Nat} {temp out : Int} : ∀ {n : Nat}, (∀ x : Int, 0 ≤ x → x < (n : Int) → decide (s.low.getD j 0 ≤ stepT s.gain s.loss s.steps temp out x) = false) → holdTo (fun h => decide (s.low.getD j 0 ≤ stepT s.gain s.loss s.steps temp out h)) n = (n : Int) := fun h => holdTo_none h

set_option maxHeartbeats 4000000 in
theorem rthold_any (r : Rm) (A B : Option Addr) (c d : Nat) (i temp out : Int) (w : World) (hA : RInts w A r.low) (hB : RInts w B r.high) :
    Calls Try.prog 19 #[r.v A c B d, .int .i64 i, .int .i64 temp, .int .i64 out] w fun e w' => e = .returned (.int .i64 (r.valid.hold i temp out)) ∧ Below w.heap.size w w' := by
  have hv := fun w' hA' hB' => rvalid_any r A B c d w' hA' hB'
  have hf := r.fine
  have hvv := r.valid_valid
  generalize r.valid = s at *
  have hA1 : RInts (w.alloc (.cells #[.int .i64 r.gain, .int .i64 r.loss, .int .i64 r.steps, .int .i64 r.power, .slice A r.low.length c, .slice B r.high.length d] 24)) A r.low := hA.alloc _
  have hB1 : RInts (w.alloc (.cells #[.int .i64 r.gain, .int .i64 r.loss, .int .i64 r.steps, .int .i64 r.power, .slice A r.low.length c, .slice B r.high.length d] 24)) B r.high := hB.alloc _
  simp only [Rm.v] at hv ⊢
  have HV := Lib.hid hv
  have HA := Lib.hid hA1
  have HB := Lib.hid hB1
  have HF := Lib.hid hf
  have HVV := Lib.hid hvv
  have s0 := hf.s0
  have s1 := hf.s1
  have hl96 := hf.len1
  clear hv hA hB hA1 hB1 hf hvv
  by_cases hin : 0 ≤ i ∧ i < (s.low.length : Int)
  · obtain ⟨hi0, hi1⟩ := hin
    rw [hold_in hi0 hi1]
    obtain ⟨j, rfl⟩ := Int.eq_ofNat_of_zero_le hi0
    rw [Int.toNat_natCast]
    have hj : j < s.low.length := by omega
    have hgd := Lib.hid (getD_eq hj)
    have q1 : decide ((j : Int) < 0) = false := by simp
    have q2 : decide (s.low.length ≤ j) = false := by simp; omega
    go_enter Try.func19, Try.ntmps19
    go_wp2_with fail
    refine (HV.out _ HA.out HB.out).mono ?_
    rintro e w1 ⟨A', c', B', d', rfl, hA', hB', hb1⟩
    have hW1 : Below w.heap.size w w1 := ((Below.refl _ _).alloc (Nat.le_refl _) _).trans (hb1.mono (by simp))
    clear HA HB HV hb1
    simp only [Rm.v]
    have hS0 : RoomX s A' c' B' d' w1 (roomX s A' c' B' d' w1) := ⟨by rw [← roomX_size (s := s) (A := A') (B := B') (c := c') (d := d')]; exact Below.refl _ _, hA', hB'⟩
    have HS := Lib.hid hS0
    clear hA' hB' hS0
    go_wp2_with fail
    go_loopw [10] (fun i' wr => ∃ k : Nat, (k : Int) ≤ s.steps + 1 ∧ i' = .int .i64 k ∧ Hid (∀ x : Int, 0 ≤ x → x < (k : Int) → decide (s.low.getD j 0 ≤ stepT s.gain s.loss s.steps temp out x) = false) ∧ RoomX s A' c' B' d' w1 wr)
      (fun i' _ => (s.steps + 1).toNat - (intOf i').toNat)
    case atStart => exact ⟨0, by omega, rfl, fun x h0 h1 => by omega, HS.out⟩
    case round =>
      obtain ⟨k, hk, rfl, hno, hS⟩ := hrel
      obtain ⟨x0, x1, x2, x3, x4, x5⟩ := hS.cells
      by_cases hlt : (k : Int) ≤ s.steps
      · obtain ⟨ba, oa, hAe, hab, hlc⟩ := hS.low.at' hj
        subst hAe
        rw [hgd.out] at hlc
        generalize hlo : s.low.getD j 0 = lo at *
        generalize hu : stepT s.gain s.loss s.steps temp out ↑k = u at *
        have HU := Lib.hid hu
        have HLO := Lib.hid hlo
        clear hu hlo
        by_cases hge : lo ≤ u
        · have hret : Hid (holdTo (fun h => decide (lo ≤ stepT s.gain s.loss s.steps temp out h)) s.steps.toNat = (k : Int)) := by
            show _ = _
            by_cases he : (k : Int) < s.steps
            · exact holdTo_hit (by rw [HU.out]; simpa using hge) hno.out (by omega)
            · rw [show s.steps.toNat = k by omega]
              exact holdTo_none hno.out
          have q3 : decide (lo ≤ u) = true := by simpa using hge
          go_wp2_with fail
          clear x0 x1 x2 x3 x4 x5
          go_region_held3 (fun w' => Below wr.heap.size wr w' ∧ w'.cell? ⟨w1.heap.size, 0, none⟩ = some (.int .i64 s.gain) ∧ w'.cell? ⟨w1.heap.size, 1, none⟩ = some (.int .i64 s.loss) ∧ w'.cell? ⟨w1.heap.size, 2, none⟩ = some (.int .i64 s.steps) ∧ w'.cell? ⟨w1.heap.size, 3, none⟩ = some (.int .i64 s.power) ∧ w'.cell? ⟨w1.heap.size, 4, none⟩ = some (.slice (some ⟨ba, oa, none⟩) s.low.length c') ∧ w'.cell? ⟨w1.heap.size, 5, none⟩ = some (.slice B' s.high.length d') ∧ w'.cell? ⟨ba, oa + j, none⟩ = some (.int .i64 lo))
            (first | exact hS.heldL hlc (Below.refl _ _) | exact hS.heldL hlc (Below.drew (Below.refl _ _)) | exact hS.heldL hlc (Below.trans (by first | assumption | exact And.left (by assumption) | exact Below.refl _ _ | exact Below.drew (Below.refl _ _)) (Below.mono (by assumption) (Below.size (by first | assumption | exact And.left (by assumption) | exact Below.refl _ _ | exact Below.drew (Below.refl _ _))))))
            (first | (go_at_call 25; refine ((hS.mk' (by first | assumption | exact And.left (by assumption) | exact Below.refl _ _ | exact Below.drew (Below.refl _ _))).rstep HVV.out temp out _).mono ?_; rintro e w3 ⟨rfl, hb3⟩; rw [HU.out]))
          go_wp2_with fail
          go_ret
          rw [HLO.out, hret.out]
          exact ⟨rfl, hW1.trans ((hS.mk' (by first | assumption | exact And.left (by assumption))).from1.mono hW1.size)⟩
        · have q3 : decide (lo ≤ u) = false := by simpa using hge
          have hno' : Hid (∀ x : Int, 0 ≤ x → x < ((k + 1 : Nat) : Int) → decide (lo ≤ stepT s.gain s.loss s.steps temp out x) = false) := by
            intro x h0 h1
            by_cases hx : x < (k : Int)
            · exact hno.out x h0 hx
            · rw [show x = (k : Int) by omega, HU.out]; exact q3
          go_wp2_with fail
          clear x0 x1 x2 x3 x4 x5
          go_region_held3 (fun w' => Below wr.heap.size wr w' ∧ w'.cell? ⟨w1.heap.size, 0, none⟩ = some (.int .i64 s.gain) ∧ w'.cell? ⟨w1.heap.size, 1, none⟩ = some (.int .i64 s.loss) ∧ w'.cell? ⟨w1.heap.size, 2, none⟩ = some (.int .i64 s.steps) ∧ w'.cell? ⟨w1.heap.size, 3, none⟩ = some (.int .i64 s.power) ∧ w'.cell? ⟨w1.heap.size, 4, none⟩ = some (.slice (some ⟨ba, oa, none⟩) s.low.length c') ∧ w'.cell? ⟨w1.heap.size, 5, none⟩ = some (.slice B' s.high.length d') ∧ w'.cell? ⟨ba, oa + j, none⟩ = some (.int .i64 lo))
            (first | exact hS.heldL hlc (Below.refl _ _) | exact hS.heldL hlc (Below.drew (Below.refl _ _)) | exact hS.heldL hlc (Below.trans (by first | assumption | exact And.left (by assumption) | exact Below.refl _ _ | exact Below.drew (Below.refl _ _)) (Below.mono (by assumption) (Below.size (by first | assumption | exact And.left (by assumption) | exact Below.refl _ _ | exact Below.drew (Below.refl _ _))))))
            (first | (go_at_call 25; refine ((hS.mk' (by first | assumption | exact And.left (by assumption) | exact Below.refl _ _ | exact Below.drew (Below.refl _ _))).rstep HVV.out temp out _).mono ?_; rintro e w3 ⟨rfl, hb3⟩; rw [HU.out]))
          go_wp2_with fail
          go_roundw
          case rel => exact ⟨k + 1, by omega, by go_num, hno', hS.mk' (by first | assumption | exact And.left (by assumption))⟩
          case measure => simp [intOf]; omega
      · have hret : Hid (holdTo (fun h => decide (s.low.getD j 0 ≤ stepT s.gain s.loss s.steps temp out h)) s.steps.toNat = s.steps) := by
          show _ = _
          rw [hold_le (n := s.steps.toNat) (fun x h0 h1 => hno.out x h0 (by omega))]
          omega
        go_wp2_with fail
        go_ret
        exact ⟨ret_int (by rw [hgd.out]; exact hret.out.symm), hW1.trans (hS.from1.mono hW1.size)⟩
  · rw [hold_out (by omega)]
    have hcs : i < 0 ∨ (0 ≤ i ∧ (s.low.length : Int) ≤ i) := by omega
    clear hin
    rcases hcs with h | ⟨h, h'⟩
    all_goals
      go_enter Try.func19, Try.ntmps19
      go_wp2_with fail
      refine (HV.out _ HA.out HB.out).mono ?_
      rintro e w1 ⟨A', c', B', d', rfl, hA', hB', hb1⟩
      have hW1 : Below w.heap.size w w1 := ((Below.refl _ _).alloc (Nat.le_refl _) _).trans (hb1.mono (by simp))
      clear HA HB HV hb1
      simp only [Rm.v]
      go_wp2_with fail
      go_ret
      exact ⟨rfl, hW1.alloc hW1.size _⟩
end Go.Proofs.Ytohgcenfhglfdaa
