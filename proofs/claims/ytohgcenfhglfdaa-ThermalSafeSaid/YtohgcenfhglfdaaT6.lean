/-
  The walks of layer 40 (thermal), part 6: Hold, outside, Drift.
-/
import Derived.Test.YtohgcenfhglfdaaT5
namespace Go.Proofs.Ytohgcenfhglfdaa
open Go.RowKit
attribute [local go_sem ↓] Go.wp_at_zero Go.wp_at_succ

theorem holdTo_none {p : Int → Bool} : ∀ {n : Nat}, (∀ x : Int, 0 ≤ x → x < (n : Int) → p x = false) → holdTo p n = (n : Int) := by
  intro n
  induction n with
  | zero => intro _; rfl
  | succ n ih =>
    intro h
    have h1 : (upto n).any p = false := by
      rw [← Bool.not_eq_true, List.any_eq_true]
      rintro ⟨x, hx, hp⟩
      rw [mem_upto] at hx
      rw [h x hx.1 (by omega)] at hp
      cases hp
    rw [holdTo, if_neg (by simp [h1]), if_neg (by rw [h _ (by omega) (by omega)]; simp)]
    push_cast; rfl
theorem holdTo_hit {p : Int → Bool} {k : Nat} (hk : p k = true) (h : ∀ x : Int, 0 ≤ x → x < (k : Int) → p x = false) : ∀ {n : Nat}, k < n → holdTo p n = (k : Int) := by
  intro n
  induction n with
  | zero => intro h; omega
  | succ n ih =>
    intro hn
    by_cases e : k = n
    · subst e
      have h1 : (upto k).any p = false := by
        rw [← Bool.not_eq_true, List.any_eq_true]
        rintro ⟨x, hx, hp⟩
        rw [mem_upto] at hx
        rw [h x hx.1 (by omega)] at hp
        cases hp
      rw [holdTo, if_neg (by simp [h1]), if_pos hk]
    · have h1 : (upto n).any p = true := by
        rw [List.any_eq_true]
        exact ⟨(k : Int), mem_upto.2 ⟨by omega, by omega⟩, hk⟩
      rw [holdTo, if_pos h1]
      exact ih (by omega)

section
variable {s : Rm} {A B : Option Addr} {c d : Nat} {w1 W W' : World}
theorem RoomS.heldL {b o : Nat} {x : Int} (h : RoomS s A c B d w1 W) (hl : W.cell? ⟨b, o, none⟩ = some (.int .i64 x)) (hb : Below W.heap.size W W') : Below W.heap.size W W' ∧ W'.cell? ⟨w1.heap.size, 4, none⟩ = some (.slice A s.low.length c) ∧ W'.cell? ⟨b, o, none⟩ = some (.int .i64 x) :=
  ⟨hb, (h.mk' hb).cells.2.2.2.2.1, (hb.cell (p := ⟨b, o, none⟩) (World.block_lt_of_cell? _ _ hl)).trans hl⟩
end

theorem hold_out {s : Rm} {i temp out : Int} (h : i < 0 ∨ (s.low.length : Int) ≤ i) : s.hold i temp out = 0 := by unfold Rm.hold; rw [if_neg (by omega)]
theorem hold_in {s : Rm} {i temp out : Int} (h0 : 0 ≤ i) (h1 : i < (s.low.length : Int)) : s.hold i temp out = holdTo (fun h => decide (s.low.getD i.toNat 0 ≤ stepT s.gain s.loss s.steps temp out h)) s.steps.toNat := by
  unfold Rm.hold; rw [if_pos ⟨h0, h1⟩]; rfl

set_option maxHeartbeats 4000000 in
theorem thold_any (r : Rm) (A B : Option Addr) (c d : Nat) (i temp out : Int) (w : World) (hA : RInts w A r.low) (hB : RInts w B r.high) :
    Calls Try.prog 18 #[r.v A c B d, .int .i64 i, .int .i64 temp, .int .i64 out] w fun e w' => e = .returned (.int .i64 (r.valid.hold i temp out)) ∧ Below w.heap.size w w' := by
  have hv := fun w' hA' hB' => valid_any r A B c d w' hA' hB'
  have hm := model_any r.valid
  have hf := r.fine
  generalize r.valid = s at *
  have hA1 : RInts (w.alloc (.cells #[.int .i64 r.gain, .int .i64 r.loss, .int .i64 r.steps, .int .i64 r.power, .slice A r.low.length c, .slice B r.high.length d] 24)) A r.low := hA.alloc _
  have hB1 : RInts (w.alloc (.cells #[.int .i64 r.gain, .int .i64 r.loss, .int .i64 r.steps, .int .i64 r.power, .slice A r.low.length c, .slice B r.high.length d] 24)) B r.high := hB.alloc _
  simp only [Rm.v] at hv hm ⊢
  have HV := Lib.hid hv
  have HM := Lib.hid hm
  have HA := Lib.hid hA1
  have HB := Lib.hid hB1
  have HF := Lib.hid hf
  have s0 := hf.s0
  have s1 := hf.s1
  have hl96 := hf.len1
  clear hv hm hA hB hA1 hB1 hf
  by_cases hin : 0 ≤ i ∧ i < (s.low.length : Int)
  · obtain ⟨hi0, hi1⟩ := hin
    rw [hold_in hi0 hi1]
    obtain ⟨j, rfl⟩ := Int.eq_ofNat_of_zero_le hi0
    rw [Int.toNat_natCast]
    have hj : j < s.low.length := by omega
    have hgd := Lib.hid (getD_eq hj)
    have q1 : decide ((j : Int) < 0) = false := by simp
    have q2 : decide (s.low.length ≤ j) = false := by simp; omega
    go_enter Try.func18, Try.ntmps18
    go_wp2_with fail
    refine (HV.out _ HA.out HB.out).mono ?_
    rintro e w1 ⟨A', c', B', d', rfl, hA', hB', hb1⟩
    have hW1 : Below w.heap.size w w1 := ((Below.refl _ _).alloc (Nat.le_refl _) _).trans (hb1.mono (by simp))
    clear HA HB HV hb1
    simp only [Rm.v]
    go_wp2_with fail
    refine (HM.out _ _ _ _ _).mono ?_
    rintro e w2 ⟨rfl, hw2⟩
    subst hw2
    have hS0 : RoomS s A' c' B' d' w1 (roomW s A' c' B' d' w1) := ⟨by rw [← roomW_size (s := s) (A := A') (B := B') (c := c') (d := d')]; exact Below.refl _ _, hA', hB'⟩
    have HS := Lib.hid hS0
    clear hA' hB' hS0 HM
    go_wp2_with fail
    go_loopw [27] (fun i' wr => ∃ k : Nat, (k : Int) ≤ s.steps ∧ i' = .int .i64 k ∧ Hid (∀ x : Int, 0 ≤ x → x < (k : Int) → decide (s.low.getD j 0 ≤ stepT s.gain s.loss s.steps temp out x) = false) ∧ RoomS s A' c' B' d' w1 wr)
      (fun i' _ => s.steps.toNat - (intOf i').toNat)
    case atStart => exact ⟨0, by omega, rfl, fun x h0 h1 => by omega, HS.out⟩
    case round =>
      obtain ⟨k, hk, rfl, hno, hS⟩ := hrel
      by_cases hlt : (k : Int) < s.steps
      · obtain ⟨ba, oa, hAe, hab, hlc⟩ := hS.low.at' hj
        subst hAe
        rw [hgd.out] at hlc
        have hsb := stepT_bd s.gain s.loss s.steps temp out k
        obtain ⟨sb0, sb1⟩ := hsb
        generalize hlo : s.low.getD j 0 = lo at *
        generalize hu : stepT s.gain s.loss s.steps temp out ↑k = u at *
        have HU := Lib.hid hu
        have HLO := Lib.hid hlo
        clear hu hlo
        by_cases hge : lo ≤ u
        · have hret : Hid (holdTo (fun h => decide (lo ≤ stepT s.gain s.loss s.steps temp out h)) s.steps.toNat = (k : Int)) := by
            show _ = _
            exact holdTo_hit (by rw [HU.out]; simpa using hge) hno.out (by omega)
          have q3 : decide (lo ≤ u) = true := by simpa using hge
          go_wp2_with fail
          go_region_held3 (fun w' => Below wr.heap.size wr w' ∧ w'.cell? ⟨w1.heap.size, 4, none⟩ = some (.slice (some ⟨ba, oa, none⟩) s.low.length c') ∧ w'.cell? ⟨ba, oa + j, none⟩ = some (.int .i64 lo))
            (first | exact hS.heldL hlc (Below.refl _ _) | exact hS.heldL hlc (Below.drew (Below.refl _ _)) | exact hS.heldL hlc (below_drewN (by first | assumption | exact And.left (by assumption) | exact Below.refl _ _) _))
            (first | (go_at_call 37; refine ((hS.mk' (by first | assumption | exact And.left (by assumption) | exact Below.refl _ _)).call HF.out temp out _).mono ?_; rintro e w3 ⟨rfl, n3, rfl⟩; rw [HU.out]))
          go_wp2_with fail
          go_ret
          rw [HLO.out, hret.out]
          exact ⟨rfl, hW1.trans ((hS.mk' (by first | assumption | exact And.left (by assumption) | exact below_drewN (Below.refl _ _) _)).from1.mono hW1.size)⟩
        · have q3 : decide (lo ≤ u) = false := by simpa using hge
          have hno' : Hid (∀ x : Int, 0 ≤ x → x < ((k + 1 : Nat) : Int) → decide (lo ≤ stepT s.gain s.loss s.steps temp out x) = false) := by
            intro x h0 h1
            by_cases hx : x < (k : Int)
            · exact hno.out x h0 hx
            · rw [show x = (k : Int) by omega, HU.out]; exact q3
          go_wp2_with fail
          go_region_held3 (fun w' => Below wr.heap.size wr w' ∧ w'.cell? ⟨w1.heap.size, 4, none⟩ = some (.slice (some ⟨ba, oa, none⟩) s.low.length c') ∧ w'.cell? ⟨ba, oa + j, none⟩ = some (.int .i64 lo))
            (first | exact hS.heldL hlc (Below.refl _ _) | exact hS.heldL hlc (Below.drew (Below.refl _ _)) | exact hS.heldL hlc (below_drewN (by first | assumption | exact And.left (by assumption) | exact Below.refl _ _) _))
            (first | (go_at_call 37; refine ((hS.mk' (by first | assumption | exact And.left (by assumption) | exact Below.refl _ _)).call HF.out temp out _).mono ?_; rintro e w3 ⟨rfl, n3, rfl⟩; rw [HU.out]))
          go_wp2_with fail
          go_roundw
          case rel => exact ⟨k + 1, by omega, by go_num, hno', hS.mk' (by first | assumption | exact And.left (by assumption) | exact below_drewN (Below.refl _ _) _)⟩
          case measure => simp [intOf]; omega
      · obtain ⟨c0, c1, c2, c3, c4, c5⟩ := hS.cells
        have hks : s.steps = (k : Int) := by omega
        have hret : Hid (holdTo (fun h => decide (s.low.getD j 0 ≤ stepT s.gain s.loss s.steps temp out h)) s.steps.toNat = s.steps) := by
          show _ = _
          rw [holdTo_none (n := s.steps.toNat) (fun x h0 h1 => hno.out x h0 (by omega))]
          omega
        clear hks
        go_wp2_with fail
        go_ret
        exact ⟨ret_int (by rw [hgd.out]; exact hret.out.symm), hW1.trans (hS.from1.mono hW1.size)⟩
  · rw [hold_out (by omega)]
    have hcs : i < 0 ∨ (0 ≤ i ∧ (s.low.length : Int) ≤ i) := by omega
    clear hin
    rcases hcs with h | ⟨h, h'⟩
    all_goals
      go_enter Try.func18, Try.ntmps18
      go_wp2_with fail
      refine (HV.out _ HA.out HB.out).mono ?_
      rintro e w1 ⟨A', c', B', d', rfl, hA', hB', hb1⟩
      have hW1 : Below w.heap.size w w1 := ((Below.refl _ _).alloc (Nat.le_refl _) _).trans (hb1.mono (by simp))
      clear HA HB HV hb1
      simp only [Rm.v]
      go_wp2_with fail
      go_ret
      exact ⟨rfl, hW1.alloc hW1.size _⟩
end Go.Proofs.Ytohgcenfhglfdaa
