/-
  The walks of layer 40 (thermal), the reference, part 4: Drift.
-/
import Derived.Test.YtohgcenfhglfdaaTR3
import Derived.Test.YtohgcenfhglfdaaT7
namespace Go.Proofs.Ytohgcenfhglfdaa
open Go.RowKit
attribute [local go_sem ↓] Go.wp_at_zero Go.wp_at_succ

section
variable {s : Rm} {A B : Option Addr} {c d : Nat} {w1 W : World}
theorem RoomX.rstepV (h : RoomX s A c B d w1 W) (temp out heat : Int) :
    Calls Try.prog 25 #[.agg #[.int .i64 s.gain, .int .i64 s.loss, .int .i64 s.steps, .int .i64 s.power, .slice A s.low.length c, .slice B s.high.length d], .int .i64 temp, .int .i64 out, .int .i64 heat] W fun e w' => e = .returned (.int .i64 (s.valid.step temp out heat)) ∧ Below W.heap.size W w' :=
  rtstep_any s A B c d temp out heat W h.low h.high
end

set_option maxHeartbeats 4000000 in
theorem rtdrift_any (r : Rm) (A B C : Option Addr) (c d f : Nat) (temp : Int) (l : List Int) (w : World) (hA : RInts w A r.low) (hB : RInts w B r.high) (hC : RInts w C l) :
    Calls Try.prog 21 #[r.v A c B d, .int .i64 temp, .slice C l.length f] w (IntsOut (r.valid.drift temp (outsT l)) w) := by
  have hS0 : RoomX r A c B d w (roomX r A c B d w) := ⟨by rw [← roomX_size (s := r) (A := A) (B := B) (c := c) (d := d)]; exact Below.refl _ _, hA, hB⟩
  have HS := Lib.hid hS0
  have HC := Lib.hid hC
  simp only [Rm.v]
  have hol := outsT_len l
  have hbig : Hid (96 < l.length → outsT l = []) := fun h => by unfold outsT; rw [if_pos h]
  have hsml : Hid (¬ 96 < l.length → outsT l = l) := fun h => by unfold outsT; rw [if_neg h]
  clear hA hB hC hS0
  obtain ⟨i0, hi, hz0, hz1, hz2⟩ := info_parts Try.infoInt
  obtain ⟨ln, hln⟩ : ∃ n, n = l.length := ⟨_, rfl⟩
  have HL := Lib.hid hln
  rw [← hln] at hbig hsml ⊢
  clear hln
  generalize hxs : outsT l = xs at *
  clear hxs
  go_enter Try.func21, Try.ntmps21
  go_wp2_with fail
  go_loopw [7, 8, 9] (fun o t i' wr => ∃ k : Nat, k ≤ xs.length ∧ i' = .int .i64 k ∧ t = .int .i64 (r.valid.endsTo temp xs k) ∧ wr.ownsRow (w.heap.size + 1) 3 1 o (r.valid.driftTo temp xs k).length (ints (r.valid.driftTo temp xs k)) ∧
      RoomX r A c B d w wr)
    (fun _ _ i' _ => xs.length - (intOf i').toNat)
  case atStart => exact ⟨0, by omega, rfl, rfl, World.ownsRow_nil _ _ _ _, HS.out⟩
  case round =>
    obtain ⟨k, hk, rfl, rfl, hown, hS⟩ := hrel
    have hlen := driftTo_len r.valid temp xs k
    have hsz := hS.size
    by_cases hlt : k < xs.length
    · have hle : ¬ 96 < ln := fun h => by rw [hbig.out h] at hlt; simp at hlt
      have hxe := hsml.out hle
      have hkl : k < ln := by rw [HL.out, ← hxe]; exact hlt
      have hds := Lib.hid (driftTo_succ (r := r.valid) (t := temp) hlt)
      have hes := Lib.hid (endsTo_succ (r := r.valid) (t := temp) hlt)
      have hCw := (HC.out.below (Below.refl _ _)).below (((Below.refl _ _).alloc (Nat.le_refl _) _).trans (hS.below.mono (by omega)))
      rw [← hxe] at hCw
      obtain ⟨bb, oo, hCe, hbb, hbc⟩ := hCw.at' hlt
      subst hCe
      have hcall := Lib.hid (fun W (hW : RoomX r A c B d w W) => hW.rstepV (r.valid.endsTo temp xs k) xs[k] 0)
      obtain ⟨x0, x1, x2, x3, x4, x5⟩ := hS.cells
      clear hCw hxe
      generalize xs[k] = x at *
      generalize r.valid.endsTo temp xs k = t at *
      generalize r.valid.step t x 0 = u at *
      have hle' : (ln : Int) ≤ 96 := by omega
      go_wp2_with fail
      clear x0 x1 x2 x3 x4 x5
      go_region_held3 (fun w' => Below wr.heap.size wr w' ∧ w'.cell? ⟨w.heap.size, 0, none⟩ = some (.int .i64 r.gain) ∧ w'.cell? ⟨w.heap.size, 1, none⟩ = some (.int .i64 r.loss) ∧ w'.cell? ⟨w.heap.size, 2, none⟩ = some (.int .i64 r.steps) ∧ w'.cell? ⟨w.heap.size, 3, none⟩ = some (.int .i64 r.power) ∧ w'.cell? ⟨w.heap.size, 4, none⟩ = some (.slice A r.low.length c) ∧ w'.cell? ⟨w.heap.size, 5, none⟩ = some (.slice B r.high.length d) ∧ w'.cell? ⟨bb, oo + k, none⟩ = some (.int .i64 x))
        (first | exact hS.heldL hbc (Below.refl _ _) | exact hS.heldL hbc (Below.drew (Below.refl _ _)) | exact hS.heldL hbc (Below.trans (by first | assumption | exact And.left (by assumption) | exact Below.refl _ _ | exact Below.drew (Below.refl _ _)) (Below.mono (by assumption) (Below.size (by first | assumption | exact And.left (by assumption) | exact Below.refl _ _ | exact Below.drew (Below.refl _ _))))))
        (first | (go_at_call 25; refine (hcall.out _ (hS.mk' (by first | assumption | exact And.left (by assumption) | exact Below.refl _ _ | exact Below.drew (Below.refl _ _)))).mono ?_; rintro e w3 ⟨rfl, hb3⟩))
      have hBw : Below wr.heap.size wr w3 := by first | assumption | exact And.left (by assumption)
      have hSw := hS.mk' hBw
      have hown4 := own_below hown hBw
      have hsz4 := hSw.size
      clear hown hcall
      go_wp2_with (at_builtin; refine wpList_append_new _ _ rfl _ _ 22 rfl (w.heap.size + 1) 3 i0 (.int .i64 0) 1 8 Try.underlying22 hi hz0 hz1 hz2 rfl (by decide) (by decide) _ _ _ rfl hown4 #[.int .i64 u] rfl (one_int _ _) rfl rfl (by omega) (by omega) ?_)
      intro v' w5 hown5 hb5
      clear hown4
      go_wp2
      go_roundw
      case rel =>
        refine ⟨k + 1, by omega, by go_num, by rw [hes.out], ?_, hSw.on hb5⟩
        rw [hds.out, ints_append, List.length_append]
        exact hown5
      case measure => simp [intOf]; omega
    · have hkn : r.valid.driftTo temp xs k = r.valid.drift temp xs := by
        unfold Rm.driftTo
        rw [List.take_of_length_le (by omega)]
      rw [hkn] at hown
      have hfin : Hid (IntsOut (r.valid.drift temp xs) w (.returned u7) wr) := ints_out hown (by omega) (((Below.refl _ _).alloc (Nat.le_refl _) _).trans (hS.below.mono (by omega)))
      clear hkn hown
      by_cases hb : 96 < ln
      · have hk0 : k = 0 := by
          have := hbig.out hb
          rw [this] at hk
          simpa using hk
        subst hk0
        have h96 : decide ((ln : Int) ≤ 96) = false := by rw [decide_eq_false_iff_not]; omega
        have h0 : decide ((0 : Int) < (ln : Int)) = true := by rw [decide_eq_true_iff]; omega
        go_wp2_with fail
        go_ret
        exact hfin.out
      · have hxe := hsml.out hb
        have hle : ln ≤ k := by rw [HL.out, ← hxe]; omega
        clear hxe
        go_wp2_with fail
        go_ret
        exact hfin.out
end Go.Proofs.Ytohgcenfhglfdaa
