/-
  The walk of First of the program (layer 8).
-/
import Derived.Test.YtgflklgjjpokaaaA4
import Derived.Carry
namespace Go.Proofs.Ytgflklgjjpokaaa
open Go.RowKit

theorem Try.zeroBool (w : World) : (zeroValue 4).run Try.prog w = .ok (.bool false) w := by kernel_rfl
theorem wf_i64 {x : Int} (h : -9223372036854775808 ≤ x ∧ x ≤ 9223372036854775807) : (Lit.int .i64 x).wf = true := WalkArith.wf_i64 (by omega)
theorem taken_iff {l : List Int} {k : Nat} (hk : k < l.length) (y : Int) : y ∈ l.take (k + 1) ↔ (y = l[k] ∨ y ∈ l.take k) := by
  rw [List.take_succ_eq_append_getElem hk, List.mem_append, List.mem_singleton]
  exact Or.comm

theorem taken_dec {l : List Int} {k : Nat} (hk : k < l.length) (y : Int) : decide (y ∈ l.take (k + 1)) = (decide (y = l[k]) || decide (y ∈ l.take k)) := by
  rw [Bool.eq_iff_iff, decide_eq_true_iff, taken_iff hk, Bool.or_eq_true, decide_eq_true_iff, decide_eq_true_iff]

set_option maxRecDepth 100000 in
set_option maxHeartbeats 4000000 in
theorem first_any (e : Int) (A : Option Addr) (c : Nat) (l : List Int) (w : World) (e0 : 0 ≤ e) (e1 : e < 18446744073709551616) (hA0 : RInts w A l) (hl0 : l.length ≤ 1000000000) (hw0 : ∀ x ∈ l, -9223372036854775808 ≤ x ∧ x ≤ 9223372036854775807) :
    Calls Try.prog 11 #[.int .u64 e, .slice A l.length c] w (FirstOut e l w) := by
  have hA := Lib.hid hA0
  have hw := Lib.hid hw0
  have hp := Lib.hid (fun (k : Nat) (hk : (k : Int) ≤ 1000) W => pick_any e (k : Int) W e0 e1 (by omega))
  have hmm := @run_makeMap Try.prog
  obtain ⟨m, hm⟩ : ∃ m, m = l.length := ⟨_, rfl⟩
  have HM := Lib.hid hm
  rw [← hm] at hl0 ⊢
  clear hm hA0 hw0
  go_enter Try.func11, Try.ntmps11
  go_wp2_with fail
  clear hmm
  have hM0 := Lib.hid (MapD.new (P := Try.prog) (kt := 3) (et := 4) (q := .i64) (z := .bool false) w)
  have hB0 : Hid (Below w.heap.size w (w.alloc (.map #[] 0))) := (Below.refl _ _).alloc (Nat.le_refl _) _
  go_loopw [15] (fun i' wr => ∃ k : Nat, k ≤ m ∧ i' = .int .i64 k ∧ MapD Try.prog 3 4 .i64 (.bool false) wr w.heap.size k (fun y => .bool (decide (y ∈ l.take k))) (fun y => decide (y ∈ l.take k)) ∧ Below w.heap.size w wr)
    (fun i' _ => m - (intOf i').toNat)
  case atStart => exact ⟨0, by omega, rfl, hM0.out.congr (by simp) (by simp), hB0.out⟩
  case round =>
    clear hM0 hB0
    obtain ⟨k, hkm, rfl, hmap0, hB⟩ := hrel
    have hmap := Lib.hid hmap0
    have HB := Lib.hid hB
    clear hmap0
    by_cases hlt : k < m
    · have hkl : k < l.length := by rw [← HM.out]; exact hlt
      obtain ⟨b, of, hAe, hb, y0⟩ := (hA.out.below hB).at' hkl
      subst hAe
      have hts := Lib.hid (taken_dec hkl)
      have hwf := Lib.hid (wf_i64 (hw.out _ (List.getElem_mem hkl)))
      clear hB
      generalize l[k] = x at *
      go_wp2_with (at_mapUpdate; refine wpList_mapSet _ rfl _ _ _ 46 rfl 3 4 .i64 Try.underlying3 Try.underlying46 (.bool false) w.heap.size k _ _ rfl hmap.out (by unfold maxLen; omega) x (.bool true) (.bool true) rfl rfl hwf.out (plainElem_bool Try.underlying4 true) ?_)
      intro w5 hm5 hg5
      have hm6 : Hid (MapD Try.prog 3 4 .i64 (.bool false) w5 w.heap.size (k + 1) (fun y => .bool (decide (y ∈ l.take (k + 1)))) (fun y => decide (y ∈ l.take (k + 1)))) := by
        refine hm5.congr (fun y => ?_) (fun y => (hts.out y).symm)
        rw [hts.out y]
        by_cases h1 : y = x <;> simp [h1]
      have hB5 := Lib.hid (HB.out.grown hg5 HB.out.size (fun j hj => by injection hj with hj; omega))
      clear hm5 hg5
      go_wp2_with fail
      go_roundw
      case rel => exact ⟨k + 1, by omega, by go_num, hm6.out, hB5.out⟩
      case measure => simp [intOf]; omega
    · have hmf : Hid (MapD Try.prog 3 4 .i64 (.bool false) wr w.heap.size k (fun y => .bool (decide (y ∈ l))) (fun y => decide (y ∈ l))) := by
        have h := hmap.out
        rw [List.take_of_length_le (by rw [← HM.out]; omega)] at h
        exact h
      clear hB
      go_wp2_with fail
      go_loopw [22] (fun i' wx => ∃ j : Nat, j ≤ 266 ∧ i' = .int .i64 j ∧ Hid (busyTo e l j) ∧ MapD Try.prog 3 4 .i64 (.bool false) wx w.heap.size k (fun y => .bool (decide (y ∈ l))) (fun y => decide (y ∈ l)) ∧ Below w.heap.size w wx)
        (fun i' _ => 266 - (intOf i').toNat)
      case atStart => exact ⟨0, by omega, rfl, fun i hi => absurd hi (by omega), hmf.out, HB.out⟩
      case round =>
        obtain ⟨j, hj, rfl, hbz, hmp0, hBj⟩ := hrel
        have hmp := Lib.hid hmp0
        have HBj := Lib.hid hBj
        have hlt1 := hmp0.lt
        clear hmp0
        by_cases hlt2 : j < 266
        · have hpk := Lib.hid (hp.out j (by omega) wr)
          have hxb := pickZ_bd e (j : Int)
          have hfx : Hid (FirstIs e l (j : Int) (pickZ e (j : Int)) true ∨ pickZ e (j : Int) ∈ l) := by
            by_cases h : pickZ e (j : Int) ∈ l
            · exact .inr h
            · have h264 : j < 265 := by
                rcases Nat.lt_or_ge j 265 with h1 | h1
                · exact h1
                · exact absurd (busy_all (fun i hi => hbz.out i (by omega)) hxb.1 hxb.2) h
              exact .inl ⟨fun _ => ⟨by omega, by omega, rfl, h, by rw [Int.toNat_natCast]; exact hbz.out⟩, fun h => by cases h⟩
          have hbs := Lib.hid (busyTo_succ hbz.out)
          clear hBj
          generalize pickZ e (j : Int) = x at *
          go_wp2_with fail
          refine hpk.out.mono ?_
          rintro e' w1 ⟨rfl, hb1⟩
          have HB1 := Lib.hid (HBj.out.trans (hb1.mono HBj.out.size))
          have hm1 := Lib.hid (hmp.out.below hb1 hlt1)
          have hwx := wf_i64 (x := x) (by omega)
          clear hb1
          by_cases hx : x ∈ l
          · have hb2 : Hid (busyTo e l (j + 1)) := hbs.out hx
            have hlk := hm1.out.look_bool (t := 46) Try.underlying3 Try.underlying46 Try.underlying4 (Try.zeroBool _) hwx (v := true) (by rw [decide_eq_true hx])
            clear hx
            go_wp2_with fail
            clear hlk
            go_roundw
            case rel => exact ⟨j + 1, by omega, by go_num, hb2, hm1.out, HB1.out⟩
            case measure => simp [intOf]; omega
          · have hf : Hid (FirstIs e l (j : Int) x true) := hfx.out.resolve_right hx
            have hlk := hm1.out.look_bool (t := 46) Try.underlying3 Try.underlying46 Try.underlying4 (Try.zeroBool _) hwx (v := false) (by rw [decide_eq_false hx])
            clear hx
            go_wp2_with fail
            clear hlk
            go_ret3
            exact ⟨_, _, _, rfl, hf.out, HB1.out⟩
        · have hf : Hid (FirstIs e l 0 0 false) := ⟨(fun h => by cases h), fun _ => ⟨rfl, rfl, fun i hi => hbz.out i (by omega)⟩⟩
          go_wp2_with fail
          go_ret3
          exact ⟨_, _, _, rfl, hf.out, HBj.out⟩
end Go.Proofs.Ytgflklgjjpokaaa
