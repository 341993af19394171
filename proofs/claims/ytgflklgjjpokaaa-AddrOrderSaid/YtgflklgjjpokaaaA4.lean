/-
  The walks of among and First (layer 8).
-/
import Derived.Test.YtgflklgjjpokaaaA3
import Derived.Test.YtgflklgjjpokaaaAP3
import Derived.Test.YtgflklgjjpokaaaMW
namespace Go.Proofs.Ytgflklgjjpokaaa
open Go.RowKit

theorem mem_take_succ {l : List Int} {k : Nat} {x : Int} (hk : k < l.length) (h : x ∉ l.take k) (hx : l[k] ≠ x) : x ∉ l.take (k + 1) := by
  rw [List.take_succ_eq_append_getElem hk, List.mem_append]
  rintro (h1 | h1)
  · exact h h1
  · exact hx (by simpa using h1 : x = l[k]).symm

set_option maxHeartbeats 1000000 in
theorem lamong_any (A : Option Addr) (c : Nat) (l : List Int) (x : Int) (w : World) (hA0 : RInts w A l) (hl0 : l.length ≤ 1000000000) :
    Calls Try.prog 25 #[.slice A l.length c, .int .i64 x] w fun e w' => e = .returned (.bool (decide (x ∈ l))) ∧ w = w' := by
  have hA := Lib.hid hA0
  obtain ⟨m, hm⟩ : ∃ m, m = l.length := ⟨_, rfl⟩
  have HM := Lib.hid hm
  rw [← hm] at hl0 ⊢
  clear hm hA0
  go_enter Try.func25, Try.ntmps25
  go_wp2_with fail
  go_loopw [5] (fun i' wr => ∃ k : Nat, k ≤ m ∧ i' = .int .i64 k ∧ Hid (x ∉ l.take k) ∧ w = wr)
    (fun i' _ => m - (intOf i').toNat)
  case atStart => exact ⟨0, by omega, rfl, by show ¬ _; simp, rfl⟩
  case round =>
    obtain ⟨k, hkm, rfl, hno, rfl⟩ := hrel
    by_cases hlt : k < m
    · have hkl : k < l.length := by rw [← HM.out]; exact hlt
      obtain ⟨b, of, hAe, hb, hcell⟩ := hA.out.at' hkl
      subst hAe
      by_cases hx : l[k] = x
      · have hin : Hid (decide (x ∈ l) = true) := by show _ = _; rw [decide_eq_true_iff, ← hx]; exact List.getElem_mem hkl
        rw [hx] at hcell
        clear hx
        go_wp2_with fail
        go_ret
        exact ⟨ret_bool hin.out.symm, rfl⟩
      · have hno' : Hid (x ∉ l.take (k + 1)) := mem_take_succ hkl hno.out hx
        have hx' : (l[k] == x) = false := by simpa using hx
        generalize l[k] = y at *
        clear hno hx
        go_wp2_with fail
        go_roundw
        case rel => exact ⟨k + 1, by omega, by go_num, hno', trivial⟩
        case measure => simp [intOf]; omega
    · have hout : Hid (decide (x ∈ l) = false) := by
        show _ = _
        have h := hno.out
        rw [List.take_of_length_le (by rw [← HM.out]; omega)] at h
        rw [decide_eq_false_iff_not]; exact h
      clear hno
      go_wp2_with fail
      go_ret
      exact ⟨ret_bool hout.out.symm, rfl⟩

set_option maxHeartbeats 1000000 in
theorem ramong_any (A : Option Addr) (c : Nat) (l : List Int) (x : Int) (w : World) (hA0 : RInts w A l) (hl0 : l.length ≤ 1000000000) :
    Calls Try.prog 26 #[.slice A l.length c, .int .i64 x] w fun e w' => e = .returned (.bool (decide (x ∈ l))) ∧ w = w' := by
  have hA := Lib.hid hA0
  obtain ⟨m, hm⟩ : ∃ m, m = l.length := ⟨_, rfl⟩
  have HM := Lib.hid hm
  rw [← hm] at hl0 ⊢
  clear hm hA0
  go_enter Try.func26, Try.ntmps26
  go_wp2_with fail
  go_loopw [5] (fun i' wr => ∃ k : Nat, k ≤ m ∧ i' = .int .i64 k ∧ Hid (x ∉ l.take k) ∧ w = wr)
    (fun i' _ => m - (intOf i').toNat)
  case atStart => exact ⟨0, by omega, rfl, by show ¬ _; simp, rfl⟩
  case round =>
    obtain ⟨k, hkm, rfl, hno, rfl⟩ := hrel
    by_cases hlt : k < m
    · have hkl : k < l.length := by rw [← HM.out]; exact hlt
      obtain ⟨b, of, hAe, hb, hcell⟩ := hA.out.at' hkl
      subst hAe
      by_cases hx : l[k] = x
      · have hin : Hid (decide (x ∈ l) = true) := by show _ = _; rw [decide_eq_true_iff, ← hx]; exact List.getElem_mem hkl
        rw [hx] at hcell
        clear hx
        go_wp2_with fail
        go_ret
        exact ⟨ret_bool hin.out.symm, rfl⟩
      · have hno' : Hid (x ∉ l.take (k + 1)) := mem_take_succ hkl hno.out hx
        have hx' : (l[k] == x) = false := by simpa using hx
        generalize l[k] = y at *
        clear hno hx
        go_wp2_with fail
        go_roundw
        case rel => exact ⟨k + 1, by omega, by go_num, hno', trivial⟩
        case measure => simp [intOf]; omega
    · have hout : Hid (decide (x ∈ l) = false) := by
        show _ = _
        have h := hno.out
        rw [List.take_of_length_le (by rw [← HM.out]; omega)] at h
        rw [decide_eq_false_iff_not]; exact h
      clear hno
      go_wp2_with fail
      go_ret
      exact ⟨ret_bool hout.out.symm, rfl⟩

/-- What a call of First leaves. -/
def FirstOut (e : Int) (l : List Int) (w : World) (e' : Ending) (w' : World) : Prop := ∃ a b ok, e' = .returned (.tuple #[.int .i64 a, .int .i64 b, .bool ok]) ∧ FirstIs e l a b ok ∧ Below w.heap.size w w'

set_option maxRecDepth 100000 in
set_option maxHeartbeats 2000000 in
theorem rfirst_any (e : Int) (A : Option Addr) (c : Nat) (l : List Int) (w : World) (e0 : 0 ≤ e) (e1 : e < 18446744073709551616) (hA0 : RInts w A l) (hl0 : l.length ≤ 1000000000) :
    Calls Try.prog 12 #[.int .u64 e, .slice A l.length c] w (FirstOut e l w) := by
  have hA := Lib.hid hA0
  have hp := Lib.hid (fun (k : Nat) (hk : (k : Int) ≤ 1000) W => rpick_any e (k : Int) W e0 e1 (by omega))
  have ha := Lib.hid (fun x W (h : RInts W A l) => ramong_any A c l x W h hl0)
  have hB0 := Lib.hid (Below.refl w.heap.size w)
  clear hA0
  generalize l.length = m at *
  go_enter Try.func12, Try.ntmps12
  go_wp2_with fail
  go_loopw [7] (fun i' wr => ∃ k : Nat, k ≤ 265 ∧ i' = .int .i64 k ∧ Hid (busyTo e l k) ∧ Below w.heap.size w wr)
    (fun i' _ => 265 - (intOf i').toNat)
  case atStart => exact ⟨0, by omega, rfl, fun i hi => absurd hi (by omega), hB0.out⟩
  case round =>
    obtain ⟨k, hk, rfl, hbz, hB⟩ := hrel
    have HB := Lib.hid hB
    by_cases hlt : k < 265
    · have hpk := Lib.hid (hp.out k (by omega) wr)
      have hfx : Hid (FirstIs e l (k : Int) (pickZ e (k : Int)) true ∨ pickZ e (k : Int) ∈ l) := by
        by_cases h : pickZ e (k : Int) ∈ l
        · exact .inr h
        · exact .inl ⟨fun _ => ⟨by omega, by omega, rfl, h, by rw [Int.toNat_natCast]; exact hbz.out⟩, fun h => by cases h⟩
      have hbs := Lib.hid (busyTo_succ hbz.out)
      clear hB
      generalize pickZ e (k : Int) = x at *
      go_wp2_with fail
      refine hpk.out.mono ?_
      rintro e' w1 ⟨rfl, hb1⟩
      have HB1 := Lib.hid (HB.out.trans (hb1.mono HB.out.size))
      have ha1 := Lib.hid (ha.out x w1 (hA.out.below HB1.out))
      clear hb1
      by_cases hx : x ∈ l
      · have hb2 : Hid (busyTo e l (k + 1)) := hbs.out hx
        rw [decide_eq_true hx] at ha1
        clear hx
        go_wp2_with fail
        refine ha1.out.mono ?_
        rintro e' w2 ⟨rfl, rfl⟩
        go_wp2_with fail
        go_roundw
        case rel => exact ⟨k + 1, by omega, by go_num, hb2, HB1.out⟩
        case measure => simp [intOf]; omega
      · have hf : Hid (FirstIs e l (k : Int) x true) := hfx.out.resolve_right hx
        rw [decide_eq_false hx] at ha1
        clear hx
        go_wp2_with fail
        refine ha1.out.mono ?_
        rintro e' w2 ⟨rfl, rfl⟩
        go_wp2_with fail
        go_ret3
        exact ⟨_, _, _, rfl, hf.out, HB1.out⟩
    · have hf : Hid (FirstIs e l 0 0 false) := ⟨(fun h => by cases h), fun _ => ⟨rfl, rfl, by rw [show (265 : Nat) = k by omega]; exact hbz.out⟩⟩
      go_wp2_with fail
      go_ret3
      exact ⟨_, _, _, rfl, hf.out, HB.out⟩
end Go.Proofs.Ytgflklgjjpokaaa
