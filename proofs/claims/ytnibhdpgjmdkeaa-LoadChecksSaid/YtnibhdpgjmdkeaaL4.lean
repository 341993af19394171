/-
  The walks of layer 41 (load), part 2: IndexFunc and ContainsFunc with the test of an element.
-/
import Derived.Test.YtnibhdpgjmdkeaaL3
namespace Go.Proofs.Ytnibhdpgjmdkeaa
open Go.RowKit

theorem badAt_hit {l : List Int} {k : Nat} (hk : k < l.length) (hb : unitOk l[k] = false) : l.all unitOk = false := by
  rw [← Bool.not_eq_true, List.all_eq_true]
  intro hh
  rw [hh _ (List.getElem_mem hk)] at hb
  cases hb
theorem all_take_succ {l : List Int} {k : Nat} (hk : k < l.length) (h : (l.take k).all unitOk = true) (hb : unitOk l[k] = true) : (l.take (k + 1)).all unitOk = true := by
  rw [List.take_succ_eq_append_getElem hk, List.all_append, h]
  simp [hb]
/-- What IndexFunc says of a list: a place, or -1 if all are units. -/
def IndexSays (l : List Int) (e : Ending) : Prop := ∃ x : Int, e = .returned (.int .i64 x) ∧ decide (0 ≤ x) = !(l.all unitOk)

set_option maxHeartbeats 4000000 in
theorem index_any (A : Option Addr) (c : Nat) (l : List Int) (w : World) (hA : RInts w A l) (hl : l.length < 1000000000) :
    Calls Try.prog 40 #[.slice A l.length c, .func (.func 37) #[] #[]] w fun e w' => IndexSays l e ∧ w = w' := by
  obtain ⟨n, hn⟩ : ∃ n, n = l.length := ⟨_, rfl⟩
  have HN := Lib.hid hn
  have HA := Lib.hid hA
  rw [← hn] at hl ⊢
  clear hn hA
  go_enter Try.func40, Try.ntmps40
  go_wp2_with fail
  go_loopw [5, 8] (fun _ i' wr => ∃ k : Nat, k ≤ n ∧ i' = .int .i64 k ∧ Hid ((l.take k).all unitOk = true) ∧ w = wr)
    (fun _ i' _ => n - (intOf i').toNat)
  case atStart => exact ⟨0, by omega, rfl, rfl, rfl⟩
  case round =>
    obtain ⟨k, hk, rfl, hok, rfl⟩ := hrel
    by_cases hlt : k < n
    · have hkl : k < l.length := by rw [← HN.out]; exact hlt
      obtain ⟨ba, oa, hAe, hab, hac⟩ := HA.out.at' hkl
      subst hAe
      cases hu : unitOk l[k]
      · have hfin := Lib.hid (badAt_hit hkl hu)
        have hb := Lib.hid (bad_any l[k] w)
        rw [hu] at hb
        clear hu
        generalize l[k] = x at *
        go_wp2_with fail
        refine hb.out.mono ?_
        rintro e w1 ⟨rfl, rfl⟩
        go_wp2_with fail
        go_ret
        exact ⟨⟨k, rfl, by rw [hfin.out]; simp⟩, rfl⟩
      · have hok' := Lib.hid (all_take_succ hkl hok.out hu)
        have hb := Lib.hid (bad_any l[k] w)
        rw [hu] at hb
        clear hu
        generalize l[k] = x at *
        go_wp2_with fail
        refine hb.out.mono ?_
        rintro e w1 ⟨rfl, rfl⟩
        go_wp2_with fail
        go_roundw
        case rel => exact ⟨k + 1, by omega, by go_num, hok', trivial⟩
        case measure => simp [intOf]; omega
    · have hfin : Hid (l.all unitOk = true) := by
        have h := hok.out
        rwa [List.take_of_length_le (by rw [← HN.out]; omega)] at h
      go_wp2_with fail
      go_ret
      exact ⟨⟨-1, rfl, by rw [hfin.out]; rfl⟩, rfl⟩
end Go.Proofs.Ytnibhdpgjmdkeaa
