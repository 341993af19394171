/-
  The walks of layer 39 (battery), the reference: Choices; Round of both.
-/
import Derived.Test.YthoknhbjeddcjaaB3
import Derived.Test.YthoknhbjeddcjaaBP2
import Derived.Test.YthoknhbjeddcjaaBR3
namespace Go.Proofs.Ythoknhbjeddcjaa
open Go.RowKit

def rchooseTo (b : Bat) (l : Int) (k : Nat) : List Int := (span (-40) k).filter (canZ b l)
theorem rchooseTo_succ (b : Bat) (l : Int) (k : Nat) : rchooseTo b l (k + 1) = rchooseTo b l k ++ if canZ b l ((k : Int) - 40) = true then [(k : Int) - 40] else [] := by
  simp only [rchooseTo, span_succ, List.filter_append, List.filter_cons, List.filter_nil, show -40 + (k : Int) = (k : Int) - 40 by omega]
theorem rchooseTo_len (b : Bat) (l : Int) (k : Nat) : (rchooseTo b l k).length ≤ k := by
  refine Nat.le_trans (List.length_filter_le _ _) ?_
  rw [span_length]; exact Nat.le_refl _

set_option maxHeartbeats 4000000 in
theorem rchoices_any (b : Bat) (l : Int) (w : World) : Calls Try.prog 16 #[b.v, .int .i64 l] w (IntsOut (choicesZ b l) w) := by
  have hL : choicesZ b l = rchooseTo b l 81 := by rw [choicesZ_span]; rfl
  rw [hL]
  clear hL
  have hst := rstep_any b l
  simp only [Bat.v] at hst ⊢
  have HS := Lib.hid hst
  clear hst
  obtain ⟨i0, hi, hz0, hz1, hz2⟩ := info_parts Try.infoInt
  go_enter Try.func16, Try.ntmps16
  go_wp2_with fail
  go_loopw [5, 6] (fun out i wr => ∃ k : Nat, (k : Int) ≤ 81 ∧ i = .int .i64 ((k : Int) - 40) ∧ wr.ownsRow (w.heap.size + 1) 3 1 out (rchooseTo b l k).length (ints (rchooseTo b l k)) ∧
      Below (w.heap.size + 1) (w.alloc (.cells #[.int .i64 b.cap, .int .i64 b.reserve, .int .i64 b.charge, .int .i64 b.discharge, .int .i64 b.eff] 23)) wr)
    (fun _ i _ => (41 - intOf i).toNat)
  case atStart => exact ⟨0, by omega, by simp, World.ownsRow_nil _ _ _ _, Below.refl _ _⟩
  case round =>
    obtain ⟨k, hk, rfl, hown, hB⟩ := hrel
    have hsz := hB.size
    simp only [World.size_alloc] at hsz
    have hlen := rchooseTo_len b l k
    by_cases hlt : (k : Int) < 81
    · obtain ⟨hc, hf⟩ := bcell' hB
      have hst := HS.out (↑k - 40) wr
      have hsucc := Lib.hid (rchooseTo_succ b l k)
      have hcan : canZ b l (↑k - 40) = decide ((stepZ b l (↑k - 40)).2.2 = 0) := rfl
      generalize stepZ b l (↑k - 40) = r at hst hcan
      obtain ⟨r1, r2, r3⟩ := r
      unfold stepPost at hst
      simp only at hst hcan
      have HST := Lib.hid hst
      clear hst
      by_cases h0 : r3 = 0
      · subst h0
        have HCAN : Hid (canZ b l (↑k - 40) = true) := by show _ = _; rw [hcan]; rfl
        clear hcan
        go_wp2_with fail
        refine HST.out.mono ?_
        rintro e w2 ⟨rfl, hb2⟩
        have hown2 := own_below hown hb2
        have hs2 := hb2.size
        go_wp2_with (at_builtin; go_loud (refine wpList_append_new _ _ rfl _ _ 31 rfl (w.heap.size + 1) 3 i0 (.int .i64 0) 1 8 Try.underlying31 hi hz0 hz1 hz2 rfl (by decide) (by decide) _ _ _ rfl hown2 #[.int .i64 (↑k - 40)] rfl (one_int _ _) rfl rfl (by omega) (by omega) ?_))
        intro v' w3 hown3 hb3
        clear hown2 hown HST
        go_wp2
        go_roundw
        case rel =>
          refine ⟨k + 1, by omega, by go_num, ?_, (hB.trans (hb2.mono (by omega))).trans hb3⟩
          rw [hsucc.out, if_pos HCAN.out, ints_append, List.length_append]
          exact hown3
        case measure => simp [intOf]; omega
      · have HCAN : Hid (canZ b l (↑k - 40) = false) := by show _ = _; rw [hcan]; simpa using h0
        have h0' : (r3 == 0) = false := by simpa using h0
        clear hcan h0
        go_wp2_with fail
        refine HST.out.mono ?_
        rintro e w2 ⟨rfl, hb2⟩
        have hown2 := own_below hown hb2
        have hs2 := hb2.size
        clear HST hown
        go_wp2
        go_roundw
        case rel =>
          refine ⟨k + 1, by omega, by go_num, ?_, (hB.trans (hb2.mono (by omega)))⟩
          rw [hsucc.out, if_neg (by rw [HCAN.out]; simp), List.append_nil]
          exact hown2
        case measure => simp [intOf]; omega
    · have hkn : k = 81 := by omega
      subst hkn
      go_wp2
      go_ret
      exact ints_out hown (by omega) (((Below.refl _ _).alloc (Nat.le_refl _) _).trans (hB.mono (by omega)))
end Go.Proofs.Ythoknhbjeddcjaa
