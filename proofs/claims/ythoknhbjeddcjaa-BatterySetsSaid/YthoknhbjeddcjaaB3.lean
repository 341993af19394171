/-
  The walks of layer 39 (battery), part 3: Choices.
-/
import Derived.Test.YthoknhbjeddcjaaB2
namespace Go.Proofs.Ythoknhbjeddcjaa
open Go.RowKit

theorem Try.infoInt : (Try.prog.info? 3).map (fun i => (i.zero, i.size, i.bytes)) = some (some (.int .i64 0), 1, 8) := by kernel_rfl

/-- The first k of the possible charges. -/
def chooseTo (b : Bat) (l : Int) (k : Nat) : List Int := ((List.range k).map fun (i : Nat) => (i : Int) - b.discharge).filter (canZ b l)
theorem chooseTo_succ (b : Bat) (l : Int) (k : Nat) : chooseTo b l (k + 1) = chooseTo b l k ++ if canZ b l ((k : Int) - b.discharge) = true then [(k : Int) - b.discharge] else [] := by
  simp only [chooseTo, List.range_succ, List.map_append, List.filter_append, List.map_cons, List.map_nil, List.filter_cons, List.filter_nil]
theorem chooseTo_len (b : Bat) (l : Int) (k : Nat) : (chooseTo b l k).length ≤ k := by
  refine Nat.le_trans (List.length_filter_le _ _) ?_
  simp

set_option maxHeartbeats 400000 in
theorem choices_bad (b : Bat) (l : Int) (w : World) (hok : b.ok = false) : Calls Try.prog 15 #[b.v, .int .i64 l] w (IntsOut [] w) := by
  have hc := check_any b
  rw [chk_false hok] at hc
  clear hok
  simp only [Bat.v] at hc ⊢
  have HC := Lib.hid hc
  clear hc
  go_enter Try.func15, Try.ntmps15
  go_wp2_with fail
  refine (HC.out _).mono ?_
  rintro e w1 ⟨rfl, hb⟩
  go_wp2_with fail
  go_ret
  exact nil_out ((((Below.refl _ _).alloc (Nat.le_refl _) _).trans (hb.mono (by simp))))

set_option maxHeartbeats 4000000 in
theorem choices_ok (b : Bat) (l : Int) (w : World) (hok : b.ok = true) : Calls Try.prog 15 #[b.v, .int .i64 l] w (IntsOut (choicesZ b l) w) := by
  have hL : choicesZ b l = chooseTo b l (b.discharge + b.charge + 1).toNat := by simp [choicesZ, chooseTo, hok]
  rw [hL]
  clear hL
  have hc := check_any b
  have hst := step_any b l
  rw [chk_true hok] at hc
  have hg := Bat.good hok
  have d0 := hg.di0
  have d1 := hg.di1
  have d2 := hg.ch0
  have d3 := hg.ch1
  clear hok hg
  simp only [Bat.v] at hc hst ⊢
  have HC := Lib.hid hc
  have HS := Lib.hid hst
  clear hc hst
  obtain ⟨i0, hi, hz0, hz1, hz2⟩ := info_parts Try.infoInt
  go_enter Try.func15, Try.ntmps15
  go_wp2_with fail
  refine (HC.out _).mono ?_
  rintro e w1 ⟨rfl, hb⟩
  obtain ⟨hc, hf⟩ := bcell hb
  go_wp2_with fail
  have hW : Below (w.heap.size + 1) (w.alloc (.cells #[.int .i64 b.cap, .int .i64 b.reserve, .int .i64 b.charge, .int .i64 b.discharge, .int .i64 b.eff] 23)) w1 := by simpa using hb
  clear hb hc hf
  go_loopw [5, 20] (fun out i wr => ∃ k : Nat, (k : Int) ≤ b.discharge + b.charge + 1 ∧ i = .int .i64 k ∧ wr.ownsRow (w.heap.size + 1) 3 1 out (chooseTo b l k).length (ints (chooseTo b l k)) ∧
      Below (w.heap.size + 1) (w.alloc (.cells #[.int .i64 b.cap, .int .i64 b.reserve, .int .i64 b.charge, .int .i64 b.discharge, .int .i64 b.eff] 23)) wr)
    (fun _ i _ => (b.discharge + b.charge + 1).toNat - (intOf i).toNat)
  case atStart => exact ⟨0, by omega, rfl, World.ownsRow_nil _ _ _ _, hW⟩
  case round =>
    clear hW
    obtain ⟨k, hk, rfl, hown, hB⟩ := hrel
    have hsz := hB.size
    simp only [World.size_alloc] at hsz
    have hlen := chooseTo_len b l k
    by_cases hlt : (k : Int) < b.discharge + b.charge + 1
    · obtain ⟨hc, hf⟩ := bcell' hB
      have hst := HS.out (↑k - b.discharge) wr
      have hsucc := Lib.hid (chooseTo_succ b l k)
      have hcan : canZ b l (↑k - b.discharge) = decide ((stepZ b l (↑k - b.discharge)).2.2 = 0) := rfl
      generalize stepZ b l (↑k - b.discharge) = r at hst hcan
      obtain ⟨r1, r2, r3⟩ := r
      unfold stepPost at hst
      simp only at hst hcan
      have HST := Lib.hid hst
      clear hst
      by_cases h0 : r3 = 0
      · subst h0
        have HCAN : Hid (canZ b l (↑k - b.discharge) = true) := by show _ = _; rw [hcan]; rfl
        clear hcan
        go_wp2_with fail
        refine HST.out.mono ?_
        rintro e w2 ⟨rfl, hb2⟩
        have hown2 := own_below hown hb2
        have hs2 := hb2.size
        go_wp2_with (at_builtin; go_loud (refine wpList_append_new _ _ rfl _ _ 31 rfl (w.heap.size + 1) 3 i0 (.int .i64 0) 1 8 Try.underlying31 hi hz0 hz1 hz2 rfl (by decide) (by decide) _ _ _ rfl hown2 #[.int .i64 (↑k - b.discharge)] rfl (one_int _ _) rfl rfl (by omega) (by omega) ?_))
        intro v' w3 hown3 hb3
        clear hown2 hown HST
        go_wp2
        go_roundw
        case rel =>
          refine ⟨k + 1, by omega, by go_num, ?_, (hB.trans (hb2.mono (by omega))).trans hb3⟩
          rw [hsucc.out, if_pos HCAN.out, ints_append, List.length_append]
          exact hown3
        case measure => simp [intOf]; omega
      · have HCAN : Hid (canZ b l (↑k - b.discharge) = false) := by show _ = _; rw [hcan]; simpa using h0
        have h0' : (r3 == 0) = false := by simpa using h0
        clear hcan h0
        go_wp2_with fail
        refine HST.out.mono ?_
        rintro e w2 ⟨rfl, hb2⟩
        have hown2 := own_below hown hb2
        have hs2 := hb2.size
        clear HST hown
        go_wp2
        go_roundw
        case rel =>
          refine ⟨k + 1, by omega, by go_num, ?_, (hB.trans (hb2.mono (by omega)))⟩
          rw [hsucc.out, if_neg (by rw [HCAN.out]; simp), List.append_nil]
          exact hown2
        case measure => simp [intOf]; omega
    · have hkn : (b.discharge + b.charge + 1).toNat = k := by omega
      have HK := Lib.hid hkn
      clear hkn
      go_wp2
      go_ret
      rw [HK.out]
      exact ints_out hown (by omega) (((Below.refl _ _).alloc (Nat.le_refl _) _).trans (hB.mono (by omega)))

theorem choices_any (b : Bat) (l : Int) (w : World) : Calls Try.prog 15 #[b.v, .int .i64 l] w (IntsOut (choicesZ b l) w) := by
  by_cases h : b.ok = true
  · exact choices_ok b l w h
  · have h : b.ok = false := by simpa using h
    rw [show choicesZ b l = [] by simp [choicesZ, h]]
    exact choices_bad b l w h
end Go.Proofs.Ythoknhbjeddcjaa
