/-
  The walks of the laws of layer 39 (battery), part 5: BatterySets.
-/
import Derived.Test.YthoknhbjeddcjaaBL2
import Derived.Test.YthoknhbjeddcjaaBP3
namespace Go.Proofs.Ythoknhbjeddcjaa
open Go.RowKit

theorem mem_snoc {c x : Int} {l : List Int} : decide (c ∈ l ++ [x]) = (decide (c ∈ l) || (x == c)) := by
  rw [Bool.eq_iff_iff, Bool.or_eq_true]
  simp only [decide_eq_true_eq, List.mem_append, List.mem_singleton, beq_iff_eq]
  exact or_congr Iff.rfl ⟨Eq.symm, Eq.symm⟩

theorem reachZ_length' (b : Bat) (l n : Int) : (reachZ b l n).length ≤ 41 := by
  by_cases h : b.ok = true ∧ 0 ≤ l ∧ l ≤ b.cap ∧ 0 ≤ n ∧ n ≤ 96
  · rw [reach_is h]
    have := listTo_len (reachB b l n.toNat) (b.cap.toNat + 1)
    have h1 := (Bat.good h.1).cap1
    omega
  · rw [reach_not h]; simp

/-- The levels behind the first k charges. -/
def lvTo (l : Int) (cs : List Int) (k : Nat) : List Int := (cs.take k).map (fun x => l + x)
theorem lvTo_succ {l : Int} {cs : List Int} {k : Nat} (h : k < cs.length) : lvTo l cs (k + 1) = lvTo l cs k ++ [l + cs[k]] := by
  simp only [lvTo, List.take_succ_eq_append_getElem h, List.map_append, List.map_cons, List.map_nil]
theorem lvTo_len (l : Int) (cs : List Int) (k : Nat) : (lvTo l cs k).length ≤ k := by
  simp only [lvTo, List.length_map, List.length_take]; omega
/-- Is c among the first k? -/
def hasTo (c : Int) (cs : List Int) (k : Nat) : Bool := decide (c ∈ cs.take k)
theorem hasTo_succ {c : Int} {cs : List Int} {k : Nat} (h : k < cs.length) : hasTo c cs (k + 1) = (hasTo c cs k || (cs[k] == c)) := by
  unfold hasTo
  rw [List.take_succ_eq_append_getElem h]
  exact mem_snoc

set_option maxHeartbeats 16000000 in
theorem sets_core (b : Bat) (l n c : Int) (w : World) (_wn1 : -9223372036854775808 ≤ n) (_wn2 : n ≤ 9223372036854775807) (cs : List Int) (r1 r2 r3 : Int) (RZ : Int → List Int)
    (H1 : Hid (∀ w, Calls Try.prog 15 #[.agg #[.int .i64 b.cap, .int .i64 b.reserve, .int .i64 b.charge, .int .i64 b.discharge, .int .i64 b.eff], .int .i64 l] w (IntsOut cs w)))
    (H2 : Hid (∀ w, Calls Try.prog 9 #[.agg #[.int .i64 b.cap, .int .i64 b.reserve, .int .i64 b.charge, .int .i64 b.discharge, .int .i64 b.eff], .int .i64 l, .int .i64 c] w (stepPost (r1, r2, r3) w)))
    (H3 : Hid (∀ m w, Calls Try.prog 17 #[.agg #[.int .i64 b.cap, .int .i64 b.reserve, .int .i64 b.charge, .int .i64 b.discharge, .int .i64 b.eff], .int .i64 l, .int .i64 m] w (IntsOut (RZ m) w)))
    (hl1 : cs.length ≤ 81) (HBD : Hid (∀ x ∈ cs, -40 ≤ x ∧ x ≤ 40 ∧ 0 ≤ l ∧ l ≤ 40)) (HADJ : Hid (∀ i (h : i + 1 < cs.length), cs[i] < cs[i + 1])) (HCZ : Hid (decide (c ∈ cs) = (r3 == 0)))
    (HR1 : Hid (RZ 1 = cs.map (fun x => l + x))) (HRL : Hid (∀ m, (RZ m).length ≤ 41)) (HRM : Hid (∀ x m, 0 ≤ m → m < 96 → x ∈ RZ m → x ∈ RZ (m + 1))) :
    Calls Try.prog 7 #[.agg #[.int .i64 b.cap, .int .i64 b.reserve, .int .i64 b.charge, .int .i64 b.discharge, .int .i64 b.eff], .int .i64 l, .int .i64 n, .int .i64 c] w fun e w' => e = .returned (.bool true) ∧ Below w.heap.size w w' := by
  obtain ⟨i0, hi, hz0, hz1, hz2⟩ := info_parts Try.infoInt
  obtain ⟨N, hN⟩ : ∃ N, N = cs.length := ⟨_, rfl⟩
  rw [← hN] at hl1
  have HN := Lib.hid hN
  clear hN
  have hq : decide ((81 : Int) < (N : Int)) = false := by rw [decide_eq_false_iff_not]; omega
  go_enter Try.func7, Try.ntmps7
  go_wp2_with fail
  refine (H1.out _).mono ?_
  rintro e w1 ⟨A1, c1, rfl, hr1, _, hb1⟩
  have B1 := bat_first hb1
  clear hb1
  rw [← HN.out]
  go_wp2_with fail
  go_loopw [10, 11, 31] (fun lv has i wr => ∃ k : Nat, k ≤ N ∧ i = .int .i64 k ∧ wr.ownsRow w1.heap.size 3 1 lv (lvTo l cs k).length (ints (lvTo l cs k)) ∧
      has = .bool (hasTo c cs k) ∧ Below w1.heap.size w1 wr)
    (fun _ _ i _ => N - (intOf i).toNat)
  case atStart => exact ⟨0, by omega, rfl, World.ownsRow_nil _ _ _ _, by simp [hasTo], Below.refl _ _⟩
  case round =>
    obtain ⟨k, hk, rfl, hown, rfl, hB⟩ := hrel
    have hszw := hB.size
    by_cases hlt : k < N
    · have hkc : k < cs.length := by rw [← HN.out]; exact hlt
      have htk := Lib.hid (lvTo_succ (l := l) hkc)
      have hbk := HBD.out cs[k] (List.getElem_mem hkc)
      obtain ⟨b1, b2, b3, b4⟩ := hbk
      obtain ⟨bb, oo, rfl, hab, hac⟩ := hr1.at' hkc
      have hac' : wr.cell? ⟨bb, oo + k, none⟩ = some (.int .i64 cs[k]) := (hB.cell (p := ⟨bb, oo + k, none⟩) hab).trans hac
      have hlenk := lvTo_len l cs k
      have hms := Lib.hid (hasTo_succ (c := c) hkc)
      have hprev : k = 0 ∨ ∃ m, k = m + 1 ∧ ∃ y : Int, wr.cell? ⟨bb, oo + m, none⟩ = some (.int .i64 y) ∧ y < cs[k] := by
        rcases Nat.eq_zero_or_pos k with h0 | h0
        · exact .inl h0
        · refine .inr ⟨k - 1, by omega, cs[k - 1]'(by omega), ?_, ?_⟩
          · obtain ⟨bb', oo', e', hab', hac2⟩ := hr1.at' (show k - 1 < cs.length by omega)
            injection e' with e'
            injection e' with e1 e2
            subst e1 e2
            exact (hB.cell (p := ⟨bb, oo + (k - 1), none⟩) hab').trans hac2
          · have := HADJ.out (k - 1) (by omega)
            simpa only [show k - 1 + 1 = k by omega] using this
      clear hac
      generalize cs[k] = x at *
      generalize hH : hasTo c cs k = Hb at *
      have HH := Lib.hid hH
      clear hH
      rcases hprev with rfl | ⟨m, rfl, y, hy1, hy2⟩
      · have hxc : (x == c) = true ∨ (x == c) = false := by cases x == c <;> simp
        have hac0 : wr.cell? ⟨bb, oo, none⟩ = some (.int .i64 x) := hac'
        clear hac'
        cases Hb <;> rcases hxc with hxc | hxc
        all_goals
          go_wp2_with (at_builtin; go_loud (refine wpList_append_new _ _ rfl _ _ 31 rfl w1.heap.size 3 i0 (.int .i64 0) 1 8 Try.underlying31 hi hz0 hz1 hz2 rfl (by decide) (by decide) _ _ _ rfl hown #[.int .i64 (l + x)] rfl (one_int _ _) rfl rfl (by omega) (by omega) ?_))
          all_goals
            intro v' w3 hown3 hb3
            clear hown
            go_wp2
            go_roundw
            case rel =>
              have hfin : w3.ownsRow w1.heap.size 3 1 v' (lvTo l cs (0 + 1)).length (ints (lvTo l cs (0 + 1))) := by
                rw [htk.out, ints_append, List.length_append]
                exact hown3
              exact ⟨0 + 1, by omega, by go_num, hfin, by rw [hms.out, hxc]; rfl, hB.trans hb3⟩
            case measure => simp [intOf]; omega
      · have hxc : (x == c) = true ∨ (x == c) = false := by cases x == c <;> simp
        have hle : ¬ (x ≤ y) := by omega
        cases Hb <;> rcases hxc with hxc | hxc
        all_goals
          go_wp2_with (at_builtin; go_loud (refine wpList_append_new _ _ rfl _ _ 31 rfl w1.heap.size 3 i0 (.int .i64 0) 1 8 Try.underlying31 hi hz0 hz1 hz2 rfl (by decide) (by decide) _ _ _ rfl hown #[.int .i64 (l + x)] rfl (one_int _ _) rfl rfl (by omega) (by omega) ?_))
          intro v' w3 hown3 hb3
          clear hown
          go_wp2
          go_roundw
          case rel =>
            have hfin : w3.ownsRow w1.heap.size 3 1 v' (lvTo l cs (m + 1 + 1)).length (ints (lvTo l cs (m + 1 + 1))) := by
              rw [htk.out, ints_append, List.length_append]
              exact hown3
            exact ⟨m + 1 + 1, by omega, by go_num, hfin, by rw [hms.out, hxc]; rfl, hB.trans hb3⟩
          case measure => simp [intOf]; omega
    · obtain rfl : k = N := by omega
      clear hq
      have HAS : Hid (hasTo c cs k = (r3 == 0)) := by
        show _ = _
        unfold hasTo
        rw [List.take_of_length_le (by rw [HN.out]; omega)]
        exact HCZ.out
      have htkl : lvTo l cs k = RZ 1 := by
        unfold lvTo
        rw [List.take_of_length_le (by rw [HN.out]; omega), HR1.out]
      rw [htkl] at hown
      clear htkl
      obtain ⟨A2, c2, rfl, hr2, _⟩ := ints_own hown
      clear hown
      have Bw := B1.mk hB
      rw [HAS.out]
      have hcs0 := Lib.hid hr2
      clear hr2 hr1
      obtain ⟨p0, p1, p2, p3, p4⟩ := Bw.cells
      go_wp2_with fail
      refine (H2.out _).mono ?_
      rintro e w4 ⟨rfl, hb4⟩
      have B4 := Bw.mk hb4
      have hr2 := Lib.hid (hcs0.out.below hb4)
      clear p0 p1 p2 p3 p4 Bw hb4 hcs0
      obtain ⟨p0, p1, p2, p3, p4⟩ := B4.cells
      go_wp2_with fail
      refine (H3.out _ _).mono ?_
      rintro e w5 ⟨A3, c3, rfl, hr3, _, hb5⟩
      have B5 := B4.mk hb5
      have hr2b := hr2.out.below hb5
      have hlr := HRL.out 1
      clear p0 p1 p2 p3 p4 B4 hb5 hr2
      go_wp2_with fail
      refine (same_at (RZ 1) (RZ 1) rfl rfl hr3 hr2b (by omega)).mono ?_
      rintro e w6 ⟨rfl, hb6⟩
      have B6 := B5.mk hb6
      clear B5 hb6 hr3 hr2b hlr
      obtain ⟨p0, p1, p2, p3, p4⟩ := B6.cells
      by_cases hn : 0 ≤ n ∧ n < 96
      · obtain ⟨hn1, hn2⟩ := hn
        go_wp2_with fail
        refine (H3.out _ _).mono ?_
        rintro e w7 ⟨A7, c7, rfl, hr7, _, hb7⟩
        have B7 := B6.mk hb7
        clear p0 p1 p2 p3 p4 B6 hb7
        obtain ⟨p0, p1, p2, p3, p4⟩ := B7.cells
        go_wp2_with fail
        refine (H3.out _ _).mono ?_
        rintro e w8 ⟨A8, c8, rfl, hr8, _, hb8⟩
        have B8 := B7.mk hb8
        have hr7b := hr7.below hb8
        clear p0 p1 p2 p3 p4 B7 hb8 hr7
        have hl7 := HRL.out (n + 1)
        have hl8 := HRL.out n
        have hsub : ∀ x ∈ RZ n, x ∈ RZ (n + 1) := fun x hx => HRM.out x n hn1 hn2 hx
        generalize RZ (n + 1) = ys at *
        generalize RZ n = xs at *
        obtain ⟨Y, hY⟩ : ∃ Y, Y = ys.length := ⟨_, rfl⟩
        obtain ⟨X, hX⟩ : ∃ X, X = xs.length := ⟨_, rfl⟩
        rw [← hY, ← hX]
        rw [← hY] at hl7
        rw [← hX] at hl8
        have HY := Lib.hid hY
        have HX := Lib.hid hX
        have HSUB := Lib.hid hsub
        clear hY hX hsub
        go_wp2_with fail
        go_loop [105] (fun i => ∃ k : Nat, k ≤ X ∧ i = .int .i64 k) (fun i => X - (intOf i).toNat)
        case atStart => exact ⟨0, by omega, rfl⟩
        case round =>
          obtain ⟨k, hk, rfl⟩ := hrel
          by_cases hlt : k < X
          · have hkx : k < xs.length := by rw [← HX.out]; exact hlt
            obtain ⟨bb, oo, rfl, hab, hac⟩ := hr8.at' hkx
            have hin := Lib.hid (HSUB.out xs[k] (List.getElem_mem hkx))
            generalize xs[k] = x at *
            go_wp2_with fail
            go_loop [20, 111] (fun f i => ∃ m : Nat, m ≤ Y ∧ i = .int .i64 m ∧ f = .bool (hasTo x ys m)) (fun _ i => Y - (intOf i).toNat)
            case atStart => exact ⟨0, by omega, rfl, by simp [hasTo]⟩
            case round =>
              obtain ⟨m, hm, rfl, rfl⟩ := hrel
              by_cases hltm : m < Y
              · have hmy : m < ys.length := by rw [← HY.out]; exact hltm
                obtain ⟨b2, o2, rfl, hab2, hac2⟩ := hr7b.at' hmy
                have hms := Lib.hid (hasTo_succ (c := x) hmy)
                generalize ys[m] = y at *
                generalize hasTo x ys m = Hb at *
                have hxc : (x == y) = true ∨ (x == y) = false := by cases x == y <;> simp
                have hsym : (y == x) = (x == y) := by rw [Bool.eq_iff_iff, beq_iff_eq, beq_iff_eq]; exact ⟨Eq.symm, Eq.symm⟩
                have HSY := Lib.hid hsym
                clear hsym
                cases Hb <;> rcases hxc with hxc | hxc
                all_goals
                  go_wp2_with fail
                  all_goals
                    go_round
                    case rel => exact ⟨m + 1, by omega, by go_num, by rw [hms.out, HSY.out, hxc]; rfl⟩
                    case measure => simp [intOf]; omega
              · obtain rfl : m = Y := by omega
                have hfound : hasTo x ys m = true := by
                  unfold hasTo
                  rw [List.take_of_length_le (by rw [HY.out]; omega), decide_eq_true_iff]
                  exact hin.out
                rw [hfound]
                go_wp2_with fail
                go_round
                case rel => exact ⟨k + 1, by omega, by go_num⟩
                case measure => simp [intOf]; omega
          · go_wp2_with fail
            refine (awake_any _).mono ?_
            rintro e w9 ⟨rfl, hb9⟩
            have B9 := B8.mk hb9
            go_wp2_with fail
            go_ret
            exact ⟨rfl, B9.out⟩
      · have hcn : n < 0 ∨ (0 ≤ n ∧ 96 ≤ n) := by omega
        clear hn
        rcases hcn with hn | ⟨hn, hn'⟩
        all_goals
          go_wp2_with fail
          refine (awake_any _).mono ?_
          rintro e w7 ⟨rfl, hb7⟩
          have B7 := B6.mk hb7
          go_wp2_with fail
          go_ret
          exact ⟨rfl, B7.out⟩

theorem sets_law (b : Bat) (l n c : Int) (w : World) (wn : -9223372036854775808 ≤ n ∧ n ≤ 9223372036854775807) : Calls Try.prog 7 #[b.v, .int .i64 l, .int .i64 n, .int .i64 c] w fun e w' => e = .returned (.bool true) ∧ Below w.heap.size w w' := by
  refine sets_core b l n c w wn.1 wn.2 (choicesZ b l) (stepZ b l c).1 (stepZ b l c).2.1 (stepZ b l c).2.2 (reachZ b l) (choices_any b l) (step_any b l c) (reach_any b l) (choicesZ_length b l) ?_ (fun i h => choicesZ_adj h) (canZ_zero b l c) (reach_one b l) (reachZ_length' b l) (fun x m h0 h1 h => reach_more h0 h1 h)
  intro x hx
  rw [mem_choicesZ, canZ_iff] at hx
  have hg := Bat.good hx.1
  have := hg.di1; have := hg.ch1; have := hg.cap1
  omega
end Go.Proofs.Ythoknhbjeddcjaa
