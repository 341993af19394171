/-
  The walk of the law LoadWhole (layer 41).
-/
import Derived.Test.YtnibhdpgjmdkeaaL22
import Derived.Deep.RegionHeld3
import Derived.Deep.DrawnRows
namespace Go.Proofs.Ytnibhdpgjmdkeaa
open Go.RowKit

theorem few1_at {r : Ld} {A : Option Addr} {c : Nat} {W : World} (p : RInts W A r.prof) (hm : r.prof.length ≤ maxLen) :
    Calls Try.prog 9 #[.slice (some ⟨W.heap.size, 0, none⟩) 1 1] (W.alloc (.cells #[.string r.name, .slice A r.prof.length c, .int .i64 r.early, .int .i64 r.late] 24)) (fun e w' => e = .returned (.bool r.few1) ∧ W.alloc (.cells #[.string r.name, .slice A r.prof.length c, .int .i64 r.early, .int .i64 r.late] 24) = w') := by
  have hl := rloads_lit (W := W) #[.string r.name, .slice A r.prof.length c, .int .i64 r.early, .int .i64 r.late] 24 (l := [⟨r, A, c⟩]) (by intro x hx; simp at hx; subst hx; exact p) rfl
  have h := few_any _ 1 _ _ hl (by intro x hx; simp at hx; subst hx; exact hm)
  have e : fewM [⟨r, A, c⟩] = r.few1 := by simp [fewM, Ld.few1]
  rw [e] at h
  exact h
theorem LdX.cellsW {r : Ld} {A : Option Addr} {c : Nat} {w W : World} (h : LdX r A c w W) : W.cell? ⟨w.heap.size, 0, none⟩ = some (.string r.name) ∧ W.cell? ⟨w.heap.size, 1, none⟩ = some (.slice A r.prof.length c) ∧ W.cell? ⟨w.heap.size, 2, none⟩ = some (.int .i64 r.early) ∧ W.cell? ⟨w.heap.size, 3, none⟩ = some (.int .i64 r.late) ∧ w.heap.size < W.heap.size := by
  obtain ⟨a, b, c, d⟩ := h.cells
  exact ⟨a, b, c, d, by have := h.s.size; omega⟩
attribute [local go_sem ↓] Go.wp_at_zero Go.wp_at_succ

set_option linter.unusedSimpArgs false in
set_option maxHeartbeats 16000000 in
theorem whole_law (r : Ld) (A : Option Addr) (c : Nat) (start n : Int) (w : World) (hA : RInts w A r.prof) (hm : r.prof.length ≤ maxLen) (s0 : -9223372036854775808 ≤ start) (s1 : start ≤ 9223372036854775807) :
    Calls Try.prog 6 #[r.v A c, .int .i64 start, .int .i64 n] w fun e w' => e = .returned (.bool true) ∧ Below w.heap.size w w' := by
  have hf := Lib.hid (few1_at (c := c) (hA.alloc (.cells #[.string r.name, .slice A r.prof.length c, .int .i64 r.early, .int .i64 r.late] 24)) hm)
  have hf2 := Lib.hid (few1_at (c := c) ((hA.alloc (.cells #[.string r.name, .slice A r.prof.length c, .int .i64 r.early, .int .i64 r.late] 24)).alloc (.cells #[.string r.name, .slice A r.prof.length c, .int .i64 r.early, .int .i64 r.late] 24)) hm)
  simp only [World.size_alloc] at hf hf2
  simp only [Ld.v]
  cases hg0 : r.few1
  all_goals rw [hg0] at hf hf2
  · go_enter Try.func6, Try.ntmps6
    go_wp2_with fail
    refine hf.out.mono ?_
    rintro e w1 ⟨rfl, rfl⟩
    go_wp2_with fail
    refine hf2.out.mono ?_
    rintro e w1 ⟨rfl, rfl⟩
    go_wp2_with fail
    refine (awake_any _).mono ?_
    rintro e w2 ⟨rfl, hb2⟩
    have hO : Hid (Below w.heap.size w w2) := ((((Below.refl _ _).alloc (Nat.le_refl _) _).alloc (by simp) _).alloc (by simp; omega) _).trans (hb2.mono (by simp; omega))
    clear hb2
    go_wp2_with fail
    go_ret
    exact ⟨rfl, hO.out⟩
  · obtain ⟨n1, l1⟩ := Ld.few1_true hg0
    have h0 := Lib.hid ((LdX.first (c := c) hA n1 l1).mk' ((Below.refl _ _).alloc (Nat.le_refl _) (.cells #[.string r.name, .slice A r.prof.length c, .int .i64 r.early, .int .i64 r.late] 24)))
    have c0 := Lib.hid (fun W (h : LdX r A c w W) => h.cCheck n)
    have c0r := Lib.hid (fun W (h : LdX r A c w W) => h.cRCheck n)
    have hfw := Lib.hid (fun W (h : LdX r A c w W) => few1_at (c := c) h.prof hm)
    rw [hg0] at hfw
    by_cases hc : r.chk n = 0
    · have g := Ld.good hc
      have hlast := Ld.fit_last (s := start) hc
      have e0 := g.e0; have g1 := g.l1; have g2 := g.n1; have g3 := g.n0; have g4 := g.p
      have hla : Hid (r.last = r.late - (r.prof.length : Int)) := by show _ = _; unfold Ld.last; rw [if_neg (by omega), if_neg (by omega)]
      have la0 : r.early ≤ r.last := by rw [hla.out]; omega
      have la1 : r.last ≤ 96 := by rw [hla.out]; omega
      have hlen := hlast.2
      have hwhole := Lib.hid (fun (h : r.fit start n = true) => Ld.whole h)
      have hwin := Lib.hid (fun (h : r.fit start n = true) (i : Int) (hu : r.use start i ≠ 0) => Ld.use_window h hu)
      have hlt := Lib.hid (fun i => slots_lt (n := n) (i := i))
      have hend := Lib.hid (fun i => slots_end (n := n) (i := i))
      have c1 := Lib.hid (fun W (h : LdX r A c w W) => h.cFit start n)
      have c2 := Lib.hid (fun W (h : LdX r A c w W) => h.cLast)
      have c3 := Lib.hid (fun W (h : LdX r A c w W) => h.cStarts n)
      have c4 := Lib.hid (fun (i : Nat) (hi : (i : Int) ≤ 9223372036854775807) W (h : LdX r A c w W) => h.cUse start i s0 s1 (by omega) hi)
      have c5 := Lib.hid (fun W (h : LdX r A c w W) => h.cEnergy)
      have hfl : r.fit start n = (decide (r.early ≤ start) && decide (start ≤ r.last)) := hlast.1
      have hus := Lib.hid (r.usedTo_succ start)
      have hub := Lib.hid (r.usedTo_bd start)
      rw [hc] at c0
      clear hA hm hg0 hf2 hlast g c0r hc hla
      generalize r.starts n = xs at *
      generalize r.last = la at *
      have wl : IntKind.i64.wrap (la - r.early) = la - r.early := IntWalk.i64_in _ (by omega)
      have wl2 : IntKind.i64.wrap (la - r.early + 1) = la - r.early + 1 := IntWalk.i64_in _ (by omega)
      have wl3 : ((xs.length : Int) != la - r.early + 1) = false := by simpa using hlen
      have WL := Lib.hid (And.intro wl (And.intro wl2 wl3))
      clear wl wl2 wl3 hlen
      by_cases q1 : r.early ≤ start
      · by_cases q2 : start ≤ la
        · have hft : r.fit start n = true := by rw [hfl, decide_eq_true q1, decide_eq_true q2]; rfl
          have HW := Lib.hid (hwhole.out hft)
          have HN := Lib.hid (hwin.out hft)
          rw [hft] at c1
          clear hfl hft hwhole hwin
          generalize slotsN n = N at *
          go_enter Try.func6, Try.ntmps6
          go_wp2_with fail
          refine hf.out.mono ?_
          rintro e w1 ⟨rfl, rfl⟩
          obtain ⟨W1, hW1⟩ : ∃ W1, W1 = (w.alloc (.cells #[.string r.name, .slice A r.prof.length c, .int .i64 r.early, .int .i64 r.late] 24)).alloc (.cells #[.string r.name, .slice A r.prof.length c, .int .i64 r.early, .int .i64 r.late] 24) := ⟨_, rfl⟩
          rw [← hW1] at h0 ⊢
          clear hW1
          obtain ⟨x0, x1, x2, x3, hz1⟩ := h0.out.cellsW
          go_wp2_with fail
          clear x0 x1 x2 x3
          refine (c0.out _ h0.out).mono ?_
          rintro e w2 ⟨rfl, hb2⟩
          have h2 := Lib.hid (h0.out.mk' hb2)
          obtain ⟨x0, x1, x2, x3, hz2⟩ := h2.out.cellsW
          clear hb2
          go_wp2_with fail
          clear x0 x1 x2 x3
          refine (c1.out _ h2.out).mono ?_
          rintro e v ⟨rfl, hb3⟩
          have hx := Lib.hid (h2.out.mk' hb3)
          clear hb3
          obtain ⟨wl, wl2, wl3⟩ := WL.out
          go_wp2_with fail
          go_region_held3 (fun w' => Below v.heap.size v w' ∧ w'.cell? ⟨w.heap.size, 0, none⟩ = some (.string r.name) ∧ w'.cell? ⟨w.heap.size, 1, none⟩ = some (.slice A r.prof.length c) ∧ w'.cell? ⟨w.heap.size, 2, none⟩ = some (.int .i64 r.early) ∧ w'.cell? ⟨w.heap.size, 3, none⟩ = some (.int .i64 r.late))
            (first | exact hx.out.keep (Below.refl _ _) | exact hx.out.keep (Below.drew (Below.refl _ _)) | exact hx.out.keep (Below.drew (by assumption)) | exact hx.out.keep (Below.drew (And.left (by assumption))) | exact hx.out.keep (Below.trans (by first | assumption | exact And.left (by assumption) | exact Below.refl _ _ | exact Below.drew (Below.refl _ _) | exact Below.drew (by assumption) | exact Below.drew (And.left (by assumption))) (Below.mono (by assumption) (Below.size (by first | assumption | exact And.left (by assumption) | exact Below.refl _ _ | exact Below.drew (Below.refl _ _) | exact Below.drew (by assumption) | exact Below.drew (And.left (by assumption)))))))
            (first
              | (go_at_call 12; refine (c3.out _ (hx.out.mk' (by first | assumption | exact And.left (by assumption) | exact Below.refl _ _ | exact Below.drew (Below.refl _ _) | exact Below.drew (by assumption) | exact Below.drew (And.left (by assumption))))).mono ?_; rintro e w4 ⟨A1, c1', rfl, _, _, hb4⟩)
              | (go_at_call 16; refine (c2.out _ (hx.out.mk' (by first | assumption | exact And.left (by assumption) | exact Below.refl _ _ | exact Below.drew (Below.refl _ _) | exact Below.drew (by assumption) | exact Below.drew (And.left (by assumption))))).mono ?_; rintro e w5 ⟨rfl, hb5⟩))
          have hy := Lib.hid (hx.out.mk' (by first | assumption | exact And.left (by assumption)))
          clear wl wl2 wl3
          go_wp2_with fail
          go_loopw [8, 9] (fun s' i' wr => ∃ k : Nat, k ≤ N ∧ i' = .int .i64 k ∧ s' = .int .i64 (r.usedTo start k) ∧ LdX r A c w wr)
            (fun _ i' _ => N - (intOf i').toNat)
          case atStart => exact ⟨0, by omega, rfl, rfl, hy.out⟩
          case round =>
            obtain ⟨k, hkN, rfl, rfl, hr0⟩ := hrel
            have hr := Lib.hid hr0
            clear hr0
            obtain ⟨x0, x1, x2, x3⟩ := hr.out.cells
            have b1 := hub.out k
            have hsu := Lib.hid (hus.out k)
            by_cases hlt2 : k < N
            · obtain ⟨t1, t2⟩ := hlt.out k hlt2
              have ub := r.use_bd start (k : Int)
              have hcu := Lib.hid (c4.out k (by omega))
              by_cases hu : r.use start (k : Int) = 0
              · rw [hu] at hcu hsu
                clear hu
                generalize r.usedTo start k = sm at *
                go_wp2_with fail
                clear x0 x1 x2 x3
                refine (hcu.out _ hr.out).mono ?_
                rintro e w6 ⟨rfl, hb6⟩
                have h6 := Lib.hid (hr.out.mk' hb6)
                clear hb6
                go_wp2_with fail
                go_roundw
                case rel => exact ⟨k + 1, by omega, by go_num, by rw [hsu.out]; go_num, h6.out⟩
                case measure => simp [intOf]; omega
              · obtain ⟨t3, t4⟩ := HN.out (k : Int) hu
                have hu' : (r.use start (k : Int) != 0) = true := by simpa using hu
                have t5 : ¬ (k : Int) < r.early := by omega
                have t6 : ¬ r.late ≤ (k : Int) := by omega
                clear hu
                generalize r.usedTo start k = sm at *
                generalize r.use start (k : Int) = u at *
                go_wp2_with fail
                clear x0 x1 x2 x3
                refine (hcu.out _ hr.out).mono ?_
                rintro e w6 ⟨rfl, hb6⟩
                have h6 := Lib.hid (hr.out.mk' hb6)
                obtain ⟨x0, x1, x2, x3⟩ := h6.out.cells
                clear hb6
                go_wp2_with fail
                go_roundw
                case rel => exact ⟨k + 1, by omega, by go_num, by rw [hsu.out], h6.out⟩
                case measure => simp [intOf]; omega
            · obtain rfl : k = N := by omega
              have hcs := hend.out k rfl
              have hE : Hid (r.usedTo start k = r.energy) := HW.out
              rw [hE.out]
              generalize r.energy = en at *
              have t1 : ¬ (k : Int) < n := by rcases hcs with t | ⟨t, t2⟩ <;> omega
              go_wp2_with fail
              clear x0 x1 x2 x3
              refine (c5.out _ hr.out).mono ?_
              rintro e w6 ⟨rfl, hb6⟩
              have h6 := Lib.hid (hr.out.mk' hb6)
              clear hb6
              go_wp2_with fail
              refine (awake_any _).mono ?_
              rintro e w7 ⟨rfl, hb7⟩
              have h7 := Lib.hid (h6.out.mk' hb7)
              clear hb7
              go_wp2_with fail
              go_ret
              exact ⟨rfl, h7.out.out⟩
        · have hft : r.fit start n = false := by rw [hfl, decide_eq_false q2, Bool.and_false]
          rw [hft] at c1
          have q3 : decide (start ≤ la) = false := decide_eq_false q2
          clear hfl hft hwhole hwin
          go_enter Try.func6, Try.ntmps6
          go_wp2_with fail
          refine hf.out.mono ?_
          rintro e w1 ⟨rfl, rfl⟩
          obtain ⟨W1, hW1⟩ : ∃ W1, W1 = (w.alloc (.cells #[.string r.name, .slice A r.prof.length c, .int .i64 r.early, .int .i64 r.late] 24)).alloc (.cells #[.string r.name, .slice A r.prof.length c, .int .i64 r.early, .int .i64 r.late] 24) := ⟨_, rfl⟩
          rw [← hW1] at h0 ⊢
          clear hW1
          obtain ⟨x0, x1, x2, x3, hz1⟩ := h0.out.cellsW
          go_wp2_with fail
          clear x0 x1 x2 x3
          refine (c0.out _ h0.out).mono ?_
          rintro e w2 ⟨rfl, hb2⟩
          have h2 := Lib.hid (h0.out.mk' hb2)
          obtain ⟨x0, x1, x2, x3, hz2⟩ := h2.out.cellsW
          clear hb2
          go_wp2_with fail
          clear x0 x1 x2 x3
          refine (c1.out _ h2.out).mono ?_
          rintro e v ⟨rfl, hb3⟩
          have hx := Lib.hid (h2.out.mk' hb3)
          clear hb3
          obtain ⟨wl, wl2, wl3⟩ := WL.out
          go_wp2_with fail
          go_region_held3 (fun w' => Below v.heap.size v w' ∧ w'.cell? ⟨w.heap.size, 0, none⟩ = some (.string r.name) ∧ w'.cell? ⟨w.heap.size, 1, none⟩ = some (.slice A r.prof.length c) ∧ w'.cell? ⟨w.heap.size, 2, none⟩ = some (.int .i64 r.early) ∧ w'.cell? ⟨w.heap.size, 3, none⟩ = some (.int .i64 r.late))
            (first | exact hx.out.keep (Below.refl _ _) | exact hx.out.keep (Below.drew (Below.refl _ _)) | exact hx.out.keep (Below.drew (by assumption)) | exact hx.out.keep (Below.drew (And.left (by assumption))) | exact hx.out.keep (Below.trans (by first | assumption | exact And.left (by assumption) | exact Below.refl _ _ | exact Below.drew (Below.refl _ _) | exact Below.drew (by assumption) | exact Below.drew (And.left (by assumption))) (Below.mono (by assumption) (Below.size (by first | assumption | exact And.left (by assumption) | exact Below.refl _ _ | exact Below.drew (Below.refl _ _) | exact Below.drew (by assumption) | exact Below.drew (And.left (by assumption)))))))
            (first
              | (go_at_call 12; refine (c3.out _ (hx.out.mk' (by first | assumption | exact And.left (by assumption) | exact Below.refl _ _ | exact Below.drew (Below.refl _ _) | exact Below.drew (by assumption) | exact Below.drew (And.left (by assumption))))).mono ?_; rintro e w4 ⟨A1, c1', rfl, _, _, hb4⟩)
              | (go_at_call 16; refine (c2.out _ (hx.out.mk' (by first | assumption | exact And.left (by assumption) | exact Below.refl _ _ | exact Below.drew (Below.refl _ _) | exact Below.drew (by assumption) | exact Below.drew (And.left (by assumption))))).mono ?_; rintro e w5 ⟨rfl, hb5⟩))
          have hy := Lib.hid (hx.out.mk' (by first | assumption | exact And.left (by assumption)))
          clear wl wl2 wl3
          go_wp2_with fail
          refine (awake_any _).mono ?_
          rintro e w7 ⟨rfl, hb7⟩
          have h7 := Lib.hid (hy.out.mk' hb7)
          clear hb7
          go_wp2_with fail
          go_ret
          exact ⟨rfl, h7.out.out⟩
      · have hft : r.fit start n = false := by rw [hfl, decide_eq_false q1, Bool.false_and]
        rw [hft] at c1
        have q3 : decide (r.early ≤ start) = false := decide_eq_false q1
        clear hfl hft hwhole hwin
        go_enter Try.func6, Try.ntmps6
        go_wp2_with fail
        refine hf.out.mono ?_
        rintro e w1 ⟨rfl, rfl⟩
        obtain ⟨W1, hW1⟩ : ∃ W1, W1 = (w.alloc (.cells #[.string r.name, .slice A r.prof.length c, .int .i64 r.early, .int .i64 r.late] 24)).alloc (.cells #[.string r.name, .slice A r.prof.length c, .int .i64 r.early, .int .i64 r.late] 24) := ⟨_, rfl⟩
        rw [← hW1] at h0 ⊢
        clear hW1
        obtain ⟨x0, x1, x2, x3, hz1⟩ := h0.out.cellsW
        go_wp2_with fail
        clear x0 x1 x2 x3
        refine (c0.out _ h0.out).mono ?_
        rintro e w2 ⟨rfl, hb2⟩
        have h2 := Lib.hid (h0.out.mk' hb2)
        obtain ⟨x0, x1, x2, x3, hz2⟩ := h2.out.cellsW
        clear hb2
        go_wp2_with fail
        clear x0 x1 x2 x3
        refine (c1.out _ h2.out).mono ?_
        rintro e v ⟨rfl, hb3⟩
        have hx := Lib.hid (h2.out.mk' hb3)
        clear hb3
        obtain ⟨wl, wl2, wl3⟩ := WL.out
        go_wp2_with fail
        refine wp_region_held_drew (S := (fun w' => Below v.heap.size v w' ∧ w'.cell? ⟨w.heap.size, 0, none⟩ = some (.string r.name) ∧ w'.cell? ⟨w.heap.size, 1, none⟩ = some (.slice A r.prof.length c) ∧ w'.cell? ⟨w.heap.size, 2, none⟩ = some (.int .i64 r.early) ∧ w'.cell? ⟨w.heap.size, 3, none⟩ = some (.int .i64 r.late))) (by kernel_rfl) (by exact hx.out.keep (Below.drew (Below.refl _ _))) (fun hHeld => ?_)
        refine wpAnyH_take (i := 0) (v := ?_) rfl (by kernel_rfl) (by kernel_rfl) (by kernel_rfl) (fun _ _ _ h => h) (Or.inl ⟨by rfl, ?_⟩) (by assumption) ?_
        rotate_left
        · (intro w' hSw; (try dsimp only at hSw); go_simp; try with_reducible rfl)
        (try simp only [List.getElem_toArray, List.getElem_cons_zero, List.getElem_cons_succ, Act.put, List.setIfInBounds_toArray, List.set_cons_zero, List.set_cons_succ])
        refine wpAnyH_take (i := 1) (v := ?_) rfl (by kernel_rfl) (by kernel_rfl) (by kernel_rfl) (fun _ _ _ h => h) (Or.inl ⟨by rfl, ?_⟩) (by assumption) ?_
        rotate_left
        · (intro w' hSw; (try dsimp only at hSw); go_simp; try with_reducible rfl)
        (try simp only [List.getElem_toArray, List.getElem_cons_zero, List.getElem_cons_succ, Act.put, List.setIfInBounds_toArray, List.set_cons_zero, List.set_cons_succ])
        refine wpAnyH_take (i := 2) (v := ?_) rfl (by kernel_rfl) (by kernel_rfl) (by kernel_rfl) (fun _ _ _ h => h) (Or.inl ⟨by rfl, ?_⟩) (by assumption) ?_
        rotate_left
        · (intro w' hSw; (try dsimp only at hSw); go_simp; try with_reducible rfl)
        (try simp only [List.getElem_toArray, List.getElem_cons_zero, List.getElem_cons_succ, Act.put, List.setIfInBounds_toArray, List.set_cons_zero, List.set_cons_succ])
        refine wpAnyH_take (i := 3) (v := ?_) rfl (by kernel_rfl) (by kernel_rfl) (by kernel_rfl) (fun _ _ _ h => h) (Or.inl ⟨by rfl, ?_⟩) (by assumption) ?_
        rotate_left
        · (intro w' hSw; (try dsimp only at hSw); go_simp; try with_reducible rfl)
        (try simp only [List.getElem_toArray, List.getElem_cons_zero, List.getElem_cons_succ, Act.put, List.setIfInBounds_toArray, List.set_cons_zero, List.set_cons_succ])
        refine wpAnyH_take (i := 4) (v := ?_) rfl (by kernel_rfl) (by kernel_rfl) (by kernel_rfl) (fun _ _ _ h => h) (Or.inl ⟨by rfl, ?_⟩) (by assumption) ?_
        rotate_left
        · (intro w' hSw; (try dsimp only at hSw); go_simp; try with_reducible rfl)
        (try simp only [List.getElem_toArray, List.getElem_cons_zero, List.getElem_cons_succ, Act.put, List.setIfInBounds_toArray, List.set_cons_zero, List.set_cons_succ])
        refine wpAnyH_take (i := 5) (v := ?_) rfl (by kernel_rfl) (by kernel_rfl) (by kernel_rfl) (fun _ _ _ h => h) (Or.inl ⟨by rfl, ?_⟩) (by assumption) ?_
        rotate_left
        · (intro w' hSw; (try dsimp only at hSw); go_simp; try with_reducible rfl)
        (try simp only [List.getElem_toArray, List.getElem_cons_zero, List.getElem_cons_succ, Act.put, List.setIfInBounds_toArray, List.set_cons_zero, List.set_cons_succ])
        refine wpAnyH_take (i := 6) (v := undef) rfl (by kernel_rfl) (by kernel_rfl) (by kernel_rfl) (fun _ _ _ h => h) (Or.inr ⟨by rfl, rfl⟩) (by assumption) ?_
        (try simp only [List.getElem_toArray, List.getElem_cons_zero, List.getElem_cons_succ, Act.put, List.setIfInBounds_toArray, List.set_cons_zero, List.set_cons_succ])
        refine wpAnyH_take (i := 7) (v := undef) rfl (by kernel_rfl) (by kernel_rfl) (by kernel_rfl) (fun _ _ _ h => h) (Or.inr ⟨by rfl, rfl⟩) (by assumption) ?_
        (try simp only [List.getElem_toArray, List.getElem_cons_zero, List.getElem_cons_succ, Act.put, List.setIfInBounds_toArray, List.set_cons_zero, List.set_cons_succ])
        refine wpAnyH_take (i := 8) (v := undef) rfl (by kernel_rfl) (by kernel_rfl) (by kernel_rfl) (fun _ _ _ h => h) (Or.inr ⟨by rfl, rfl⟩) (by assumption) ?_
        (try simp only [List.getElem_toArray, List.getElem_cons_zero, List.getElem_cons_succ, Act.put, List.setIfInBounds_toArray, List.set_cons_zero, List.set_cons_succ])
        refine wpAnyH_take (i := 9) (v := undef) rfl (by kernel_rfl) (by kernel_rfl) (by kernel_rfl) (fun _ _ _ h => h) (Or.inr ⟨by rfl, rfl⟩) (by assumption) ?_
        (try simp only [List.getElem_toArray, List.getElem_cons_zero, List.getElem_cons_succ, Act.put, List.setIfInBounds_toArray, List.set_cons_zero, List.set_cons_succ])
        refine wpAnyH_take (i := 10) (v := ?_) rfl (by kernel_rfl) (by kernel_rfl) (by kernel_rfl) (fun _ _ _ h => h) (Or.inl ⟨by rfl, ?_⟩) (by assumption) ?_
        rotate_left
        · (intro w' hSw; (try dsimp only at hSw); go_simp; try with_reducible rfl)
        (try simp only [List.getElem_toArray, List.getElem_cons_zero, List.getElem_cons_succ, Act.put, List.setIfInBounds_toArray, List.set_cons_zero, List.set_cons_succ])
        refine wpAnyH_take (i := 11) (v := ?_) rfl (by kernel_rfl) (by kernel_rfl) (by kernel_rfl) (fun _ _ _ h => h) (Or.inl ⟨by rfl, ?_⟩) (by assumption) ?_
        rotate_left
        · (intro w' hSw; (try dsimp only at hSw); go_simp; try with_reducible rfl)
        (try simp only [List.getElem_toArray, List.getElem_cons_zero, List.getElem_cons_succ, Act.put, List.setIfInBounds_toArray, List.set_cons_zero, List.set_cons_succ])
        refine wpAnyH_take (i := 12) (v := ?_) rfl (by kernel_rfl) (by kernel_rfl) (by kernel_rfl) (fun _ _ _ h => h) (Or.inl ⟨by rfl, ?_⟩) (by assumption) ?_
        rotate_left
        · (intro w' hSw; (try dsimp only at hSw); go_simp; try with_reducible rfl)
        (try simp only [List.getElem_toArray, List.getElem_cons_zero, List.getElem_cons_succ, Act.put, List.setIfInBounds_toArray, List.set_cons_zero, List.set_cons_succ])
        refine wpAnyH_take (i := 13) (v := ?_) rfl (by kernel_rfl) (by kernel_rfl) (by kernel_rfl) (fun _ _ _ h => h) (Or.inl ⟨by rfl, ?_⟩) (by assumption) ?_
        rotate_left
        · (intro w' hSw; (try dsimp only at hSw); go_simp; try with_reducible rfl)
        (try simp only [List.getElem_toArray, List.getElem_cons_zero, List.getElem_cons_succ, Act.put, List.setIfInBounds_toArray, List.set_cons_zero, List.set_cons_succ])
        refine wpAnyH_take (i := 14) (v := ?_) rfl (by kernel_rfl) (by kernel_rfl) (by kernel_rfl) (fun _ _ _ h => h) (Or.inl ⟨by rfl, ?_⟩) (by assumption) ?_
        rotate_left
        · (intro w' hSw; (try dsimp only at hSw); go_simp; try with_reducible rfl)
        (try simp only [List.getElem_toArray, List.getElem_cons_zero, List.getElem_cons_succ, Act.put, List.setIfInBounds_toArray, List.set_cons_zero, List.set_cons_succ])
        refine wpAnyH_take (i := 17) (v := ?_) rfl (by kernel_rfl) (by kernel_rfl) (by kernel_rfl) (fun _ _ _ h => h) (Or.inl ⟨by rfl, ?_⟩) (by assumption) ?_
        rotate_left
        · (intro w' hSw; (try dsimp only at hSw); go_simp; try with_reducible rfl)
        (try simp only [List.getElem_toArray, List.getElem_cons_zero, List.getElem_cons_succ, Act.put, List.setIfInBounds_toArray, List.set_cons_zero, List.set_cons_succ])
        refine wpAnyH_take (i := 19) (v := ?_) rfl (by kernel_rfl) (by kernel_rfl) (by kernel_rfl) (fun _ _ _ h => h) (Or.inl ⟨by rfl, ?_⟩) (by assumption) ?_
        rotate_left
        · (intro w' hSw; (try dsimp only at hSw); go_simp; try with_reducible rfl)
        (try simp only [List.getElem_toArray, List.getElem_cons_zero, List.getElem_cons_succ, Act.put, List.setIfInBounds_toArray, List.set_cons_zero, List.set_cons_succ])
        refine wpAnyH_take (i := 20) (v := ?_) rfl (by kernel_rfl) (by kernel_rfl) (by kernel_rfl) (fun _ _ _ h => h) (Or.inl ⟨by rfl, ?_⟩) (by assumption) ?_
        rotate_left
        · (intro w' hSw; (try dsimp only at hSw); go_simp; try with_reducible rfl)
        (try simp only [List.getElem_toArray, List.getElem_cons_zero, List.getElem_cons_succ, Act.put, List.setIfInBounds_toArray, List.set_cons_zero, List.set_cons_succ])
        refine wpAnyH_ready (rs := [15]) (by kernel_rfl) (by simp) ?_
        refine AllReadyH.cons rfl (fun K hK => ?_) AllReadyH.nil
        go_simp
        (go_at_call 12; refine (c3.out _ (hx.out.mk' (by first | assumption | exact And.left (by assumption) | exact Below.refl _ _ | exact Below.drew (Below.refl _ _) | exact Below.drew (by assumption) | exact Below.drew (And.left (by assumption))))).mono ?_; rintro e w4 ⟨A1, c1', rfl, _, _, hb4⟩)
        go_wp2_with fail
        refine hK.out _ _ (by (first | exact hx.out.keep (Below.refl _ _) | exact hx.out.keep (Below.drew (Below.refl _ _)) | exact hx.out.keep (Below.drew (by assumption)) | exact hx.out.keep (Below.drew (And.left (by assumption))) | exact hx.out.keep (Below.trans (by first | assumption | exact And.left (by assumption) | exact Below.refl _ _ | exact Below.drew (Below.refl _ _) | exact Below.drew (by assumption) | exact Below.drew (And.left (by assumption))) (Below.mono (by assumption) (Below.size (by first | assumption | exact And.left (by assumption) | exact Below.refl _ _ | exact Below.drew (Below.refl _ _) | exact Below.drew (by assumption) | exact Below.drew (And.left (by assumption)))))))) (fun hHeld => ?_)
        clear hK K
        (try simp only [List.getElem_toArray, List.getElem_cons_zero, List.getElem_cons_succ, Act.put, List.setIfInBounds_toArray, List.set_cons_zero, List.set_cons_succ])
        refine wpAnyH_take (i := 16) (v := ?_) rfl (by kernel_rfl) (by kernel_rfl) (by kernel_rfl) (fun _ _ _ h => h) (Or.inl ⟨by rfl, ?_⟩) (by assumption) ?_
        rotate_left
        · (intro w' hSw; (try dsimp only at hSw); go_simp; try with_reducible rfl)
        (try simp only [List.getElem_toArray, List.getElem_cons_zero, List.getElem_cons_succ, Act.put, List.setIfInBounds_toArray, List.set_cons_zero, List.set_cons_succ])
        refine wpAnyH_ready (rs := [18]) (by kernel_rfl) (by simp) ?_
        refine AllReadyH.cons rfl (fun K hK => ?_) AllReadyH.nil
        go_simp
        (go_at_call 16; refine (c2.out _ (hx.out.mk' (by first | assumption | exact And.left (by assumption) | exact Below.refl _ _ | exact Below.drew (Below.refl _ _) | exact Below.drew (by assumption) | exact Below.drew (And.left (by assumption))))).mono ?_; rintro e w5 ⟨rfl, hb5⟩)
        go_wp2_with fail
        refine hK.out _ _ (by (first | exact hx.out.keep (Below.refl _ _) | exact hx.out.keep (Below.drew (Below.refl _ _)) | exact hx.out.keep (Below.drew (by assumption)) | exact hx.out.keep (Below.drew (And.left (by assumption))) | exact hx.out.keep (Below.trans (by first | assumption | exact And.left (by assumption) | exact Below.refl _ _ | exact Below.drew (Below.refl _ _) | exact Below.drew (by assumption) | exact Below.drew (And.left (by assumption))) (Below.mono (by assumption) (Below.size (by first | assumption | exact And.left (by assumption) | exact Below.refl _ _ | exact Below.drew (Below.refl _ _) | exact Below.drew (by assumption) | exact Below.drew (And.left (by assumption)))))))) (fun hHeld => ?_)
        clear hK K
        (try simp only [List.getElem_toArray, List.getElem_cons_zero, List.getElem_cons_succ, Act.put, List.setIfInBounds_toArray, List.set_cons_zero, List.set_cons_succ])
        refine wpAnyH_take (i := 21) (v := ?_) rfl (by kernel_rfl) (by kernel_rfl) (by kernel_rfl) (fun _ _ _ h => h) (Or.inl ⟨by rfl, ?_⟩) (by assumption) ?_
        rotate_left
        · (intro w' hSw; (try dsimp only at hSw); go_simp; try with_reducible rfl)
        (try simp only [List.getElem_toArray, List.getElem_cons_zero, List.getElem_cons_succ, Act.put, List.setIfInBounds_toArray, List.set_cons_zero, List.set_cons_succ])
        refine wpAnyH_take (i := 22) (v := ?_) rfl (by kernel_rfl) (by kernel_rfl) (by kernel_rfl) (fun _ _ _ h => h) (Or.inl ⟨by rfl, ?_⟩) (by assumption) ?_
        rotate_left
        · (intro w' hSw; (try dsimp only at hSw); go_simp; try with_reducible rfl)
        (try simp only [List.getElem_toArray, List.getElem_cons_zero, List.getElem_cons_succ, Act.put, List.setIfInBounds_toArray, List.set_cons_zero, List.set_cons_succ])
        refine wpAnyH_take (i := 23) (v := ?_) rfl (by kernel_rfl) (by kernel_rfl) (by kernel_rfl) (fun _ _ _ h => h) (Or.inl ⟨by rfl, ?_⟩) (by assumption) ?_
        rotate_left
        · (intro w' hSw; (try dsimp only at hSw); go_simp; try with_reducible rfl)
        (try simp only [List.getElem_toArray, List.getElem_cons_zero, List.getElem_cons_succ, Act.put, List.setIfInBounds_toArray, List.set_cons_zero, List.set_cons_succ])
        refine wpAnyH_take (i := 24) (v := ?_) rfl (by kernel_rfl) (by kernel_rfl) (by kernel_rfl) (fun _ _ _ h => h) (Or.inl ⟨by rfl, ?_⟩) (by assumption) ?_
        rotate_left
        · (intro w' hSw; (try dsimp only at hSw); go_simp; try with_reducible rfl)
        (try simp only [List.getElem_toArray, List.getElem_cons_zero, List.getElem_cons_succ, Act.put, List.setIfInBounds_toArray, List.set_cons_zero, List.set_cons_succ])
        refine wpAnyH_done (by kernel_rfl) ?_ _
        have hy := Lib.hid (hx.out.mk' (by first | assumption | exact And.left (by assumption)))
        clear wl wl2 wl3
        go_wp2_with fail
        refine (awake_any _).mono ?_
        rintro e w7 ⟨rfl, hb7⟩
        have h7 := Lib.hid (hy.out.mk' hb7)
        clear hb7
        go_wp2_with fail
        go_ret
        exact ⟨rfl, h7.out.out⟩
    · have hne : (r.chk n != 0) = true := by simpa using hc
      clear hA hm hg0 hf2 n1 l1 hc
      generalize r.chk n = e0 at *
      go_enter Try.func6, Try.ntmps6
      go_wp2_with fail
      refine hf.out.mono ?_
      rintro e w1 ⟨rfl, rfl⟩
      obtain ⟨W1, hW1⟩ : ∃ W1, W1 = (w.alloc (.cells #[.string r.name, .slice A r.prof.length c, .int .i64 r.early, .int .i64 r.late] 24)).alloc (.cells #[.string r.name, .slice A r.prof.length c, .int .i64 r.early, .int .i64 r.late] 24) := ⟨_, rfl⟩
      rw [← hW1] at h0 ⊢
      clear hW1
      obtain ⟨x0, x1, x2, x3, hz1⟩ := h0.out.cellsW
      go_wp2_with fail
      clear x0 x1 x2 x3
      refine (c0.out _ h0.out).mono ?_
      rintro e w2 ⟨rfl, hb2⟩
      have h2 := Lib.hid (h0.out.mk' hb2)
      obtain ⟨x0, x1, x2, x3, hz2⟩ := h2.out.cellsW
      clear hb2
      go_wp2_with fail
      refine (hfw.out _ h2.out).mono ?_
      rintro e w3 ⟨rfl, rfl⟩
      have h3 := Lib.hid (h2.out.mk' ((Below.refl _ _).alloc (Nat.le_refl _) (.cells #[.string r.name, .slice A r.prof.length c, .int .i64 r.early, .int .i64 r.late] 24)))
      go_wp2_with fail
      refine (c0r.out _ h3.out).mono ?_
      rintro e w4 ⟨rfl, hb4⟩
      have h4 := Lib.hid (h3.out.mk' hb4)
      clear hb4 x0 x1 x2 x3
      go_wp2_with fail
      refine (awake_any _).mono ?_
      rintro e w5 ⟨rfl, hb5⟩
      have h5 := Lib.hid (h4.out.mk' hb5)
      clear hb5
      go_wp2_with fail
      go_ret
      exact ⟨rfl, h5.out.out⟩
end Go.Proofs.Ytnibhdpgjmdkeaa
