/-
  The walk of the law LoadMoved (layer 41).
-/
import Derived.Test.YtnibhdpgjmdkeaaL25
import Derived.Deep.DeepCutAuto
import Derived.Deep.RegionHeld3
import Derived.Deep.DrawnRows
namespace Go.Proofs.Ytnibhdpgjmdkeaa
open Go.RowKit
attribute [local go_sem ↓] Go.wp_at_zero Go.wp_at_succ

theorem lfit_m {m : Ld} {A : Option Addr} {c : Nat} (s n : Int) {W : World} (h : RInts W A m.prof) (hn : m.name.size ≤ maxLen) (hl : m.prof.length < 1000000000) :
    Calls Try.prog 14 #[.agg #[.string m.name, .slice A m.prof.length c, .int .i64 m.early, .int .i64 m.late], .int .i64 s, .int .i64 n] W (fun e w' => e = .returned (.bool (m.fit s n)) ∧ Below W.heap.size W w') := lfit_any m A c s n W h hn hl
theorem luse_m {m : Ld} {A : Option Addr} {c : Nat} (s i : Int) {W : World} (h : RInts W A m.prof) (hl : m.prof.length < 1000000000) (s0 : -9223372036854775808 ≤ s) (s1 : s ≤ 9223372036854775807) (i0 : -9223372036854775808 ≤ i) (i1 : i ≤ 9223372036854775807) :
    Calls Try.prog 18 #[.agg #[.string m.name, .slice A m.prof.length c, .int .i64 m.early, .int .i64 m.late], .int .i64 s, .int .i64 i] W (fun e w' => e = .returned (.int .i64 (m.use s i)) ∧ Below W.heap.size W w') := luse_any m A c s i W h hl s0 s1 i0 i1

set_option maxRecDepth 100000 in
set_option maxHeartbeats 16000000 in
theorem moved_law (r : Ld) (A : Option Addr) (c : Nat) (n k start i : Int) (w : World) (hA : RInts w A r.prof) (hm : r.prof.length ≤ maxLen) :
    Calls Try.prog 7 #[r.v A c, .int .i64 n, .agg #[.int .i64 k, .int .i64 start, .int .i64 i]] w fun e w' => e = .returned (.bool true) ∧ Below w.heap.size w w' := by
  have hfw := Lib.hid (fun W (p : RInts W A r.prof) => few1_at (r := r) (c := c) p hm)
  have HA := Lib.hid hA
  simp only [Ld.v]
  go_enter Try.func7, Try.ntmps7
  go_upto_region 1 with fail
  go_cut [7, 8, 9] (fun s7 s8 s9 wx => s7 = .int .i64 k ∧ s8 = .int .i64 start ∧ s9 = .int .i64 i ∧ ∃ W0, W0 = wx ∧ LdS r A c w W0)
  case first =>
    go_quiet (fail)
    go_wp2_with fail
    go_meet
    refine ⟨rfl, rfl, rfl, _, rfl, ?_⟩
    have h : Below (w.heap.size + 1) (ldW r A c w) (ldW r A c w) := Below.refl _ _
    exact below_drewN (h.alloc (by simp [ldW]) _) _
  case rest =>
    obtain ⟨rfl, rfl, rfl, W0, rfl, hs0⟩ := hcut
    have hs := Lib.hid hs0
    obtain ⟨x0, x1, x2, x3⟩ := hs.out.cells
    have hfw0 := Lib.hid (hfw.out _ (HA.out.below hs.out.out))
    clear hs0 hm hA
    cases hg0 : r.few1
    all_goals rw [hg0] at hfw0
    · go_wp2_with fail
      refine hfw0.out.mono ?_
      rintro e w1 ⟨rfl, rfl⟩
      go_wp2_with fail
      refine (awake_any _).mono ?_
      rintro e w2 ⟨rfl, hb2⟩
      have hO := Lib.hid ((hs.out.mk' ((Below.refl _ _).alloc (Nat.le_refl _) _)).mk' hb2)
      clear hb2
      go_wp2_with fail
      go_ret
      exact ⟨rfl, hO.out.out⟩
    · obtain ⟨n1, l1⟩ := Ld.few1_true hg0
      have c0 := Lib.hid (fun W (h : LdX r A c w W) => h.cRCheck n)
      clear hg0
      go_wp2_with fail
      refine hfw0.out.mono ?_
      rintro e w1 ⟨rfl, rfl⟩
      have h0 : Hid (LdX r A c w _) := ⟨hs.out.mk' ((Below.refl _ _).alloc (Nat.le_refl _) (.cells #[.string r.name, .slice A r.prof.length c, .int .i64 r.early, .int .i64 r.late] 24)), HA.out, n1, l1⟩
      clear x0 x1 x2 x3
      obtain ⟨W1, hW1⟩ : ∃ W1, W1 = W0.alloc (.cells #[.string r.name, .slice A r.prof.length c, .int .i64 r.early, .int .i64 r.late] 24) := ⟨_, rfl⟩
      rw [← hW1] at h0 ⊢
      clear hW1
      obtain ⟨x0, x1, x2, x3, hz1⟩ := h0.out.cellsW
      by_cases hc : r.chk n = 0
      · have g := Ld.good hc
        have g1 := g.n1; have g2 := g.n0
        rw [hc] at c0
        have hbad := Lib.hid (fun (k0 : 0 ≤ k) (k1 : k < n) (s0 : k ≤ start) (h : r.canShift k = false) => Ld.moved_no hc k0 k1 s0 h)
        have hfit := Lib.hid (fun (k0 : 0 ≤ k) (k1 : k < n) (s0 : k ≤ start) (h : r.canShift k = true) => Ld.moved_fit hc k0 k1 s0 h)
        have huse := Lib.hid (Ld.moved_use (r := r) (k := k) (s := start) (i := i))
        clear hc g
        have hcs : k < 0 ∨ (¬ k < 0 ∧ n ≤ k) ∨ (¬ k < 0 ∧ ¬ n ≤ k ∧ start < k) ∨ (¬ k < 0 ∧ ¬ n ≤ k ∧ ¬ start < k ∧ 96 < start) ∨ (¬ k < 0 ∧ ¬ n ≤ k ∧ ¬ start < k ∧ ¬ 96 < start ∧ i < 0) ∨ (¬ k < 0 ∧ ¬ n ≤ k ∧ ¬ start < k ∧ ¬ 96 < start ∧ ¬ i < 0 ∧ 96 < i) ∨
            (¬ k < 0 ∧ ¬ n ≤ k ∧ ¬ start < k ∧ ¬ 96 < start ∧ ¬ i < 0 ∧ ¬ 96 < i) := by omega
        rcases hcs with q1 | ⟨q1, q2⟩ | ⟨q1, q2, q3⟩ | ⟨q1, q2, q3, q4⟩ | ⟨q1, q2, q3, q4, q5⟩ | ⟨q1, q2, q3, q4, q5, q6⟩ | ⟨q1, q2, q3, q4, q5, q6⟩
        rotate_left 6
        · have hb := hbad.out (by omega) (by omega) (by omega)
          have hft := hfit.out (by omega) (by omega) (by omega)
          clear hbad hfit
          go_wp2_with fail
          clear x0 x1 x2 x3
          refine (c0.out _ h0.out).mono ?_
          rintro e v0 ⟨rfl, hb0⟩
          have h1 := Lib.hid (h0.out.mk' hb0)
          obtain ⟨x0, x1, x2, x3, hz2⟩ := h1.out.cellsW
          have c1 := Lib.hid (h1.out.cShift k)
          clear hb0
          cases hcs : r.canShift k
          · have hno := hb hcs
            rw [hcs] at c1
            have c2 := Lib.hid (fun W (h : LdX r A c w W) => h.cFit start n)
            rw [hno] at c2
            rw [Ld.shift_no hcs] at c1
            clear hb hft hno hcs
            go_wp2_with fail
            clear x0 x1 x2 x3
            refine c1.out.mono ?_
            rintro e v ⟨A1, c1', rfl, _, _, hb1⟩
            simp only [Ld.zero]
            have h2 := Lib.hid (h1.out.mk' hb1)
            obtain ⟨x0, x1, x2, x3, hz3⟩ := h2.out.cellsW
            clear hb1
            go_wp2_with fail
            clear x0 x1 x2 x3
            have h3 := Lib.hid (h2.out.mk' ((Below.refl _ _).alloc (Nat.le_refl _) (.cells #[.string ByteArray.empty, .slice A1 0 c1', .int .i64 0, .int .i64 0] 24)))
            refine (c2.out _ h3.out).mono ?_
            rintro e v2 ⟨rfl, hb2⟩
            have h4 := Lib.hid (h3.out.mk' hb2)
            clear hb2
            go_wp2_with fail
            refine (awake_any _).mono ?_
            rintro e v3 ⟨rfl, hb3⟩
            have h5 := Lib.hid (h4.out.mk' hb3)
            clear hb3
            go_wp2_with fail
            go_ret
            exact ⟨rfl, h5.out.out⟩
          · have hyes := hft hcs
            have hml : (r.moved k).prof.length < 1000000000 := by show r.prof.length < _; omega
            have hmn : (r.moved k).name.size ≤ maxLen := h1.out.name
            rw [hcs] at c1
            rw [Ld.shift_yes hcs] at c1
            have c2 := Lib.hid (fun W (h : LdX r A c w W) => h.cFit start n)
            have c3 := Lib.hid (fun (A1 : Option Addr) (c1' : Nat) W (h : RInts W A1 (r.moved k).prof) => lfit_m (c := c1') (start - k) (n - k) h hmn hml)
            have c4 := Lib.hid (fun W (h : LdX r A c w W) => h.cUse start i (by omega) (by omega) (by omega) (by omega))
            have c5 := Lib.hid (fun (A1 : Option Addr) (c1' : Nat) W (h : RInts W A1 (r.moved k).prof) => luse_m (c := c1') (start - k) (i - k) h hml (by omega) (by omega) (by omega) (by omega))
            rw [hyes] at c3
            rw [huse.out] at c5
            clear hb hft hcs hyes huse hmn hml
            generalize r.moved k = m at *
            generalize r.fit start n = ft at *
            generalize r.use start i = us at *
            have ws1 : IntKind.i64.wrap (start - k) = start - k := IntWalk.i64_in _ (by omega)
            have ws2 : IntKind.i64.wrap (n - k) = n - k := IntWalk.i64_in _ (by omega)
            have ws3 : IntKind.i64.wrap (i - k) = i - k := IntWalk.i64_in _ (by omega)
            have WS := Lib.hid (And.intro ws1 (And.intro ws2 ws3))
            clear ws1 ws2 ws3
            go_wp2_with fail
            clear x0 x1 x2 x3
            refine c1.out.mono ?_
            rintro e v ⟨A1, c1', rfl, hr1, _, hb1⟩
            have h2 := Lib.hid (h1.out.mk' hb1)
            obtain ⟨x0, x1, x2, x3, hz3⟩ := h2.out.cellsW
            have R1 := Lib.hid (hr1.alloc (.cells #[.string m.name, .slice A1 m.prof.length c1', .int .i64 m.early, .int .i64 m.late] 24))
            have M1 := Lib.hid (Blk.new v 24 #[.string m.name, .slice A1 m.prof.length c1', .int .i64 m.early, .int .i64 m.late])
            clear hb1 hr1
            obtain ⟨ws1, ws2, ws3⟩ := WS.out
            go_wp2_with fail
            clear x0 x1 x2 x3
            have h3 := Lib.hid (h2.out.mk' ((Below.refl _ _).alloc (Nat.le_refl _) (.cells #[.string m.name, .slice A1 m.prof.length c1', .int .i64 m.early, .int .i64 m.late] 24)))
            obtain ⟨W3, hW3⟩ : ∃ W3, W3 = v.alloc (.cells #[.string m.name, .slice A1 m.prof.length c1', .int .i64 m.early, .int .i64 m.late] 24) := ⟨_, rfl⟩
            rw [← hW3] at h3 M1 R1 ⊢
            clear hW3
            have HK : Hid (∀ W, Below W3.heap.size W3 W → Below W3.heap.size W3 W ∧ W.cell? ⟨w.heap.size, 0, none⟩ = some (.string r.name) ∧ W.cell? ⟨w.heap.size, 1, none⟩ = some (.slice A r.prof.length c) ∧ W.cell? ⟨w.heap.size, 2, none⟩ = some (.int .i64 r.early) ∧ W.cell? ⟨w.heap.size, 3, none⟩ = some (.int .i64 r.late) ∧ W.cell? ⟨v.heap.size, 0, none⟩ = some (.string m.name) ∧ W.cell? ⟨v.heap.size, 1, none⟩ = some (.slice A1 m.prof.length c1') ∧ W.cell? ⟨v.heap.size, 2, none⟩ = some (.int .i64 m.early) ∧ W.cell? ⟨v.heap.size, 3, none⟩ = some (.int .i64 m.late)) := by
              intro W hb
              have hk := M1.out.below hb M1.out.lt
              obtain ⟨a0, a1, a2, a3⟩ := (h3.out.mk' hb).cells
              exact ⟨hb, a0, a1, a2, a3, hk.cell 0, hk.cell 1, hk.cell 2, hk.cell 3⟩
            go_region_held3 (fun w' => Below W3.heap.size W3 w' ∧ w'.cell? ⟨w.heap.size, 0, none⟩ = some (.string r.name) ∧ w'.cell? ⟨w.heap.size, 1, none⟩ = some (.slice A r.prof.length c) ∧ w'.cell? ⟨w.heap.size, 2, none⟩ = some (.int .i64 r.early) ∧ w'.cell? ⟨w.heap.size, 3, none⟩ = some (.int .i64 r.late) ∧ w'.cell? ⟨v.heap.size, 0, none⟩ = some (.string m.name) ∧ w'.cell? ⟨v.heap.size, 1, none⟩ = some (.slice A1 m.prof.length c1') ∧ w'.cell? ⟨v.heap.size, 2, none⟩ = some (.int .i64 m.early) ∧ w'.cell? ⟨v.heap.size, 3, none⟩ = some (.int .i64 m.late))
              (first | exact HK.out _ (Below.refl _ _) | exact HK.out _ (Below.drew (Below.refl _ _)) | exact HK.out _ (Below.drew (by assumption)) | exact HK.out _ (Below.drew (And.left (by assumption))) | exact HK.out _ (Below.trans (by first | assumption | exact And.left (by assumption) | exact Below.refl _ _ | exact Below.drew (Below.refl _ _) | exact Below.drew (by assumption) | exact Below.drew (And.left (by assumption))) (Below.mono (by assumption) (Below.size (by first | assumption | exact And.left (by assumption) | exact Below.refl _ _ | exact Below.drew (Below.refl _ _) | exact Below.drew (by assumption) | exact Below.drew (And.left (by assumption)))))))
              (first
                | (go_at_call_of 14 (Value.int .i64 start); refine (c2.out _ (h3.out.mk' (by first | assumption | exact And.left (by assumption) | exact Below.refl _ _ | exact Below.drew (Below.refl _ _) | exact Below.drew (by assumption) | exact Below.drew (And.left (by assumption))))).mono ?_; rintro e u1 ⟨rfl, hb4⟩)
                | (go_at_call_of 14 (Value.int .i64 (start - k)); refine (c3.out A1 c1' _ (R1.out.below (by first | assumption | exact And.left (by assumption) | exact Below.refl _ _ | exact Below.drew (Below.refl _ _) | exact Below.drew (by assumption) | exact Below.drew (And.left (by assumption))))).mono ?_; rintro e u2 ⟨rfl, hb5⟩)
                | (go_at_call_of 18 (Value.int .i64 start); refine (c4.out _ (h3.out.mk' (by first | assumption | exact And.left (by assumption) | exact Below.refl _ _ | exact Below.drew (Below.refl _ _) | exact Below.drew (by assumption) | exact Below.drew (And.left (by assumption))))).mono ?_; rintro e u3 ⟨rfl, hb6⟩)
                | (go_at_call_of 18 (Value.int .i64 (start - k)); refine (c5.out A1 c1' _ (R1.out.below (by first | assumption | exact And.left (by assumption) | exact Below.refl _ _ | exact Below.drew (Below.refl _ _) | exact Below.drew (by assumption) | exact Below.drew (And.left (by assumption))))).mono ?_; rintro e u4 ⟨rfl, hb7⟩)
                | (go_at_call 10; refine (awake_any _).mono ?_; rintro e u5 ⟨rfl, hb8⟩))
            clear ws1 ws2 ws3
            go_wp2_with fail
            go_ret
            exact ⟨rfl, (h3.out.mk' (by first | assumption | exact And.left (by assumption))).out⟩
        all_goals
          clear hbad hfit huse
          go_wp2_with fail
          clear x0 x1 x2 x3
          refine (c0.out _ h0.out).mono ?_
          rintro e v0 ⟨rfl, hb0⟩
          have h1 := Lib.hid (h0.out.mk' hb0)
          clear hb0
          go_wp2_with fail
          refine (awake_any _).mono ?_
          rintro e v1 ⟨rfl, hb1⟩
          have h2 := Lib.hid (h1.out.mk' hb1)
          clear hb1
          go_wp2_with fail
          go_ret
          exact ⟨rfl, h2.out.out⟩
      · have hne : (r.chk n != 0) = true := by simpa using hc
        clear hc
        generalize r.chk n = e0 at *
        go_wp2_with fail
        clear x0 x1 x2 x3
        refine (c0.out _ h0.out).mono ?_
        rintro e v0 ⟨rfl, hb0⟩
        have h1 := Lib.hid (h0.out.mk' hb0)
        clear hb0
        go_wp2_with fail
        refine (awake_any _).mono ?_
        rintro e v1 ⟨rfl, hb1⟩
        have h2 := Lib.hid (h1.out.mk' hb1)
        clear hb1
        go_wp2_with fail
        go_ret
        exact ⟨rfl, h2.out.out⟩
end Go.Proofs.Ytnibhdpgjmdkeaa
