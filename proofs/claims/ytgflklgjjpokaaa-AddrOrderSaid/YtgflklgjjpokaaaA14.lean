/-
  The walks of Clone of claims, Settle (layer 8).
-/
import Derived.Test.YtgflklgjjpokaaaA13
import Derived.Test.YtgflklgjjpokaaaAP8
import Derived.Laws.StructEq
namespace Go.Proofs.Ytgflklgjjpokaaa
open Go.RowKit

/-- What a call that returns claims leaves. -/
def ClsOut (l : List Cl) (w : World) (e : Ending) (w' : World) : Prop := ∃ A c, e = .returned (.slice A l.length c) ∧ RCls w' A l ∧ Below w.heap.size w w'
theorem RCls.none {w : World} {l : List Cl} (h : RCls w none l) : l = [] := by
  rcases Nat.eq_zero_or_pos l.length with h0 | h0
  · exact List.eq_nil_of_length_eq_zero h0
  · obtain ⟨_, e, _⟩ := h.2 h0
    cases e

set_option maxHeartbeats 1000000 in
theorem clclone_any (A : Option Addr) (c : Nat) (l : List Cl) (w : World) (hx : RCls w A l) (h1 : l.length ≤ 1000000000) :
    Calls Try.prog 33 #[.slice A l.length c] w (ClsOut l w) := by
  have hnil := fun (W : World) (a : Option Addr) (m k : Nat) => Lib.run_eql_slice_nil (P := Try.prog) W 29 40 a m k 0 0 Try.underlying29
  cases A with
  | none =>
    obtain rfl := hx.none
    clear h1
    go_enter Try.func33, Try.ntmps33
    go_wp2_with fail
    go_ret
    exact ⟨none, 0, rfl, RCls.nil, Below.refl _ _⟩
  | some ad =>
    have HX := Lib.hid hx
    have h2 := clCells_one l
    obtain ⟨n, hn⟩ : ∃ n, n = l.length := ⟨_, rfl⟩
    have HN := Lib.hid hn
    rw [← hn] at h1 ⊢
    clear hn hx
    obtain ⟨i0, hi, hz0, hz1, hz2⟩ := info_parts Try.infoClaim
    have HO := Lib.hid (World.ownsRow_lit (base := w.heap.size) (e := 40) (size := 3) w #[] 0 (Nat.le_refl _) (by unfold maxLen; omega) rfl)
    have HR : Hid (Reads (w.alloc (.cells #[] 40)) (w.heap.size + 1) 3 (some ad) n (clCells l)) := by
      have h := HX.out.alloc (.cells #[] 40)
      unfold RCls at h
      rw [← HN.out, World.size_alloc] at h
      exact h
    go_enter Try.func33, Try.ntmps33
    go_wp2_with (at_builtin; refine wpList_append_any _ rfl _ _ 29 rfl w.heap.size 40 i0 (.agg #[.int .u64 0, .int .i64 0, .int .i64 0]) 3 24 Try.underlying29 hi hz0 hz1 hz2 rfl (by decide) _ _ _ rfl HO.out _ _ _ _ (clCells l) rfl HR.out h2 (by unfold maxLen; omega) (by omega) (by simp) ?_)
    intro v' w5 hown5 hg5 hv5
    have hB5 : Below w.heap.size w w5 := ((Below.refl w.heap.size w).alloc (Nat.le_refl _) (.cells #[] 40)).grown hg5 (by simp) (fun k hk => (HO.out.lt k hk).1)
    have hfin : Hid (ClsOut l w (.returned v') w5) := by
      obtain ⟨A', c', he, hr, _⟩ := rcls_own (l := l) (n := 0 + n) (by simpa using hown5)
      exact ⟨A', c', by rw [he], hr, hB5⟩
    clear hown5 hg5 hv5 hB5
    go_wp2_with fail
    go_ret
    exact hfin.out

set_option maxRecDepth 100000 in
set_option maxHeartbeats 8000000 in
theorem lsettle_any (A : Option Addr) (c : Nat) (l : List Cl) (w : World) (hA0 : RCls w A l) (hw : ∀ x ∈ l, x.Wf) (hl0 : l.length ≤ 1000000000) :
    Calls Try.prog 23 #[.slice A l.length c] w (ClsOut (settleL l 700) w) := by
  have hA := Lib.hid hA0
  have hk := clcheck_any A c l w hA0 hw
  have hcl := Lib.hid (fun W (h : RCls W A l) => clclone_any A c l W h hl0)
  by_cases h0 : clChk l = 0
  · have hg := clGood h0
    have e1 : settleL l 700 = iterL l 700 := by unfold settleL; rw [if_pos h0]
    have hr := Lib.hid (fun k (hk : k ≤ 700) A' c' W (h : RCls W A' (iterL l k)) => lround_any A' c' (iterL l k) W h (itGood hw hg k (by omega)).wf (fun x hx => by have := (itGood hw hg k (by omega)).tr x hx; omega) (by rw [iterL_length]; have := hg.len; omega))
    have hil := Lib.hid (iterL_length l)
    obtain ⟨F, hF⟩ : ∃ F, F = iterL l 700 := ⟨_, rfl⟩
    have hfx : Hid (∀ k, k ≤ 700 → roundN (iterL l k) l.length = 0 → roundL (iterL l k) = F) := by
      intro k hk hz
      rw [hF, iterL_done hz hk]
      exact roundL_done (by rw [iterL_length]; exact hz)
    have h7 : Hid (∀ k, k = 700 → iterL l k = F) := fun k hk => by rw [hF, hk]
    have hFl : Hid (F.length = l.length) := by show _ = _; rw [hF, iterL_length]
    rw [e1, ← hF]
    clear hF
    rw [h0] at hk
    have HKc := Lib.hid hk
    clear hA0 hw h0 hg e1 hk hl0
    obtain ⟨m, hm⟩ : ∃ m, m = l.length := ⟨_, rfl⟩
    rw [← hm] at hcl HKc hfx hil hFl ⊢
    have HM := Lib.hid hm
    clear hm
    go_enter Try.func23, Try.ntmps23
    go_wp2_with fail
    refine HKc.out.mono ?_
    rintro e w1 ⟨rfl, hb1⟩
    have HB := Lib.hid hb1
    have hcl1 := Lib.hid (hcl.out w1 (hA.out.below hb1))
    clear hb1
    go_wp2_with fail
    refine hcl1.out.mono ?_
    rintro e w2 ⟨A2, c2, rfl, hq, hb2⟩
    rw [← HM.out]
    have HQ := Lib.hid hq
    have HB2 := Lib.hid (HB.out.trans (hb2.mono HB.out.size))
    clear hq hb2
    go_wp2_with fail
    go_loopw [3, 13] (fun v i' wr => ∃ (k : Nat) (A' : Option Addr) (c' : Nat), k ≤ 700 ∧ i' = .int .i64 k ∧ v = .slice A' m c' ∧ RCls wr A' (iterL l k) ∧ Below w.heap.size w wr)
      (fun _ i' _ => (700 - intOf i').toNat)
    case atStart => exact ⟨0, A2, c2, by omega, rfl, rfl, HQ.out, HB2.out⟩
    case round =>
      obtain ⟨k, A', c', hk7, rfl, rfl, hq0, hBw⟩ := hrel
      have hq := Lib.hid hq0
      have HBw := Lib.hid hBw
      clear hq0 hBw
      by_cases hlt : k < 700
      · have hrk := hr.out k (by omega) A' c' wr hq.out
        rw [hil.out] at hrk
        have hrk1 := Lib.hid hrk
        have hnx : Hid (iterL l (k + 1) = roundL (iterL l k)) := rfl
        have hll : Hid ((roundL (iterL l k)).length = m) := by show _ = _; rw [roundL_length, hil.out]
        clear hrk
        by_cases hz : roundN (iterL l k) m = 0
        · have hfix : Hid (roundL (iterL l k) = F) := hfx.out k (by omega) hz
          rw [hz, hfix.out] at hrk1
          clear hz hnx hll hfix
          go_wp2_with fail
          refine hrk1.out.mono ?_
          rintro e w3 ⟨A3, c3, rfl, hq3, _, hb3⟩
          have hfin : Hid (ClsOut F w (.returned (.slice A3 F.length c3)) w3) := ⟨A3, c3, rfl, hq3, HBw.out.trans (hb3.mono HBw.out.size)⟩
          clear hq3 hb3
          go_wp2_with fail
          go_ret
          exact hfin.out
        · have hne : (roundN (iterL l k) m == 0) = false := by simpa using hz
          clear hz
          generalize roundN (iterL l k) m = rn at *
          go_wp2_with fail
          refine hrk1.out.mono ?_
          rintro e w3 ⟨A3, c3, rfl, hq3, _, hb3⟩
          rw [hll.out]
          have HQ3 : Hid (RCls w3 A3 (iterL l (k + 1))) := hq3
          have HB3 := Lib.hid (HBw.out.trans (hb3.mono HBw.out.size))
          clear hq3 hb3
          go_wp2_with fail
          go_roundw
          case rel => exact ⟨k + 1, A3, c3, by omega, by go_num, rfl, HQ3.out, HB3.out⟩
          case measure => simp [intOf]; omega
      · have hq7 : Hid (RCls wr A' F) := by
          have h := hq.out
          rw [h7.out k (by omega)] at h
          exact h
        have hfin : Hid (ClsOut F w (.returned (.slice A' m c')) wr) := ⟨A', c', by rw [hFl.out], hq7.out, HBw.out⟩
        go_wp2_with fail
        go_ret
        exact hfin.out
  · have e1 : settleL l 700 = l := by unfold settleL; rw [if_neg h0]
    have hne : (clChk l != 0) = true := by simpa using h0
    rw [e1]
    clear hA0 hw e1 h0 hl0
    generalize clChk l = ck at *
    have HKc := Lib.hid hk
    clear hk
    generalize l.length = m at *
    go_enter Try.func23, Try.ntmps23
    go_wp2_with fail
    refine HKc.out.mono ?_
    rintro e w1 ⟨rfl, hb1⟩
    have HB := Lib.hid hb1
    have hcl1 := Lib.hid (hcl.out w1 (hA.out.below hb1))
    clear hb1
    go_wp2_with fail
    refine hcl1.out.mono ?_
    rintro e w2 ⟨A2, c2, rfl, hq, hb2⟩
    have hfin : Hid (ClsOut l w (.returned (.slice A2 l.length c2)) w2) := ⟨A2, c2, rfl, hq, HB.out.trans (hb2.mono HB.out.size)⟩
    clear hq hb2
    go_wp2_with fail
    go_ret
    exact hfin.out
end Go.Proofs.Ytgflklgjjpokaaa
