/-
  The walk of round of the reference (layer 8).
-/
import Derived.Test.YtgflklgjjpokaaaA10
import Derived.Test.YtgflklgjjpokaaaAP6
namespace Go.Proofs.Ytgflklgjjpokaaa
open Go.RowKit
attribute [local go_sem ↓] Go.wp_at_zero Go.wp_at_succ

theorem clCells_set {l : List Cl} {i : Nat} {a t : Int} (hi : i < l.length) : ((clCells l).set (i * 3 + 2) (.int .i64 t)).set (i * 3 + 1) (.int .i64 a) = clCells (l.set i ⟨l[i].eui, a, t⟩) := by
  induction l generalizing i with
  | nil => simp at hi
  | cons c l ih =>
    cases i with
    | zero => simp [clCells, Cl.cells]
    | succ i =>
      have h := ih (i := i) (by simpa using hi)
      simp only [clCells, List.flatMap_cons, List.set_cons_succ, List.getElem_cons_succ] at h ⊢
      rw [List.set_append_right _ _ (by rw [Cl.cells_length]; omega), List.set_append_right _ _ (by rw [Cl.cells_length]; omega), Cl.cells_length]
      rw [show (i + 1) * 3 + 2 - 3 = i * 3 + 2 by omega, show (i + 1) * 3 + 1 - 3 = i * 3 + 1 by omega, h]

set_option maxRecDepth 100000 in
set_option maxHeartbeats 16000000 in
theorem rlround_any (A : Option Addr) (c : Nat) (l : List Cl) (w : World) (hA0 : RCls w A l) (hw0 : ∀ x ∈ l, x.Wf) (ht0 : ∀ x ∈ l, 0 ≤ x.try_ ∧ x.try_ ≤ 1000000) (hl : l.length ≤ 1000) :
    Calls Try.prog 30 #[.slice A l.length c] w (ClOut (roundL l) (roundN l l.length) w) := by
  have hA := Lib.hid hA0
  have hw := Lib.hid hw0
  have ht := Lib.hid ht0
  obtain ⟨i0, hi, hz0, hz1, hz2⟩ := info_parts Try.infoClaim
  obtain ⟨m, hm⟩ : ∃ m, m = l.length := ⟨_, rfl⟩
  have HM := Lib.hid hm
  have hbdN := Lib.hid (roundN_bd l)
  have hone := clCells_one l
  rw [← hm] at hl
  have HO := Lib.hid (World.ownsRow_lit (base := w.heap.size) (e := 40) (size := 3) w #[] 0 (Nat.le_refl _) (by unfold maxLen; omega) rfl)
  have HR : Hid (Reads (w.alloc (.cells #[] 40)) (w.heap.size + 1) 3 A m (clCells l)) := by
    have h := hA.out.alloc (.cells #[] 40)
    unfold RCls at h
    rw [← HM.out, World.size_alloc] at h
    exact h
  have hB0 : Hid (Below w.heap.size w (w.alloc (.cells #[] 40))) := (Below.refl _ _).alloc (Nat.le_refl _) _
  have hmx0 : Hid (clCells l = clCells (mixed l 0)) := by show _ = _; rw [mixed_zero]
  clear hA0 hw0 ht0
  rw [show l.length = m from hm.symm]
  clear hm
  go_enter Try.func30, Try.ntmps30
  go_wp2_with (at_builtin; refine wpList_append_any _ rfl _ _ 29 rfl w.heap.size 40 i0 (.agg #[.int .u64 0, .int .i64 0, .int .i64 0]) 3 24 Try.underlying29 hi hz0 hz1 hz2 rfl (by decide) _ _ _ rfl HO.out _ _ _ _ (clCells l) rfl HR.out hone (by unfold maxLen; omega) (by omega) (by simp) ?_)
  intro v' w5 hown5 hg5 hv5
  have hB5 := Lib.hid (hB0.out.grown hg5 (by simp) (fun j hj => (HO.out.lt j hj).1))
  have hown6 : Hid (w5.ownsRow w.heap.size 40 3 v' m (clCells (mixed l 0))) := by
    show World.ownsRow _ _ _ _ _ _ _
    rw [← hmx0.out]
    simpa using hown5
  clear hown5 hg5 hv5
  go_wp2_with fail
  go_loopw [5, 6] (fun n' i' wr => ∃ k : Nat, k ≤ m ∧ i' = .int .i64 k ∧ n' = .int .i64 (roundN l k) ∧ wr.ownsRow w.heap.size 40 3 v' m (clCells (mixed l k)) ∧ Below w.heap.size w wr)
    (fun _ i' _ => m - (intOf i').toNat)
  case atStart => exact ⟨0, by omega, rfl, rfl, hown6.out, hB5.out⟩
  case round =>
    clear hown6 hB5 HO HR hB0
    obtain ⟨k, hkm, rfl, rfl, hown0, hBw⟩ := hrel
    have hown := Lib.hid hown0
    have HB := Lib.hid hBw
    have hnb := hbdN.out k
    have hml : (m : Int) = (l.length : Int) := by rw [HM.out]
    have hnb2 : roundN l k ≤ 1000 := by omega
    clear hown0 hBw hml
    by_cases hlt : k < m
    · have hkl : k < l.length := by rw [← HM.out]; exact hlt
      have hx := hw.out _ (List.getElem_mem hkl)
      have htx := ht.out _ (List.getElem_mem hkl)
      have HATK := Lib.hid (fun W (h : RCls W A l) => h.at' hkl)
      have hns := Lib.hid (roundN_succ hkl)
      have hms := Lib.hid (mixed_succ hkl)
      have hmsame := Lib.hid (mixed_same hkl)
      have hmg := Lib.hid (mixed_get hkl)
      have hsm := Lib.hid (stepCl_moved (l := l) (c := l[k]))
      have hlm := Lib.hid (fun j (hj : j < l.length) => leastMid_succ hj l[k])
      have hlz := Lib.hid (leastMid_zero l l[k])
      have hla := Lib.hid (leastMid_all l l[k])
      generalize l[k] = x at *
      obtain ⟨wo, hwo⟩ : ∃ wo : World, wo = wr := ⟨_, rfl⟩
      subst hwo
      have i3 : (0 : Int) ≤ (k : Int) := by omega
      have i4 : (k : Int) < (m : Int) := by omega
      go_wp2_with fail
      go_loopw [7, 8] (fun b' j' wj => ∃ j : Nat, j ≤ m ∧ j' = .int .i64 j ∧ b' = .bool (leastMid l x j) ∧ Below wo.heap.size wo wj)
        (fun _ j' _ => m - (intOf j').toNat)
      case atStart => exact ⟨0, by omega, rfl, by rw [hlz.out], Below.refl _ _⟩
      case round =>
        obtain ⟨j, hjm, rfl, rfl, hBj⟩ := hrel
        have HBJ := Lib.hid (HB.out.trans (hBj.mono HB.out.size))
        have HBO := Lib.hid hBj
        clear hBj
        obtain ⟨b, of, hAe, hb, z0, z1, z2⟩ := HATK.out _ (hA.out.below HBJ.out)
        by_cases hlj : j < m
        · have hjl : j < l.length := by rw [← HM.out]; exact hlj
          obtain ⟨b', of', hAe', hb', y0, y1, _⟩ := (hA.out.below HBJ.out).at' hjl
          subst hAe
          injection hAe' with hAe'
          injection hAe' with h1 h2
          subst h1 h2
          have i1 : (0 : Int) ≤ (j : Int) := by omega
          have i2 : (j : Int) < (m : Int) := by omega
          have hsu := Lib.hid (hlm.out j hjl)
          clear z2
          generalize l[j] = y at *
          have hcs : (y.addr ≠ x.addr) ∨ (y.addr = x.addr ∧ y.eui < x.eui) ∨ (y.addr = x.addr ∧ ¬ y.eui < x.eui) := by
            by_cases h : y.addr = x.addr
            · by_cases h2 : y.eui < x.eui
              · exact .inr (.inl ⟨h, h2⟩)
              · exact .inr (.inr ⟨h, h2⟩)
            · exact .inl h
          rcases hcs with q1 | ⟨q1, q2⟩ | ⟨q1, q2⟩
          · have hnx : Hid (leastMid l x (j + 1) = leastMid l x j) := by show _ = _; rw [hsu.out, decide_eq_false q1]; simp
            have t1 : (y.addr == x.addr) = false := by simpa using q1
            clear q1 hsu
            generalize leastMid l x j = bb at *
            go_wp2_with fail
            go_quiet (fail)
            go_wp2_with fail
            go_roundw
            case rel => exact ⟨j + 1, by omega, by go_num, by rw [hnx.out], below_drewN HBO.out _⟩
            case measure => simp [intOf]; omega
          · have hnx : Hid (leastMid l x (j + 1) = false) := by show _ = _; rw [hsu.out, decide_eq_true q1, decide_eq_true q2]; simp
            have t1 : (y.addr == x.addr) = true := by simpa using q1
            have t2 : decide (y.eui < x.eui) = true := decide_eq_true q2
            clear q1 q2 hsu
            generalize leastMid l x j = bb at *
            go_wp2_with fail
            go_quiet (fail)
            go_wp2_with fail
            go_roundw
            case rel => exact ⟨j + 1, by omega, by go_num, by rw [hnx.out], below_drewN HBO.out _⟩
            case measure => simp [intOf]; omega
          · have hnx : Hid (leastMid l x (j + 1) = leastMid l x j) := by show _ = _; rw [hsu.out, decide_eq_false q2, Bool.and_false]; simp
            have t1 : (y.addr == x.addr) = true := by simpa using q1
            have t2 : decide (y.eui < x.eui) = false := decide_eq_false q2
            clear q1 q2 hsu
            generalize leastMid l x j = bb at *
            go_wp2_with fail
            go_quiet (fail)
            go_wp2_with fail
            go_roundw
            case rel => exact ⟨j + 1, by omega, by go_num, by rw [hnx.out], below_drewN HBO.out _⟩
            case measure => simp [intOf]; omega
        · have hle : Hid (leastMid l x j = isLeast l x) := by show _ = _; rw [← hla.out, ← HM.out, show j = m by omega]
          rw [hle.out]
          have hown1 := Lib.hid (own_below hown.out HBO.out)
          cases hil : isLeast l x
          · rw [hil] at hns
            have hnx : Hid (stepCl l x = ⟨x.eui, pickZ x.eui (x.try_ + 1), x.try_ + 1⟩) := hsm.out hil
            have hpk := Lib.hid (fun W => rpick_any x.eui (x.try_ + 1) W hx.e0 hx.e1 (by omega))
            obtain ⟨g, cap, rfl, _⟩ := hown1.out.form (by omega)
            have hgl := hown1.out.lt g (by simp [Value.ownBlock])
            have hMk : ∃ h : k < (mixed l k).length, (mixed l k)[k] = x := List.getElem?_eq_some_iff.1 hmg.out
            obtain ⟨hMl, hMx⟩ := hMk
            have c1 : wr.cell? ⟨g, k * 3 + 1, none⟩ = some (.int .i64 x.addr) := by
              rw [hown1.out.cellAt _ (by omega), clCells_get hMl (by omega), hMx]; rfl
            have c2 : wr.cell? ⟨g, k * 3 + 2, none⟩ = some (.int .i64 x.try_) := by
              rw [hown1.out.cellAt _ (by omega), clCells_get hMl (by omega), hMx]; rfl
            have cf := hown1.out.frozenAt
            have hAb : b < w.heap.size := by
              obtain ⟨b2, o2, hAe2, hb2, _⟩ := HATK.out _ hA.out
              rw [hAe] at hAe2
              injection hAe2 with hAe2
              injection hAe2 with h1 h2
              omega
            have hown2 := Lib.hid (hown1.out.stored (k * 3 + 2) (.int .i64 (x.try_ + 1)))
            have HW2 : Hid (∃ W2, W2 = wr.setCell ⟨g, k * 3 + 2, none⟩ (.int .i64 (x.try_ + 1)) ∧ W2.cell? ⟨b, of + k * 3, none⟩ = some (.int .u64 x.eui) ∧ W2.cell? ⟨b, of + k * 3 + 2, none⟩ = some (.int .i64 x.try_) ∧ W2.cell? ⟨g, k * 3 + 1, none⟩ = some (.int .i64 x.addr) ∧ W2.frozen? ⟨g, k * 3 + 1, none⟩ = false ∧ Below w.heap.size w W2 ∧ W2.heap.size = wr.heap.size) := by
              refine ⟨_, rfl, ?_, ?_, ?_, ?_, HBJ.out.setCell hgl.1 _, by simp⟩
              · rw [World.cell?_setCell_other _ _ _ _ (by intro h; injection h; omega)]; exact z0
              · rw [World.cell?_setCell_other _ _ _ _ (by intro h; injection h; omega)]; exact z2
              · rw [World.cell?_setCell_other _ _ _ _ (by intro h; injection h; omega)]; exact c1
              · have := cf (k * 3 + 1); simpa [go_sem] using this
            have hset := Lib.hid (clCells_set (a := pickZ x.eui (x.try_ + 1)) (t := x.try_ + 1) hMl)
            rw [hMx] at hset
            subst hAe
            clear hil hx hsm hmsame hmg
            have ws : IntKind.i64.wrap (x.try_ + 1) = x.try_ + 1 := IntWalk.i64_in _ (by omega)
            generalize pickZ x.eui (x.try_ + 1) = pk at *
            generalize roundN l k = rn at *
            have WS := Lib.hid ws
            clear ws
            go_upto_region 15 with fail
            obtain ⟨W2, hW2, s0, s2, s1, sf, hB2, hz2⟩ := HW2.out
            rw [← hW2] at hown2 ⊢
            have HK : Hid (∀ W, Below W2.heap.size W2 W → W.cell? ⟨b, of + k * 3, none⟩ = some (.int .u64 x.eui) ∧ W.cell? ⟨b, of + k * 3 + 2, none⟩ = some (.int .i64 x.try_)) := fun W hb => ⟨cell_below s0 hb, cell_below s2 hb⟩
            have HST : Hid (∀ W, Below W2.heap.size W2 W → W.cell? ⟨g, k * 3 + 1, none⟩ = some (.int .i64 x.addr) ∧ W.frozen? ⟨g, k * 3 + 1, none⟩ = false) := fun W hb => ⟨cell_below s1 hb, by rw [hb.frozen (p := ⟨g, k * 3 + 1, none⟩) (show g < W2.heap.size by omega)]; exact sf⟩
            have HK3 : Hid (∀ W : World, W.cell? ⟨b, of + k * 3, none⟩ = some (.int .u64 x.eui) ∧ W.cell? ⟨b, of + k * 3 + 2, none⟩ = some (.int .i64 x.try_) → (W.setCell ⟨g, k * 3 + 1, none⟩ (.int .i64 pk)).cell? ⟨b, of + k * 3, none⟩ = some (.int .u64 x.eui) ∧ (W.setCell ⟨g, k * 3 + 1, none⟩ (.int .i64 pk)).cell? ⟨b, of + k * 3 + 2, none⟩ = some (.int .i64 x.try_)) := by
              rintro W ⟨h1, h2⟩
              refine ⟨?_, ?_⟩
              · rw [World.cell?_setCell_other _ _ _ _ (by intro h; injection h; omega)]; exact h1
              · rw [World.cell?_setCell_other _ _ _ _ (by intro h; injection h; omega)]; exact h2
            have ws := WS.out
            have HB2 := Lib.hid hB2
            have hgW2 : g < W2.heap.size := by omega
            clear hW2 HW2 z0 z1 z2 c1 c2 cf s0 s1 s2 sf hz2 hB2
            go_region_held3 (fun w' => w'.cell? ⟨b, of + k * 3, none⟩ = some (.int .u64 x.eui) ∧ w'.cell? ⟨b, of + k * 3 + 2, none⟩ = some (.int .i64 x.try_))
              (first | exact HK.out _ (Below.refl _ _) | exact HK.out _ (Below.drew (Below.refl _ _)) | exact HK.out _ hb8 | exact HK3.out _ (HK.out _ hb8))
              (first | (go_at_call 14; refine (hpk.out _).mono ?_; rintro e' w7 ⟨rfl, hb7⟩; have hb8 := Below.trans (Below.drew (Below.refl W2.heap.size W2)) hb7; obtain ⟨c1, cf⟩ := HST.out _ hb8))
            clear c1 cf
            have hown3 := Lib.hid (own_below hown2.out.1 hb8)
            have hown4 : Hid ((w7.setCell ⟨g, k * 3 + 1, none⟩ (.int .i64 pk)).ownsRow w.heap.size 40 3 (.slice (some ⟨g, 0, none⟩) m cap) m (clCells (mixed l (k + 1)))) := by
              have h := (hown3.out.stored (k * 3 + 1) (.int .i64 pk)).1
              rw [hset.out] at h
              rw [hms.out, hnx.out]
              exact h
            have HB4 := Lib.hid ((HB2.out.trans (hb8.mono HB2.out.size)).setCell (p := ⟨g, k * 3 + 1, none⟩) hgl.1 (.int .i64 pk))
            clear hb7 hb8 ws
            go_wp2_with fail
            go_roundw
            case rel => exact ⟨k + 1, by omega, by go_num, by rw [hns.out]; rfl, hown4.out, HB4.out⟩
            case measure => simp [intOf]; omega
          · rw [hil] at hns
            have hsame := Lib.hid (hmsame.out hil)
            clear hil
            generalize roundN l k = rn at *
            go_wp2_with fail
            go_roundw
            case rel => exact ⟨k + 1, by omega, by go_num, by rw [hns.out]; simp, by rw [hsame.out]; exact hown1.out, HBJ.out⟩
            case measure => simp [intOf]; omega
    · obtain rfl : k = m := by omega
      have hfin : Hid (ClOut (roundL l) (roundN l k) w (.returned (.tuple #[v', .int .i64 (roundN l k)])) wr) := by
        have h := hown.out
        rw [show mixed l k = roundL l by rw [← mixed_all, ← HM.out]] at h
        exact cl_out _ h (Nat.le_refl _) HB.out
      go_wp2_with fail
      go_ret2
      exact hfin.out
end Go.Proofs.Ytgflklgjjpokaaa
