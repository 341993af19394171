/-
  The walk of round of the program (layer 8).
-/
import Derived.Test.YtgflklgjjpokaaaA8
import Derived.Test.YtgflklgjjpokaaaAP5
import Derived.Test.Ytgflklgjjpokaaa4Words
import Derived.Deep.DeepCutAuto
namespace Go.Proofs.Ytgflklgjjpokaaa
open Go.RowKit

theorem Try.zeroU64 (w : World) : (zeroValue 22).run Try.prog w = .ok (.int .u64 0) w := by kernel_rfl
theorem Try.infoClaim : (Try.prog.info? 40).map (fun i => (i.zero, i.size, i.bytes)) = some (some (.agg #[.int .u64 0, .int .i64 0, .int .i64 0]), 3, 24) := by kernel_rfl
/-- What a call that returns claims and a number leaves. -/
def ClOut (l : List Cl) (n : Int) (w : World) (e : Ending) (w' : World) : Prop :=
  ∃ A c, e = .returned (.tuple #[.slice A l.length c, .int .i64 n]) ∧ RCls w' A l ∧ (∀ ad, A = some ad → w.heap.size ≤ ad.block) ∧ Below w.heap.size w w'
theorem cl_out {w0 w : World} {base : Nat} {e : TypeId} {v : Value} {k : Nat} {l : List Cl} (n : Int) (h : w.ownsRow base e 3 v k (clCells l)) (hb : w0.heap.size ≤ base) (hB : Below w0.heap.size w0 w) : ClOut l n w0 (.returned (.tuple #[v, .int .i64 n])) w := by
  obtain ⟨A, c, rfl, hr, hf⟩ := rcls_own h
  exact ⟨A, c, rfl, hr, fun ad ha => Nat.le_trans hb (hf ad ha), hB⟩
theorem cl_one (c : Cl) : ∀ u ∈ (#[Value.int .u64 c.eui, .int .i64 c.addr, .int .i64 c.try_] : Array Value).toList, u.oneCell' = true := by
  intro u hu
  simp at hu
  rcases hu with rfl | rfl | rfl <;> rfl

set_option maxRecDepth 100000 in
set_option maxHeartbeats 16000000 in
theorem lround_any (A : Option Addr) (c : Nat) (l : List Cl) (w : World) (hA0 : RCls w A l) (hw0 : ∀ x ∈ l, x.Wf) (ht0 : ∀ x ∈ l, 0 ≤ x.try_ ∧ x.try_ ≤ 1000000) (hl : l.length ≤ 1000) :
    Calls Try.prog 29 #[.slice A l.length c] w (ClOut (roundL l) (roundN l l.length) w) := by
  have hA := Lib.hid hA0
  have hw := Lib.hid hw0
  have ht := Lib.hid ht0
  have hmm := @run_makeMap Try.prog
  obtain ⟨i0, hi, hz0, hz1, hz2⟩ := info_parts Try.infoClaim
  obtain ⟨m, hm⟩ : ∃ m, m = l.length := ⟨_, rfl⟩
  have HM := Lib.hid hm
  have hbdN := Lib.hid (roundN_bd l)
  rw [← hm] at hl
  clear hA0 hw0 ht0
  have hgoal : Hid (∀ W v k n, k = m → n = roundN l m → W.ownsRow (w.heap.size + 1) 40 3 v k (clCells (roundTo l m)) → Below w.heap.size w W → ClOut (roundL l) (roundN l m) w (.returned (.tuple #[v, .int .i64 n])) W) := by
    intro W v k n hk hn h1 h2
    subst hk hn
    exact cl_out (roundN l _) (l := roundL l) (by rw [← roundTo_all, ← hm]; exact h1) (Nat.le_succ _) h2
  have HROW := Lib.hid (Eq.trans (congrArg (fun n => Value.slice A n c) hm) rfl)
  rw [show l.length = m from hm.symm]
  clear hm HROW
  go_enter Try.func29, Try.ntmps29
  go_wp2_with fail
  clear hmm
  have hM0 := Lib.hid (MapD.new (P := Try.prog) (kt := 3) (et := 22) (q := .i64) (z := .int .u64 0) w)
  have hB0 : Hid (Below w.heap.size w (w.alloc (.map #[] 0))) := (Below.refl _ _).alloc (Nat.le_refl _) _
  go_loopw [16] (fun i' wr => ∃ k n : Nat, k ≤ m ∧ n ≤ k ∧ i' = .int .i64 k ∧ MapD Try.prog 3 22 .i64 (.int .u64 0) wr w.heap.size n (fun y => .int .u64 (leastV l k y)) (fun y => leastH l k y) ∧ Below w.heap.size w wr)
    (fun i' _ => m - (intOf i').toNat)
  case atStart => exact ⟨0, 0, by omega, by omega, rfl, hM0.out.congr (fun _ => rfl) (fun _ => rfl), hB0.out⟩
  case round =>
    clear hM0 hB0
    obtain ⟨k, n, hkm, hnk, rfl, hmap0, hBw⟩ := hrel
    have hmap := Lib.hid hmap0
    have HB := Lib.hid hBw
    have hblt := hmap0.lt
    clear hmap0
    by_cases hlt : k < m
    · have hkl : k < l.length := by rw [← HM.out]; exact hlt
      obtain ⟨b, of, hAe, hb, z0, z1, z2⟩ := (hA.out.below hBw).at' hkl
      subst hAe
      have hx := hw.out _ (List.getElem_mem hkl)
      have hkeep := Lib.hid (least_keep hkl)
      have hset := Lib.hid (least_set hkl)
      clear hBw
      generalize l[k] = x at *
      have hwf := Lib.hid (wf_i64 (x := x.addr) ⟨hx.a0, hx.a1⟩)
      have hwe := Lib.hid (wf_u64 (x := x.eui) ⟨hx.e0, hx.e1⟩)
      have hmap1 := Lib.hid (hmap.out.kept (World.grownBy_alloc wr (.cells #[.int .u64 x.eui, .int .i64 x.addr, .int .i64 x.try_] 40) none) (by simp))
      have HB1 : Hid (Below w.heap.size w (wr.alloc (.cells #[.int .u64 x.eui, .int .i64 x.addr, .int .i64 x.try_] 40))) := HB.out.alloc HB.out.size _
      have hlk := hmap1.out.look_int_ok (t := 54) (r := .u64) Try.underlying3 Try.underlying54 Try.underlying22 (Try.zeroU64 _) hwf.out (v := leastV l k x.addr) rfl
      have hcs : (leastH l k x.addr = false) ∨ (leastH l k x.addr = true ∧ x.eui < leastV l k x.addr) ∨ (leastH l k x.addr = true ∧ ¬ x.eui < leastV l k x.addr) := by
        cases leastH l k x.addr
        · exact .inl rfl
        · by_cases h : x.eui < leastV l k x.addr
          · exact .inr (.inl ⟨rfl, h⟩)
          · exact .inr (.inr ⟨rfl, h⟩)
      have hres : Hid ((leastH l k x.addr = false ∨ x.eui < leastV l k x.addr) → ∀ W n', MapD Try.prog 3 22 .i64 (.int .u64 0) W w.heap.size n' (fun y => if y = x.addr then .int .u64 x.eui else .int .u64 (leastV l k y)) (fun y => decide (y = x.addr) || leastH l k y) → MapD Try.prog 3 22 .i64 (.int .u64 0) W w.heap.size n' (fun y => .int .u64 (leastV l (k + 1) y)) (fun y => leastH l (k + 1) y)) := by
        intro h W n' hM
        refine hM.congr (fun y => ?_) (fun y => ?_)
        · unfold leastV
          rw [hset.out h y]
          by_cases e : y = x.addr
          · rw [if_pos e, if_pos e]; rfl
          · rw [if_neg e, if_neg e]
        · unfold leastH
          rw [hset.out h y]
          by_cases e : y = x.addr
          · rw [if_pos e, decide_eq_true e]; rfl
          · rw [if_neg e, decide_eq_false e]; rfl
      rcases hcs with c1 | ⟨c1, c2⟩ | ⟨c1, c2⟩
      · have hr := Lib.hid (hres.out (.inl c1))
        rw [c1] at hlk
        clear hres hset hkeep c1
        generalize leastV l k x.addr = lv at *
        go_wp2_with (at_mapUpdate; clear hlk; refine wpList_mapSet _ rfl _ _ _ 54 rfl 3 22 .i64 Try.underlying3 Try.underlying54 (.int .u64 0) w.heap.size n _ _ rfl hmap1.out (by unfold maxLen; omega) x.addr (.int .u64 x.eui) (.int .u64 x.eui) rfl rfl hwf.out (plainElem_int Try.underlying22 hwe.out) ?_)
        intro w5 hm5 hg5
        have hm6 := Lib.hid (hr.out w5 _ hm5)
        have HB5 := Lib.hid (HB1.out.grown hg5 HB1.out.size (fun j hj => by injection hj with hj; omega))
        clear hm5 hg5
        go_wp2_with fail
        go_roundw
        case rel => exact ⟨k + 1, n + 1, by omega, by omega, by go_num, hm6.out, HB5.out⟩
        case measure => simp [intOf]; omega
      · have hr := Lib.hid (hres.out (.inr c2))
        rw [c1] at hlk
        clear hres hset hkeep c1
        generalize leastV l k x.addr = lv at *
        go_wp2_with (at_mapUpdate; clear hlk; refine wpList_mapSet _ rfl _ _ _ 54 rfl 3 22 .i64 Try.underlying3 Try.underlying54 (.int .u64 0) w.heap.size n _ _ rfl hmap1.out (by unfold maxLen; omega) x.addr (.int .u64 x.eui) (.int .u64 x.eui) rfl rfl hwf.out (plainElem_int Try.underlying22 hwe.out) ?_)
        intro w5 hm5 hg5
        have hm6 := Lib.hid (hr.out w5 _ hm5)
        have HB5 := Lib.hid (HB1.out.grown hg5 HB1.out.size (fun j hj => by injection hj with hj; omega))
        clear hm5 hg5
        go_wp2_with fail
        go_roundw
        case rel => exact ⟨k + 1, n + 1, by omega, by omega, by go_num, hm6.out, HB5.out⟩
        case measure => simp [intOf]; omega
      · have hm6 : Hid (MapD Try.prog 3 22 .i64 (.int .u64 0) (wr.alloc (.cells #[.int .u64 x.eui, .int .i64 x.addr, .int .i64 x.try_] 40)) w.heap.size n (fun y => .int .u64 (leastV l (k + 1) y)) (fun y => leastH l (k + 1) y)) := by
          refine hmap1.out.congr (fun y => ?_) (fun y => ?_)
          · unfold leastV; rw [hkeep.out c1 c2 y]
          · unfold leastH; rw [hkeep.out c1 c2 y]
        rw [c1] at hlk
        clear hres hset hkeep c1
        generalize leastV l k x.addr = lv at *
        go_wp2_with fail
        clear hlk
        go_roundw
        case rel => exact ⟨k + 1, n, by omega, by omega, by go_num, hm6.out, HB1.out⟩
        case measure => simp [intOf]; omega
    · obtain rfl : k = m := by omega
      clear hBw
      go_wp2_with fail
      go_loopw [9, 10, 43] (fun v n' i' wx => ∃ j : Nat, j ≤ k ∧ i' = .int .i64 j ∧ n' = .int .i64 (roundN l j) ∧ wx.ownsRow (w.heap.size + 1) 40 3 v j (clCells (roundTo l j)) ∧ MapD Try.prog 3 22 .i64 (.int .u64 0) wx w.heap.size n (fun y => .int .u64 (leastV l k y)) (fun y => leastH l k y) ∧ Below w.heap.size w wx)
        (fun _ _ i' _ => k - (intOf i').toNat)
      case atStart => exact ⟨0, by omega, rfl, rfl, World.ownsRow_nil _ _ _ _, hmap.out, HB.out⟩
      case round =>
        clear hmap HB hblt
        obtain ⟨j, hjk, rfl, rfl, hown0, hmp0, hBj⟩ := hrel
        have hown := Lib.hid hown0
        have hmp := Lib.hid hmp0
        have HBj := Lib.hid hBj
        have hblt := hmp0.lt
        have hnb := hbdN.out j
        clear hown0 hmp0
        by_cases hlt2 : j < k
        · have hjl : j < l.length := by rw [← HM.out]; exact hlt2
          obtain ⟨b, of, hAe, hb, z0, z1, z2⟩ := (hA.out.below hBj).at' hjl
          subst hAe
          have hx := hw.out _ (List.getElem_mem hjl)
          have htx := ht.out _ (List.getElem_mem hjl)
          have hls := least_of (List.getElem_mem hjl)
          rw [← HM.out] at hls
          have hrs := Lib.hid (roundTo_succ hjl)
          have hns := Lib.hid (roundN_succ hjl)
          have hst := Lib.hid (stepCl_least (l := l) (c := l[j]))
          have hsm := Lib.hid (stepCl_moved (l := l) (c := l[j]))
          have hkl : (k : Int) = (l.length : Int) := by rw [HM.out]
          have hnb2 : roundN l j ≤ 1000 := by omega
          clear hBj hkl
          generalize l[j] = x at *
          have hwf := wf_i64 (x := x.addr) ⟨hx.a0, hx.a1⟩
          have hmp1 := Lib.hid (hmp.out.kept (World.grownBy_alloc wr (.cells #[.int .u64 x.eui, .int .i64 x.addr, .int .i64 x.try_] 40) none) (by simp))
          have HB1 : Hid (Below w.heap.size w (wr.alloc (.cells #[.int .u64 x.eui, .int .i64 x.addr, .int .i64 x.try_] 40))) := HBj.out.alloc HBj.out.size _
          have hown1 := Lib.hid (hown.out.alloc (.cells #[.int .u64 x.eui, .int .i64 x.addr, .int .i64 x.try_] 40))
          have hlk := hmp1.out.look_int (t := 54) (r := .u64) Try.underlying3 Try.underlying54 Try.underlying22 (Try.zeroU64 _) hwf (v := leastV l k x.addr) rfl
          have hsz := HBj.out.size
          cases hil : isLeast l x
          · have hne : (leastV l k x.addr != x.eui) = true := by rw [bne_iff_ne]; exact hls.2 hil
            have hsm1 := Lib.hid (hsm.out hil)
            rw [hil] at hns
            have hpk := Lib.hid (fun W => pick_any x.eui (x.try_ + 1) W hx.e0 hx.e1 (by omega))
            have hnx : Hid (stepCl l x = ⟨x.eui, pickZ x.eui (x.try_ + 1), x.try_ + 1⟩) := hsm1.out
            clear hls hil hst hsm hsm1 hwf
            generalize leastV l k x.addr = lv at *
            generalize pickZ x.eui (x.try_ + 1) = pk at *
            generalize roundN l j = rn at *
            go_wp2_with fail
            clear hlk
            refine (hpk.out _).mono ?_
            rintro e' w5 ⟨rfl, hb5⟩
            obtain ⟨kb, hz5, hBw5⟩ := one_box hb5
            have hmp5 := Lib.hid ((hmp.out.kept (World.grownBy_alloc wr (.cells #[.int .u64 x.eui, .int .i64 x.addr, .int .i64 (x.try_ + 1)] 40) none) (by simp)).below hb5 (by simp; omega))
            have hown5 := Lib.hid (own_below (hown.out.alloc (.cells #[.int .u64 x.eui, .int .i64 x.addr, .int .i64 (x.try_ + 1)] 40)) hb5)
            have HB5 := Lib.hid (HBj.out.trans (hBw5.mono hsz))
            have x0 := kb.cell 0; have x1 := kb.cell 1; have x2 := kb.cell 2
            have xf := kb.frozen
            simp only [List.getElem?_toArray, List.getElem?_cons_zero, List.getElem?_cons_succ] at x0 x1 x2
            have hown6 := Lib.hid (ownsRow_setCell_other (a := ⟨wr.heap.size, 1, none⟩) hown5.out (by intro h; have := (hown.out.lt _ h).2; exact absurd this (Nat.lt_irrefl _)) (.int .i64 pk))
            have hmp6 := Lib.hid (hmp5.out.kept (row := some wr.heap.size) (only_setCell (a := w5) (g := wr.heap.size) (World.grownBy.refl _ _) (p := ⟨wr.heap.size, 1, none⟩) (.inl rfl) (.int .i64 pk)) (by intro h; injection h with h; omega))
            have HB6 := Lib.hid (HB5.out.setCell (p := ⟨wr.heap.size, 1, none⟩) hsz (.int .i64 pk))
            clear hb5 kb hBw5 hown5 hmp5 HB5
            go_wp2_with (at_builtin; refine wpList_append_newH _ (w5.setCell ⟨wr.heap.size, 1, none⟩ (.int .i64 pk)) (w5.heap.size) (by simp) rfl _ _ 29 rfl (w.heap.size + 1) 40 i0 (.agg #[.int .u64 0, .int .i64 0, .int .i64 0]) 3 24 Try.underlying29 hi hz0 hz1 hz2 rfl (by decide) (by decide) _ _ _ rfl hown6.out #[.int .u64 x.eui, .int .i64 pk, .int .i64 (x.try_ + 1)] rfl (cl_one ⟨x.eui, pk, x.try_ + 1⟩) rfl rfl (by omega) (by simp; omega) ?_)
            intro v' w7 hown7 hb7
            have hown8 : Hid (w7.ownsRow (w.heap.size + 1) 40 3 v' (j + 1) (clCells (roundTo l (j + 1)))) := by
              show World.ownsRow _ _ _ _ _ _ _
              rw [hrs.out, clCells_append, hnx.out]
              exact hown7
            have hmp8 := Lib.hid (hmp6.out.below hb7 (Nat.lt_succ_self _))
            have HB8 := Lib.hid (HB6.out.trans (hb7.mono (Nat.le_succ _)))
            clear hown7 hb7
            go_wp2_with fail
            go_roundw
            case rel => exact ⟨j + 1, by omega, by go_num, by rw [hns.out]; rfl, hown8.out, hmp8.out, HB8.out⟩
            case measure => simp [intOf]; omega
          · have hne : (leastV l k x.addr != x.eui) = false := by
              cases h : (leastV l k x.addr != x.eui)
              · rfl
              · rw [bne_iff_ne] at h
                have h2 := hls.1 h
                rw [hil] at h2; cases h2
            have hst1 := Lib.hid (hst.out hil)
            rw [hil] at hns
            clear hls hil hst hsm hwf hsz
            generalize leastV l k x.addr = lv at *
            generalize roundN l j = rn at *
            have hszj := HBj.out.size
            go_wp2_with (first | (at_builtin; refine wpList_append_newH _ (wr.alloc (.cells #[.int .u64 x.eui, .int .i64 x.addr, .int .i64 x.try_] 40)) (wr.heap.size + 1) (by simp) rfl _ _ 29 rfl (w.heap.size + 1) 40 i0 (.agg #[.int .u64 0, .int .i64 0, .int .i64 0]) 3 24 Try.underlying29 hi hz0 hz1 hz2 rfl (by decide) (by decide) _ _ _ rfl hown1.out #[.int .u64 x.eui, .int .i64 x.addr, .int .i64 x.try_] rfl (cl_one x) rfl rfl (by omega) (by simp; omega) ?_))
            clear hlk
            intro v' w7 hown7 hb7
            have hown8 : Hid (w7.ownsRow (w.heap.size + 1) 40 3 v' (j + 1) (clCells (roundTo l (j + 1)))) := by
              show World.ownsRow _ _ _ _ _ _ _
              rw [hrs.out, clCells_append, hst1.out]
              exact hown7
            have hmp8 := Lib.hid (hmp1.out.below hb7 (Nat.lt_succ_self _))
            have HB8 := Lib.hid (HB1.out.trans (hb7.mono (Nat.le_succ _)))
            clear hown7 hb7
            go_wp2_with fail
            go_roundw
            case rel => exact ⟨j + 1, by omega, by go_num, by rw [hns.out]; simp, hown8.out, hmp8.out, HB8.out⟩
            case measure => simp [intOf]; omega
        · obtain rfl : j = k := by omega
          have hfin := Lib.hid (hgoal.out wr _ _ _ rfl rfl hown.out HBj.out)
          clear hBj
          go_wp2_with fail
          go_ret2
          exact hfin.out
end Go.Proofs.Ytgflklgjjpokaaa
