/-
  The walk of Uses of the program (layer 41).
-/
import Derived.Test.YtnppngaabfhkpaaJL12
import Derived.Deep.RegionHeld3
import Derived.Deep.DrawnRows
import Derived.Lib.Hide
import Derived.Deep.QuietTactic
import Derived.BigQuiet
import Derived.WalkSpells
namespace Go.Proofs.Ytnppngaabfhkpaa
open Go.RowKit
def midRow (r : Ld) (s : Int) (j i : Nat) : Int := if i < j then r.use s (i : Int) else 0
theorem midRow_zero (r : Ld) (s : Int) (i : Nat) : midRow r s 0 i = 0 := by simp [midRow]
theorem midRow_succ (r : Ld) (s : Int) (j i : Nat) : midRow r s (j + 1) i = if i = j then r.use s (j : Int) else midRow r s j i := by
  unfold midRow
  by_cases h : i = j
  · subst h; simp
  · rw [if_neg h]
    by_cases h2 : i < j
    · rw [if_pos h2, if_pos (by omega)]
    · rw [if_neg h2, if_neg (by omega)]
theorem midRow_full (r : Ld) (s : Int) (n : Nat) : (List.range n).map (midRow r s n) = oneRow r s n := by
  unfold oneRow
  apply List.map_congr_left
  intro i hi
  rw [List.mem_range] at hi
  simp [midRow, hi]
theorem rowsOf_take {ls : List Ld} {ss : List Int} {n k : Nat} (h1 : k < ls.length) (h2 : k < ss.length) : (rowsOf ls ss n).take (k + 1) = (rowsOf ls ss n).take k ++ [oneRow ls[k] ss[k] n] := by
  have h : k < (rowsOf ls ss n).length := by simp [rowsOf]; omega
  rw [List.take_succ_eq_append_getElem h]
  simp [rowsOf]
theorem clamp_slots (n : Int) : (n ≤ 0 ∧ ¬ 96 < n ∧ ¬ 0 < n ∧ slotsN n = 0) ∨ (96 < n ∧ slotsN n = 96) ∨ (0 < n ∧ ¬ 96 < n ∧ n = (slotsN n : Int)) := by
  unfold slotsN
  by_cases h : n < 0
  · rw [if_pos h]; omega
  · rw [if_neg h]
    by_cases h2 : 96 < n
    · rw [if_pos h2]; omega
    · rw [if_neg h2]; omega
set_option maxRecDepth 100000 in
set_option maxHeartbeats 8000000 in
theorem luses_any (A B : Option Addr) (c d : Nat) (l : List LdM) (ss : List Int) (n : Int) (w : World) (hA0 : RLoads w A l) (hB0 : RInts w B ss) (hpl0 : ∀ x ∈ l, x.r.prof.length < 1000000000)
    (hss0 : ∀ s ∈ ss, -9223372036854775808 ≤ s ∧ s ≤ 9223372036854775807) (hm : l.length ≤ 1000000) (hsl : ss.length ≤ 1000000000) (hd : ss.length ≤ d) :
    Calls Try.prog 55 #[.slice A l.length c, .slice B ss.length d, .int .i64 n] w (IntsOut (usesL (l.map LdM.r) ss n) w) := by
  have hA := Lib.hid hA0
  have hB := Lib.hid hB0
  have hss := Lib.hid hss0
  have hpl := Lib.hid hpl0
  have hN0 := slotsN_le n
  have hcs := clamp_slots n
  have hgoal : Hid (usesL (l.map LdM.r) ss n = addL (rowsOf (l.map LdM.r) ss (slotsN n)) (slotsN n)) := (addL_rows _ _ _).symm
  rw [hgoal.out]
  clear hA0 hB0 hss0 hpl0 hgoal
  generalize slotsN n = N at *
  have hmk := Lib.hid (run_make_row' (P := Try.prog) 22 3 (.int .i64 0) 8 Try.underlying22 Try.infoInt rfl .i64 .i64 N (by omega) (by omega))
  obtain ⟨i0, hi, hz0, hz1, hz2⟩ := info_parts Try.infoInts
  obtain ⟨p, hp⟩ : ∃ p, p = l.length := ⟨_, rfl⟩
  obtain ⟨q, hq⟩ : ∃ q, q = ss.length := ⟨_, rfl⟩
  rw [← hp] at hm ⊢
  rw [← hq] at hsl hd ⊢
  have HP := Lib.hid hp
  have HQ := Lib.hid hq
  clear hp hq
  go_enter Try.func55, Try.ntmps55
  go_upto_region 1 with fail
  go_cut [2] (fun s2 wx => s2 = .int .i64 (N : Int) ∧ w = wx)
  case first =>
    rcases hcs with ⟨q1, q2, q3, rfl⟩ | ⟨q1, rfl⟩ | ⟨q1, q2, q3⟩
    · go_wp2_with fail
      go_meet
      exact ⟨rfl, rfl⟩
    · go_wp2_with fail
      go_meet
      exact ⟨rfl, rfl⟩
    · have Q3 := Lib.hid q3
      clear q3
      go_wp2_with fail
      go_meet
      exact ⟨by rw [Q3.out], rfl⟩
  case rest =>
    clear hcs
    obtain ⟨rfl, rfl⟩ := hcut
    go_upto_region 3 with fail
    have hM : Hid (min p q = min l.length ss.length) := by show _ = _; rw [HP.out, HQ.out]
    obtain ⟨M, hM1⟩ : ∃ M, M = min p q := ⟨_, rfl⟩
    go_cut [21, 22, 23] (fun s21 s22 s23 wx => s21 = .slice B M d ∧ s22 = .int .i64 (M : Int) ∧ s23 = .int .i64 0 ∧ w = wx)
    case first =>
      by_cases h : (p : Int) < (q : Int)
      · obtain rfl : M = p := by omega
        have hpq : Hid (M < q) := by show _ < _; omega
        clear hM1
        go_wp2_with fail
        go_meet
        exact ⟨rfl, rfl, rfl, rfl⟩
      · obtain rfl : M = q := by omega
        clear hM1
        go_wp2_with fail
        go_meet
        exact ⟨rfl, rfl, rfl, rfl⟩
    case rest =>
      obtain ⟨rfl, rfl, rfl, rfl⟩ := hcut
      have hMp : M ≤ p := by omega
      have hMq : M ≤ q := by omega
      have HM := Lib.hid hM1
      clear hM1 hM
      go_wp2_with fail
      go_loopw [7, 23] (fun v i' wr => ∃ (k : Nat) (rows : List IntsM), k ≤ M ∧ i' = .int .i64 k ∧ Hid (rows.length = k ∧ rows.map IntsM.l = (rowsOf (l.map LdM.r) ss N).take k) ∧ Made wr w.heap.size v rows ∧ Below w.heap.size w wr)
        (fun _ i' _ => M - (intOf i').toNat)
      case atStart => exact ⟨0, [], by omega, rfl, ⟨rfl, by simp⟩, Made.nil _ _, Below.refl _ _⟩
      case round =>
        obtain ⟨k, rows, hkM, rfl, hrows, hmade0, hBw⟩ := hrel
        have hmade := Lib.hid hmade0
        clear hmade0
        obtain ⟨wo, hwo⟩ : ∃ wo : World, wo = wr := ⟨_, rfl⟩
        subst hwo
        by_cases hlt : k < M
        · have hkp : k < l.length := by rw [← HP.out]; omega
          have hkq : k < ss.length := by rw [← HQ.out]; omega
          have HL := Lib.hid (hA.out.below hBw)
          obtain ⟨bs, os, hBe, hbs, y0⟩ := (hB.out.below hBw).at' hkq
          subst hBe
          have hsb := hss.out _ (List.getElem_mem hkq)
          have hx : Hid ((l.map LdM.r)[k]'(by simpa using hkp) = l[k].r) := by show _ = _; simp
          have htk := Lib.hid (rowsOf_take (ls := l.map LdM.r) (ss := ss) (n := N) (k := k) (by simpa using hkp) hkq)
          rw [hx.out] at htk
          clear hx
          have huse := Lib.hid (fun (i : Int) W (h : RInts W l[k].A l[k].r.prof) => luse_any l[k].r l[k].A l[k].c ss[k] i W h (hpl.out _ (List.getElem_mem hkp)) hsb.1 hsb.2)
          simp only [Ld.v] at huse
          have HAT := Lib.hid (fun W (h : RLoads W A l) => h.at' hkp)
          have HPR := Lib.hid (fun W (h : RLoads W A l) => h.prof hkp)
          generalize ss[k] = s at *
          generalize l[k] = x at *
          have hmk1 := hmk.out
          have hplx : Hid True := trivial
          go_wp2_with fail
          clear y0 hmk1
          have hrow0 : (wo.alloc (.cells (madeCells #[.int .i64 0] N) 3)).rowIs wo.heap.size 3 N (fun i => .int .i64 (midRow x.r s 0 i)) := by
            simp only [midRow_zero]
            exact World.rowIs_made _ _ _ _
          have hB0 : Below wo.heap.size wo (wo.alloc (.cells (madeCells #[.int .i64 0] N) 3)) := (Below.refl _ _).alloc (Nat.le_refl _) _
          go_loopw [32] (fun i' wr => ∃ j : Nat, j ≤ N ∧ i' = .int .i64 j ∧ wr.rowIs wo.heap.size 3 N (fun i => .int .i64 (midRow x.r s j i)) ∧ Below wo.heap.size wo wr)
            (fun i' _ => N - (intOf i').toNat)
          case atStart => exact ⟨0, by omega, rfl, hrow0, hB0⟩
          case round =>
            clear hrow0 hB0
            obtain ⟨j, hjN, rfl, hr1, hBj⟩ := hrel
            have hr := Lib.hid hr1
            have hgt := hr1.lt
            clear hr1
            by_cases hlj : j < N
            · have HLj := Lib.hid (HL.out.below hBj)
              obtain ⟨b, of, hAe, hb, z0, z1, z2, z3⟩ := HAT.out _ HLj.out
              subst hAe
              go_wp2_with fail
              refine (huse.out (j : Int) _ (HPR.out _ HLj.out) (by omega) (by omega)).mono ?_
              rintro e w1 ⟨rfl, hb1⟩
              have hr1 := Lib.hid (row_below hr.out hb1)
              have hB1 : Below wo.heap.size wo w1 := hBj.trans (hb1.mono hBj.size)
              have c1 := hr1.out.cell hlj
              have c2 := hr1.out.frozen j
              have hgt1 := hr1.out.lt
              clear hb1 z0 z1 z2 z3
              go_wp2_with fail
              go_roundw
              case rel =>
                refine ⟨j + 1, by omega, by go_num, ?_, hB1.setCell (by simp) _⟩
                refine (hr1.out.set j _).congr fun i hi => ?_
                rw [midRow_succ]
                by_cases e : i = j
                · rw [if_pos e, if_pos e]
                · rw [if_neg e, if_neg e]
              case measure => simp [intOf]; omega
            · obtain rfl : j = N := by omega
              have hone : Hid (RInts wr (some ⟨wo.heap.size, 0, none⟩) (oneRow x.r s j)) := by
                have h := rowInts hr.out
                rwa [midRow_full] at h
              have hm1 := Lib.hid (hmade.out.below hBj)
              have hown := Lib.hid hm1.out.own
              have hfr : Hid (∀ g, u7 ≠ u7 ∨ Value.ownBlock u7 = some g → g < wo.heap.size) := by
                intro g hg
                rcases hg with hg | hg
                · exact absurd rfl hg
                · exact (hmade.out.own.lt g hg).2
              have hbs1 := hBw.size
              have hbs2 := hBj.size
              have hrk : rows.length ≤ 1000000000 := by rw [hrows.out.1]; omega
              go_wp2_with (at_builtin; refine wpList_append_newG _ _ rfl _ _ 78 rfl w.heap.size 22 i0 (.slice none 0 0) 1 24 Try.underlying78 hi hz0 hz1 hz2 rfl (by decide) (by decide) _ _ _ rfl hown.out #[.slice (some ⟨wo.heap.size, 0, none⟩) j j] rfl (by simp [Value.oneCell']) rfl rfl hrk (by omega) ?_)
              intro v' w5 hown5 hg5 hv5
              have hmade5 : Hid (Made w5 w.heap.size v' (rows ++ [⟨some ⟨wo.heap.size, 0, none⟩, j, oneRow x.r s j⟩])) := by
                refine hm1.out.push hone.out ?_ (by simpa [IntsM.v, oneRow_length] using hown5) hg5 hv5
                intro ad e
                injection e with e
                subst e
                refine ⟨hbs1, fun hh => ?_, hgt⟩
                have := hfr.out _ (.inr hh.symm)
                exact absurd this (by simp)
              have hB5 : Hid (Below w.heap.size w w5) := by
                have hB6 : Below w.heap.size w wr := hBw.trans (hBj.mono hbs1)
                exact hB6.grown hg5 (by omega) (fun g hg => (hown.out.lt g hg).1)
              have hrows5 : Hid ((rows ++ [(⟨some ⟨wo.heap.size, 0, none⟩, j, oneRow x.r s j⟩ : IntsM)]).length = k + 1 ∧ (rows ++ [(⟨some ⟨wo.heap.size, 0, none⟩, j, oneRow x.r s j⟩ : IntsM)]).map IntsM.l = (rowsOf (l.map LdM.r) ss j).take (k + 1)) := by
                refine ⟨by simp [hrows.out.1], ?_⟩
                rw [htk.out, List.map_append, hrows.out.2]
                rfl
              clear hown5 hg5 hv5
              go_wp2_with fail
              go_roundw
              case rel => exact ⟨k + 1, _, by omega, by go_num, hrows5, hmade5.out, hB5.out⟩
              case measure => simp [intOf]; omega
        · obtain rfl : k = M := by omega
          obtain ⟨A', c', rfl, hrr⟩ := hmade.out.rrows
          have hrows2 : Hid (rows.map IntsM.l = rowsOf (l.map LdM.r) ss N) := by
            show _ = _
            rw [hrows.out.2, List.take_of_length_le]
            simp [rowsOf]
            have := HP.out; have := HQ.out; have := HM.out; omega
          have hadd := Lib.hid (add_any N A' c' rows wo hrr (by omega) (fun y hy => by
              have h1 : y.l ∈ rows.map IntsM.l := List.mem_map_of_mem hy
              rw [hrows2.out] at h1
              simp only [rowsOf, List.mem_map] at h1
              obtain ⟨z, _, hz⟩ := h1
              rw [← hz, oneRow_length]) (fun y hy v hv => by
              rw [hrows2.out] at hy
              simp only [rowsOf, List.mem_map] at hy
              obtain ⟨z, _, rfl⟩ := hy
              exact oneRow_bd _ _ _ v hv) (by rw [hrows.out.1]; omega))
          rw [hrows2.out] at hadd
          clear hrr
          go_wp2_with fail
          refine hadd.out.mono ?_
          rintro e w1 ⟨A1, c1, rfl, hr1, hf1, hb1⟩
          have hfin : Hid (IntsOut (addL (rowsOf (l.map LdM.r) ss N) N) w (.returned (.slice A1 (addL (rowsOf (l.map LdM.r) ss N) N).length c1)) w1) :=
            ⟨A1, c1, rfl, hr1, fun ad e => Nat.le_trans hBw.size (hf1 ad e), hBw.trans (hb1.mono hBw.size)⟩
          clear hr1 hf1 hb1
          go_wp2_with fail
          go_ret
          exact hfin.out
end Go.Proofs.Ytnppngaabfhkpaa
namespace Go.Proofs.Ytnppngaabfhkpaa
open Go.RowKit
attribute [local go_sem ↓] Go.wp_at_zero Go.wp_at_succ
theorem cell_below {p : Addr} {x : Value} {W W' : World} (h : W.cell? p = some x) (hb : Below W.heap.size W W') : W'.cell? p = some x := (hb.cell (World.block_lt_of_cell? _ _ h)).trans h
end Go.Proofs.Ytnppngaabfhkpaa
namespace Go.Proofs.Ytnppngaabfhkpaa
open Go.RowKit
theorem take_succ_eq {α : Type} {xs ys : List α} {k : Nat} (hx : k < xs.length) (hy : k < ys.length) (h : xs.take k = ys.take k) (e : xs[k] = ys[k]) : xs.take (k + 1) = ys.take (k + 1) := by
  rw [List.take_succ_eq_append_getElem hx, List.take_succ_eq_append_getElem hy, h, e]
set_option maxRecDepth 100000 in
set_option maxHeartbeats 1000000 in
theorem equal_any (A B : Option Addr) (c d : Nat) (xs ys : List Int) (w : World) (hx : RInts w A xs) (hy : RInts w B ys) (h1 : xs.length < 1000000000) :
    Calls Try.prog 123 #[.slice A xs.length c, .slice B ys.length d] w fun e w' => e = .returned (.bool (decide (xs = ys))) ∧ Below w.heap.size w w' := by
  by_cases hl : xs.length = ys.length
  · generalize hn : ys.length = n at *
    have HL := Lib.hid hl
    have HN := Lib.hid hn
    rw [hl] at h1
    rw [hl]
    clear hl hn
    go_enter Try.func123, Try.ntmps123
    go_wp2_with fail
    go_loopw [5] (fun i wr => ∃ k : Nat, k ≤ n ∧ i = .int .i64 k ∧ xs.take k = ys.take k ∧ Below w.heap.size w wr)
      (fun i _ => n - (intOf i).toNat)
    case atStart => exact ⟨0, by omega, rfl, rfl, Below.refl _ _⟩
    case round =>
      obtain ⟨k, hk, rfl, hsame, hB⟩ := hrel
      have HSAME := Lib.hid hsame
      clear hsame
      by_cases hlt : k < n
      · have hkx : k < xs.length := by have := HL.out; omega
        have hky : k < ys.length := by have := HN.out; omega
        obtain ⟨a, rfl, hab, hac⟩ := hx.at_ hkx
        obtain ⟨b, rfl, hbb, hbc⟩ := hy.at_ hky
        have hac' : wr.cell? (a.add k) = some (.int .i64 xs[k]) := (hB.cell (by rw [block_of_add]; exact hab)).trans hac
        have hbc' : wr.cell? (b.add k) = some (.int .i64 ys[k]) := (hB.cell (by rw [block_of_add]; exact hbb)).trans hbc
        clear hac hbc
        by_cases he : xs[k] = ys[k]
        · have HT := Lib.hid (take_succ_eq hkx hky HSAME.out he)
          have hne : (xs[k] != ys[k]) = false := by simp [he]
          clear he
          generalize xs[k] = x at *
          generalize ys[k] = y at *
          go_wp2_with fail
          go_quiet (fail)
          go_wp2
          go_roundw
          case rel => exact ⟨k + 1, by omega, by go_num, HT.out, below_drewN hB _⟩
          case measure => simp [intOf]; omega
        · have HE : Hid (false = decide (xs = ys)) := by
            show _ = _
            symm
            rw [decide_eq_false_iff_not]
            intro h
            subst h
            exact he rfl
          have hne : (xs[k] != ys[k]) = true := by simp [he]
          clear he
          generalize xs[k] = x at *
          generalize ys[k] = y at *
          go_wp2_with fail
          go_quiet (fail)
          go_wp2
          go_ret
          exact ⟨ret_bool HE.out, below_drewN hB _⟩
      · have hkn : k = n := by omega
        have HE : Hid (true = decide (xs = ys)) := by
          show _ = _
          symm
          rw [decide_eq_true_iff]
          have h := HSAME.out
          rwa [List.take_of_length_le (by rw [HL.out]; omega), List.take_of_length_le (by rw [HN.out]; omega)] at h
        clear hkn
        go_wp2
        go_ret
        exact ⟨ret_bool HE.out, hB⟩
  · have hne : ((xs.length : Int) != (ys.length : Int)) = true := by rw [bne_iff_ne]; omega
    have HL := Lib.hid hl
    clear hl
    go_enter Try.func123, Try.ntmps123
    go_wp2_with fail
    go_ret
    exact ⟨ret_bool (by symm; rw [decide_eq_false_iff_not]; intro h; exact HL.out (by rw [h])), Below.refl _ _⟩
theorem RInts.none {w : World} {l : List Int} (h : RInts w none l) : l = [] := by
  rcases Nat.eq_zero_or_pos l.length with h0 | h0
  · exact List.eq_nil_of_length_eq_zero h0
  · obtain ⟨_, e, _⟩ := h.2 h0
    cases e
set_option maxRecDepth 100000 in
set_option maxHeartbeats 2000000 in
theorem lsame_any (a b : Ld) (A B : Option Addr) (c d : Nat) (w : World) (hA0 : RInts w A a.prof) (hB0 : RInts w B b.prof) (hl : a.prof.length < 1000000000) (hab : a = b) :
    Calls Try.prog 87 #[a.v A c, b.v B d] w fun e w' => e = .returned (.bool true) ∧ Below w.heap.size w w' := by
  subst hab
  have hA := Lib.hid hA0
  have hB := Lib.hid hB0
  have he : Hid (∀ W, RInts W A a.prof → RInts W B a.prof → Calls Try.prog 123 #[.slice A a.prof.length c, .slice B a.prof.length d] W fun e w' => e = .returned (.bool true) ∧ Below W.heap.size W w') := by
    intro W h1 h2
    have h := equal_any A B c d a.prof a.prof W h1 h2 hl
    rwa [show decide (a.prof = a.prof) = true by simp] at h
  simp only [Ld.v]
  clear hA0 hB0
  go_enter Try.func87, Try.ntmps87
  go_wp2_with fail
  refine (he.out _ ((hA.out.alloc _).alloc _) ((hB.out.alloc _).alloc _)).mono ?_
  rintro e w1 ⟨rfl, hb1⟩
  have hB1 : Hid (Below w.heap.size w w1) := (((Below.refl _ _).alloc (Nat.le_refl _) _).alloc (by simp) _).trans (hb1.mono (by simp; omega))
  go_wp2_with fail
  go_ret
  exact ⟨rfl, hB1.out⟩
end Go.Proofs.Ytnppngaabfhkpaa
