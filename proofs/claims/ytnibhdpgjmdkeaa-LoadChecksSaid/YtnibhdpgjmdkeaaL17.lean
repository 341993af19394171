/-
  The walk of Uses of the reference (layer 41).
-/
import Derived.Test.YtnibhdpgjmdkeaaL16
import Derived.Deep.RegionHeld3
import Derived.Deep.DrawnRows
namespace Go.Proofs.Ytnibhdpgjmdkeaa
open Go.RowKit
attribute [local go_sem ↓] Go.wp_at_zero Go.wp_at_succ

theorem cell_below {p : Addr} {x : Value} {W W' : World} (h : W.cell? p = some x) (hb : Below W.heap.size W W') : W'.cell? p = some x := (hb.cell (World.block_lt_of_cell? _ _ h)).trans h
theorem slots_lt {n : Int} {i : Nat} (h : i < slotsN n) : (i : Int) < n ∧ (i : Int) < 96 := by
  unfold slotsN at h
  split at h
  · omega
  · split at h <;> omega
theorem slots_end {n : Int} {i : Nat} (h : i = slotsN n) : ¬ (i : Int) < n ∨ ((i : Int) < n ∧ ¬ (i : Int) < 96) := by
  unfold slotsN at h
  split at h
  · omega
  · split at h <;> omega

set_option maxHeartbeats 8000000 in
theorem rluses_any (A B : Option Addr) (c d : Nat) (l : List LdM) (ss : List Int) (n : Int) (w : World) (hA0 : RLoads w A l) (hB0 : RInts w B ss) (hpl0 : ∀ x ∈ l, x.r.prof.length < 1000000000)
    (hss0 : ∀ s ∈ ss, -9223372036854775808 ≤ s ∧ s ≤ 9223372036854775807) (hm : l.length ≤ 1000000) :
    Calls Try.prog 23 #[.slice A l.length c, .slice B ss.length d, .int .i64 n] w (IntsOut (usesL (l.map LdM.r) ss n) w) := by
  have hA := Lib.hid hA0
  have hB := Lib.hid hB0
  have hss := Lib.hid hss0
  have hpl := Lib.hid hpl0
  have hN0 := slotsN_le n
  have hlt := Lib.hid (fun i => slots_lt (n := n) (i := i))
  have hend := Lib.hid (fun i => slots_end (n := n) (i := i))
  have hbd := Lib.hid (useTo_bd (l.map LdM.r) ss)
  have hgoal : Hid (usesL (l.map LdM.r) ss n = (List.range (slotsN n)).map fun (i : Nat) => useTo (l.map LdM.r) ss i (min l.length ss.length)) := by show _ = _; simp [usesL]
  rw [hgoal.out]
  clear hA0 hB0 hss0 hpl0 hgoal
  generalize slotsN n = N at *
  obtain ⟨i0, hi, hz0, hz1, hz2⟩ := info_parts Try.infoInt
  obtain ⟨p, hp⟩ : ∃ p, p = l.length := ⟨_, rfl⟩
  obtain ⟨q, hq⟩ : ∃ q, q = ss.length := ⟨_, rfl⟩
  rw [← hp] at hm ⊢
  rw [← hq]
  have HP := Lib.hid hp
  have HQ := Lib.hid hq
  clear hp hq
  obtain ⟨M, hM⟩ : ∃ M, M = min p q := ⟨_, rfl⟩
  have hMp : M ≤ p := by omega
  have hMq : M ≤ q := by omega
  have HM := Lib.hid hM
  rw [← hM]
  clear hM
  go_enter Try.func23, Try.ntmps23
  go_wp2_with fail
  go_loopw [7, 8] (fun v i' wr => ∃ i : Nat, i ≤ N ∧ i' = .int .i64 i ∧ wr.ownsRow w.heap.size 3 1 v i (ints ((List.range i).map fun (i : Nat) => useTo (l.map LdM.r) ss i M)) ∧ Below w.heap.size w wr)
    (fun _ i' _ => N - (intOf i').toNat)
  case atStart => exact ⟨0, by omega, rfl, World.ownsRow_nil _ _ _ _, Below.refl _ _⟩
  case round =>
    obtain ⟨i, hiN, rfl, hown0, hBw⟩ := hrel
    have hown := Lib.hid hown0
    clear hown0
    obtain ⟨wo, hwo⟩ : ∃ wo : World, wo = wr := ⟨_, rfl⟩
    subst hwo
    by_cases hiN2 : i < N
    · obtain ⟨t1, t2⟩ := hlt.out i hiN2
      go_wp2_with fail
      go_loopw [9, 10] (fun s' i' wr => ∃ k : Nat, k ≤ M ∧ i' = .int .i64 k ∧ s' = .int .i64 (useTo (l.map LdM.r) ss i k) ∧ Below wo.heap.size wo wr)
        (fun _ i' _ => M - (intOf i').toNat)
      case atStart => exact ⟨0, by omega, rfl, by rw [useTo_zero], Below.refl _ _⟩
      case round =>
        obtain ⟨k, hkM, rfl, rfl, hBk⟩ := hrel
        obtain ⟨b1, b2⟩ := hbd.out i k
        by_cases hlt2 : k < M
        · have hkp : k < l.length := by rw [← HP.out]; omega
          have hkq : k < ss.length := by rw [← HQ.out]; omega
          have hB6 : Below w.heap.size w wr := hBw.trans (hBk.mono hBw.size)
          have HL := Lib.hid (hA.out.below hB6)
          obtain ⟨bs, os, hBe, hbs, y0⟩ := (hB.out.below hB6).at' hkq
          subst hBe
          obtain ⟨b, of, hAe, hb, z0, z1, z2, z3⟩ := HL.out.at' hkp
          subst hAe
          have hsb := hss.out _ (List.getElem_mem hkq)
          have hsu := useTo_succ (ls := l.map LdM.r) (ss := ss) (k := k) (by simpa using hkp) hkq i
          rw [List.getElem_map] at hsu
          have HU := Lib.hid hsu
          have hub := l[k].r.use_bd ss[k] i
          have huse := Lib.hid (fun W (h : RInts W l[k].A l[k].r.prof) => rluse_any l[k].r l[k].A l[k].c ss[k] i W h (hpl.out _ (List.getElem_mem hkp)) hsb.1 hsb.2 (by omega) (by omega))
          simp only [Ld.v] at huse
          have HPR := Lib.hid (HL.out.prof hkp)
          clear hsu
          generalize ss[k] = s at *
          generalize l[k] = x at *
          generalize x.r.use s i = u at *
          generalize useTo (l.map LdM.r) ss i k = a at *
          have HK : Hid (∀ W, Below wr.heap.size wr W → Below wr.heap.size wr W ∧ W.cell? ⟨b, of + k * 4, none⟩ = some (.string x.r.name) ∧ W.cell? ⟨b, of + k * 4 + 1, none⟩ = some (.slice x.A x.r.prof.length x.c) ∧ W.cell? ⟨b, of + k * 4 + 2, none⟩ = some (.int .i64 x.r.early) ∧ W.cell? ⟨b, of + k * 4 + 3, none⟩ = some (.int .i64 x.r.late) ∧ W.cell? ⟨bs, os + k, none⟩ = some (.int .i64 s)) := fun W hb => ⟨hb, cell_below z0 hb, cell_below z1 hb, cell_below z2 hb, cell_below z3 hb, cell_below y0 hb⟩
          have i1 : (0 : Int) ≤ (k : Int) := by omega
          have i2 : (k : Int) < (p : Int) := by omega
          have i3 : (k : Int) < (q : Int) := by omega
          have w1 : IntKind.i64.wrap (a + u) = a + u := IntWalk.i64_in _ (by omega)
          clear z0 z1 z2 z3 y0
          go_wp2_with fail
          go_region_held3 (fun w' => Below wr.heap.size wr w' ∧ w'.cell? ⟨b, of + k * 4, none⟩ = some (.string x.r.name) ∧ w'.cell? ⟨b, of + k * 4 + 1, none⟩ = some (.slice x.A x.r.prof.length x.c) ∧ w'.cell? ⟨b, of + k * 4 + 2, none⟩ = some (.int .i64 x.r.early) ∧ w'.cell? ⟨b, of + k * 4 + 3, none⟩ = some (.int .i64 x.r.late) ∧ w'.cell? ⟨bs, os + k, none⟩ = some (.int .i64 s))
            (first | exact HK.out _ (Below.refl _ _) | exact HK.out _ (Below.drew (Below.refl _ _)) | exact HK.out _ (Below.drew (by assumption)) | exact HK.out _ (Below.drew (And.left (by assumption))) | exact HK.out _ (Below.trans (by first | assumption | exact And.left (by assumption) | exact Below.refl _ _ | exact Below.drew (Below.refl _ _) | exact Below.drew (by assumption) | exact Below.drew (And.left (by assumption))) (Below.mono (by assumption) (Below.size (by first | assumption | exact And.left (by assumption) | exact Below.refl _ _ | exact Below.drew (Below.refl _ _) | exact Below.drew (by assumption) | exact Below.drew (And.left (by assumption)))))))
            (first | (go_at_call 19; refine (huse.out _ (HPR.out.below (by first | assumption | exact And.left (by assumption) | exact Below.refl _ _ | exact Below.drew (Below.refl _ _) | exact Below.drew (by assumption) | exact Below.drew (And.left (by assumption))))).mono ?_; rintro e w6 ⟨rfl, hb6⟩))
          go_wp2_with fail
          go_roundw
          case rel => exact ⟨k + 1, by omega, by go_num, by rw [HU.out], hBk.trans (Below.mono (by first | assumption | exact And.left (by assumption) | exact Below.refl _ _ | exact Below.drew (Below.refl _ _) | exact Below.drew (by assumption) | exact Below.drew (And.left (by assumption))) hBk.size)⟩
          case measure => simp [intOf]; omega
        · obtain rfl : k = M := by omega
          have hown1 := Lib.hid (own_below hown.out hBk)
          have hsz := hBk.size
          have hsz2 := hBw.size
          have hcs : ¬ (k : Int) < (p : Int) ∨ ((k : Int) < (p : Int) ∧ ¬ (k : Int) < (q : Int)) := by have := HM.out; omega
          have hsn : Hid (ints ((List.range (i + 1)).map fun (i : Nat) => useTo (l.map LdM.r) ss i k) = ints ((List.range i).map fun (i : Nat) => useTo (l.map LdM.r) ss i k) ++ [.int .i64 (useTo (l.map LdM.r) ss i k)]) := by
            show _ = _
            rw [List.range_succ, List.map_append, ints_append]; rfl
          generalize useTo (l.map LdM.r) ss i k = a at *
          rcases hcs with q1 | ⟨q1, q2⟩
          all_goals
            go_wp2_with (at_builtin; refine wpList_append_new _ _ rfl _ _ 22 rfl w.heap.size 3 i0 (.int .i64 0) 1 8 Try.underlying22 hi hz0 hz1 hz2 rfl (by decide) (by decide) _ _ _ rfl hown1.out #[.int .i64 a] rfl (one_int _ _) rfl rfl (by omega) (by omega) ?_)
            intro v' w5 hown5 hb5
            have hown6 : Hid (w5.ownsRow w.heap.size 3 1 v' (i + 1) (ints ((List.range (i + 1)).map fun (i : Nat) => useTo (l.map LdM.r) ss i k))) := by
              show World.ownsRow _ _ _ _ _ _ _
              rw [hsn.out]; exact hown5
            have hB5 : Hid (Below w.heap.size w w5) := (hBw.trans (hBk.mono hsz2)).trans hb5
            clear hown5 hb5
            go_wp2_with fail
            go_roundw
            case rel => exact ⟨i + 1, by omega, by go_num, hown6.out, hB5.out⟩
            case measure => simp [intOf]; omega
    · obtain rfl : i = N := by omega
      have hcs := hend.out i rfl
      have hfin := Lib.hid (ints_out hown.out (Nat.le_refl _) hBw)
      rcases hcs with q1 | ⟨q1, q2⟩
      all_goals
        go_wp2_with fail
        go_ret
        exact hfin.out
end Go.Proofs.Ytnibhdpgjmdkeaa
