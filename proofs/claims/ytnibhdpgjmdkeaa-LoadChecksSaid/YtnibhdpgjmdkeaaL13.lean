/-
  The walks of layer 41 (load): All of the reference.
-/
import Derived.Test.YtnibhdpgjmdkeaaL12
namespace Go.Proofs.Ytnibhdpgjmdkeaa
open Go.RowKit

set_option maxHeartbeats 4000000 in
theorem rlall_any (A : Option Addr) (c : Nat) (l : List LdM) (n : Int) (w : World) (hA0 : RLoads w A l) (hnm : ∀ x ∈ l, x.r.name.size ≤ maxLen) :
    Calls Try.prog 30 #[.slice A l.length c, .int .i64 n] w fun e w' => e = .returned (.int .i64 (allChk (l.map LdM.r) n)) ∧ Below w.heap.size w w' := by
  have hA := Lib.hid hA0
  clear hA0
  obtain ⟨m, hn⟩ : ∃ m, m = l.length := ⟨_, rfl⟩
  have HN := Lib.hid hn
  rw [← hn]
  by_cases h8 : (4 : Int) < (m : Int)
  · have hz : Hid (allChk (l.map LdM.r) n = 3) := by show _ = _; unfold allChk; rw [if_pos (by simp; omega)]
    clear hn
    go_enter Try.func30, Try.ntmps30
    go_wp2_with fail
    go_ret
    exact ⟨ret_int hz.out.symm, Below.refl _ _⟩
  · clear hn
    go_enter Try.func30, Try.ntmps30
    go_wp2_with fail
    go_loopw [5] (fun i' wr => ∃ k : Nat, k ≤ m ∧ i' = .int .i64 k ∧ Hid (allTo (l.map LdM.r) n k = 0) ∧ Below w.heap.size w wr)
      (fun i' _ => m - (intOf i').toNat)
    case atStart => exact ⟨0, by omega, rfl, rfl, Below.refl _ _⟩
    case round =>
      obtain ⟨k, hkm, rfl, hto, hB⟩ := hrel
      by_cases hlt : k < m
      · have hkl : k < l.length := by rw [← HN.out]; exact hlt
        have hkR : k < (l.map LdM.r).length := by rw [List.length_map]; exact hkl
        have hR : (l.map LdM.r)[k] = l[k].r := by simp
        have HL := Lib.hid (hA.out.below hB)
        obtain ⟨b, of, hAe, hb, z0, z1, z2, z3⟩ := HL.out.at' hkl
        subst hAe
        have hprof := Lib.hid (HL.out.prof hkl)
        have hck := Lib.hid (fun W (h : RInts W l[k].A l[k].r.prof) => rlcheck_any l[k].r l[k].A l[k].c n W h (hnm _ (List.getElem_mem hkl)))
        simp only [Ld.v] at hck
        have HR := Lib.hid hR
        clear hR
        have hBw := hB.size
        generalize l[k] = x at *
        by_cases he : x.r.chk n = 0
        · rw [he] at hck
          have hE : Hid ((l.map LdM.r)[k].chk n = 0) := by show _ = _; rw [HR.out]; exact he
          clear he
          go_wp2_with fail
          refine (hck.out _ hprof.out).mono ?_
          rintro e w1 ⟨rfl, hb1⟩
          have hk1 := (bcell hb1).1
          have y0 : w1.cell? ⟨b, of + k * 4, none⟩ = some (.string x.r.name) := (hk1 _ _ hb).trans z0
          have HL1 := Lib.hid (HL.out.below hb1)
          have hB1 : Below w.heap.size w w1 := hB.trans (hb1.mono hBw)
          clear hb1 z0 z1 z2 z3 hk1
          go_wp2_with fail
          clear y0
          go_loopw [6] (fun i' wr => ∃ j a : Nat, j ≤ k ∧ i' = .int .i64 j ∧ Hid (¬ dupTo (l.map LdM.r) k j) ∧ wr = w1.drewN a)
            (fun i' _ => k - (intOf i').toNat)
          case atStart => exact ⟨0, 0, by omega, rfl, dupTo_zero _ _, rfl⟩
          case round =>
            obtain ⟨j, a, hjk, rfl, hdup, rfl⟩ := hrel
            obtain ⟨b', of', hAe', hb', y0, _, _, _⟩ := HL1.out.at' hkl
            injection hAe' with hAe'
            injection hAe' with h1 h2
            subst h1 h2
            by_cases hlj : j < k
            · have hjl : j < l.length := by omega
              have hjR : j < (l.map LdM.r).length := by rw [List.length_map]; exact hjl
              obtain ⟨b', of', hAe', hb', z0, z1, z2, z3⟩ := HL1.out.at' hjl
              injection hAe' with hAe'
              injection hAe' with h1 h2
              subst h1 h2
              have hdn := Lib.hid (dupTo_succ hkR hjR hdup.out)
              have hRj : Hid ((l.map LdM.r)[j].name = l[j].r.name) := by show _ = _; simp
              have i1 : (0 : Int) ≤ (j : Int) := by omega
              have i2 : (j : Int) < (m : Int) := by omega
              have i3 : (0 : Int) ≤ (k : Int) := by omega
              have i4 : (k : Int) < (m : Int) := by omega
              have y0' : w1.cell? ⟨b, of + k * 4, none⟩ = some (.string x.r.name) := by rw [y0]; congr 2; have := HR.out; rw [← HR.out]; simp
              clear y0
              by_cases hnn : l[j].r.name = x.r.name
              · have hz : Hid (allChk (l.map LdM.r) n = 9) := by
                  have h9 := loadErr_dup hkR hE.out hlj (by rw [hRj.out, HR.out]; exact hnn)
                  show _ = _
                  rw [allTo_hit hto.out (by rw [h9]; decide) hkR (by rw [List.length_map, ← HN.out]; omega), h9]
                rw [hnn] at z0
                clear hnn hdn hRj z1 z2 z3
                generalize l[j] = v at *
                go_wp2_with fail
                go_quiet (fail)
                go_wp2_with fail
                go_ret
                exact ⟨ret_int hz.out.symm, below_drewN (below_drewN hB1 _) _⟩
              · have hd' : Hid (¬ dupTo (l.map LdM.r) k (j + 1)) := hdn.out (by rw [hRj.out, HR.out]; exact hnn)
                have hne := str_ne hnn
                clear hnn hdn hRj z1 z2 z3
                generalize l[j] = v at *
                go_wp2_with fail
                go_quiet (fail)
                go_wp2_with fail
                go_roundw
                case rel => exact ⟨j + 1, _, by omega, by go_num, hd', rfl⟩
                case measure => simp [intOf]; omega
            · have hz : Hid (allTo (l.map LdM.r) n (k + 1) = 0) := by
                obtain rfl : j = k := by omega
                exact allTo_go hto.out (loadErr_ok hkR hE.out hdup.out)
              clear y0
              go_wp2_with fail
              go_roundw
              case rel => exact ⟨k + 1, by omega, by go_num, hz, below_drewN hB1 _⟩
              case measure => simp [intOf]; omega
        · have hz : Hid (allChk (l.map LdM.r) n = x.r.chk n) := by
            have he' : (l.map LdM.r)[k].chk n ≠ 0 := by rw [HR.out]; exact he
            have h9 := loadErr_bad hkR he'
            show _ = _
            rw [allTo_hit hto.out (by rw [h9]; exact he') hkR (by rw [List.length_map, ← HN.out]; omega), h9, HR.out]
          have hne : (x.r.chk n != 0) = true := by simpa using he
          clear he
          generalize x.r.chk n = e0 at *
          go_wp2_with fail
          refine (hck.out _ hprof.out).mono ?_
          rintro e w1 ⟨rfl, hb1⟩
          obtain ⟨hk1, _⟩ := bcell hb1
          have y0 := (hk1 _ _ hb).trans z0
          have y1 := (hk1 _ _ hb).trans z1
          have y2 := (hk1 _ _ hb).trans z2
          have y3 := (hk1 _ _ hb).trans z3
          have hp1 := Lib.hid (hprof.out.below hb1)
          have hB1 : Below w.heap.size w w1 := hB.trans (hb1.mono hBw)
          clear hb1 z0 z1 z2 z3 hk1
          go_wp2_with fail
          refine (hck.out _ hp1.out).mono ?_
          rintro e w2 ⟨rfl, hb2⟩
          go_wp2_with fail
          go_ret
          exact ⟨ret_int hz.out.symm, hB1.trans (hb2.mono hB1.size)⟩
      · have hz : Hid (allChk (l.map LdM.r) n = 0) := by
          show _ = _
          unfold allChk
          rw [if_neg (by rw [List.length_map, ← HN.out]; omega), List.length_map, ← HN.out, show m = k by omega]
          exact hto.out
        go_wp2_with fail
        go_ret
        exact ⟨ret_int hz.out.symm, hB⟩
end Go.Proofs.Ytnibhdpgjmdkeaa
