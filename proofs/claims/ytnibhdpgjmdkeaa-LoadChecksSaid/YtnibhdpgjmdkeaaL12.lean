/-
  The walks of layer 41 (load): All of the program.
-/
import Derived.Test.YtnibhdpgjmdkeaaL11
import Derived.Test.YtnibhdpgjmdkeaaLP5
namespace Go.Proofs.Ytnibhdpgjmdkeaa
open Go.RowKit

theorem str_ne {a b : ByteArray} (h : a ≠ b) : (a.toList == b.toList) = false := by
  rw [beq_eq_false_iff_ne]
  intro e
  rw [ByteArray.toList_eq, ByteArray.toList_eq] at e
  exact h (ByteArray.ext (Array.ext' e))

set_option maxHeartbeats 4000000 in
theorem lall_any (A : Option Addr) (c : Nat) (l : List LdM) (n : Int) (w : World) (hA0 : RLoads w A l) (hnm : ∀ x ∈ l, x.r.name.size ≤ maxLen) (hpl : ∀ x ∈ l, x.r.prof.length < 1000000000) (hc : l.length ≤ c) :
    Calls Try.prog 29 #[.slice A l.length c, .int .i64 n] w fun e w' => e = .returned (.int .i64 (allChk (l.map LdM.r) n)) ∧ Below w.heap.size w w' := by
  have hA := Lib.hid hA0
  clear hA0
  obtain ⟨m, hn⟩ : ∃ m, m = l.length := ⟨_, rfl⟩
  have HN := Lib.hid hn
  rw [← hn] at hc ⊢
  by_cases h8 : (4 : Int) < (m : Int)
  · have hz : Hid (allChk (l.map LdM.r) n = 3) := by show _ = _; unfold allChk; rw [if_pos (by simp; omega)]
    clear hn
    go_enter Try.func29, Try.ntmps29
    go_wp2_with fail
    go_ret
    exact ⟨ret_int hz.out.symm, Below.refl _ _⟩
  · clear hn
    go_enter Try.func29, Try.ntmps29
    go_wp2_with fail
    go_loopw [15] (fun i' wr => ∃ k : Nat, k ≤ m ∧ i' = .int .i64 k ∧ Hid (allTo (l.map LdM.r) n k = 0) ∧ Below w.heap.size w wr)
      (fun i' _ => m - (intOf i').toNat)
    case atStart => exact ⟨0, by omega, rfl, rfl, Below.refl _ _⟩
    case round =>
      obtain ⟨k, hkm, rfl, hto, hB⟩ := hrel
      by_cases hlt : k < m
      · have hkl : k < l.length := by rw [← HN.out]; exact hlt
        have hkR : k < (l.map LdM.r).length := by rw [List.length_map]; exact hkl
        have hR : (l.map LdM.r)[k] = l[k].r := by simp
        have HL := Lib.hid (hA.out.below hB)
        obtain ⟨b, of, hAe, hb, z0, z1, z2, z3⟩ := HL.out.at' hkl
        subst hAe
        have hprof := Lib.hid (HL.out.prof hkl)
        have hck := Lib.hid (fun W (h : RInts W l[k].A l[k].r.prof) => lcheck_any l[k].r l[k].A l[k].c n W h (hnm _ (List.getElem_mem hkl)) (hpl _ (List.getElem_mem hkl)))
        simp only [Ld.v] at hck
        have HR := Lib.hid hR
        clear hR
        have hlen := hpl _ (List.getElem_mem hkl)
        generalize l[k] = x at *
        by_cases he : x.r.chk n = 0
        · rw [he] at hck
          have hE : Hid ((l.map LdM.r)[k].chk n = 0) := by show _ = _; rw [HR.out]; exact he
          clear he
          go_wp2_with fail
          refine (hck.out _ (hprof.out.alloc _)).mono ?_
          rintro e w1 ⟨rfl, hb1⟩
          have hS := lds_first (r := x.r) (A := x.A) (c := x.c) hb1
          obtain ⟨y0, y1, y2, y3⟩ := hS.cells
          have hsz := hS.size
          have hBw := hB.size
          clear hb1 z0 z1 z2 z3
          go_wp2_with fail
          clear y0 y1 y2 y3
          obtain ⟨wo, hwo⟩ : ∃ wo : World, wo = wr := ⟨_, rfl⟩
          subst hwo
          go_loopw [30] (fun i' wr => ∃ j : Nat, j ≤ k ∧ i' = .int .i64 j ∧ Hid (¬ dupTo (l.map LdM.r) k j) ∧ LdS x.r x.A x.c wo wr)
            (fun i' _ => k - (intOf i').toNat)
          case atStart => exact ⟨0, by omega, rfl, dupTo_zero _ _, hS⟩
          case round =>
            obtain ⟨j, hjk, rfl, hdup, hSj⟩ := hrel
            have hszj := hSj.size
            have hltw : wo.heap.size < wr.heap.size := by omega
            have hnew : ∀ o, (wr.alloc o).cell? ⟨wo.heap.size, 0, none⟩ = wr.cell? ⟨wo.heap.size, 0, none⟩ := fun o => World.cell?_alloc_lt wr o _ hltw
            obtain ⟨y0, y1, y2, y3⟩ := hSj.cells
            by_cases hlj : j < k
            · have hjl : j < l.length := by omega
              have hjR : j < (l.map LdM.r).length := by rw [List.length_map]; exact hjl
              have HLj := Lib.hid (HL.out.below hSj.out)
              obtain ⟨b', of', hAe', hb', z0, z1, z2, z3⟩ := HLj.out.at' hjl
              injection hAe' with hAe'
              injection hAe' with h1 h2
              subst h1 h2
              have hdn := Lib.hid (dupTo_succ hkR hjR hdup.out)
              have hRj : Hid ((l.map LdM.r)[j].name = l[j].r.name) := by show _ = _; simp
              have hlenj := hpl _ (List.getElem_mem hjl)
              by_cases hnn : l[j].r.name = x.r.name
              · have hz : Hid (allChk (l.map LdM.r) n = 9) := by
                  have h9 := loadErr_dup hkR hE.out hlj (by rw [hRj.out, HR.out]; exact hnn)
                  show _ = _
                  rw [allTo_hit hto.out (by rw [h9]; decide) hkR (by rw [List.length_map, ← HN.out]; omega), h9]
                rw [hnn] at z0
                clear hnn hdn hRj
                generalize l[j] = v at *
                go_wp2_with fail
                go_ret
                exact ⟨ret_int hz.out.symm, hB.trans (((hSj.out).alloc (by omega) _).mono hB.size)⟩
              · have hd' : Hid (¬ dupTo (l.map LdM.r) k (j + 1)) := hdn.out (by rw [hRj.out, HR.out]; exact hnn)
                have hne := str_ne (fun h : x.r.name = l[j].r.name => hnn h.symm)
                clear hnn hdn hRj
                generalize l[j] = v at *
                go_wp2_with fail
                go_roundw
                case rel => exact ⟨j + 1, by omega, by go_num, hd', hSj.mk' ((Below.refl _ _).alloc (Nat.le_refl _) _)⟩
                case measure => simp [intOf]; omega
            · have hz : Hid (allTo (l.map LdM.r) n (k + 1) = 0) := by
                obtain rfl : j = k := by omega
                exact allTo_go hto.out (loadErr_ok hkR hE.out hdup.out)
              go_wp2_with fail
              go_roundw
              case rel => exact ⟨k + 1, by omega, by go_num, hz, hB.trans (hSj.out.mono hB.size)⟩
              case measure => simp [intOf]; omega
        · have hz : Hid (allChk (l.map LdM.r) n = x.r.chk n) := by
            have he' : (l.map LdM.r)[k].chk n ≠ 0 := by rw [HR.out]; exact he
            have h9 := loadErr_bad hkR he'
            show _ = _
            rw [allTo_hit hto.out (by rw [h9]; exact he') hkR (by rw [List.length_map, ← HN.out]; omega), h9, HR.out]
          have hne : (x.r.chk n != 0) = true := by simpa using he
          clear he
          generalize x.r.chk n = e0 at *
          go_wp2_with fail
          refine (hck.out _ (hprof.out.alloc _)).mono ?_
          rintro e w1 ⟨rfl, hb1⟩
          have hS := lds_first (r := x.r) (A := x.A) (c := x.c) hb1
          clear hb1 z0 z1 z2 z3
          go_wp2_with fail
          go_ret
          exact ⟨ret_int hz.out.symm, hB.trans (hS.out.mono hB.size)⟩
      · have hz : Hid (allChk (l.map LdM.r) n = 0) := by
          show _ = _
          unfold allChk
          rw [if_neg (by rw [List.length_map, ← HN.out]; omega), List.length_map, ← HN.out, show m = k by omega]
          exact hto.out
        go_wp2_with fail
        go_ret
        exact ⟨ret_int hz.out.symm, hB⟩
end Go.Proofs.Ytnibhdpgjmdkeaa
