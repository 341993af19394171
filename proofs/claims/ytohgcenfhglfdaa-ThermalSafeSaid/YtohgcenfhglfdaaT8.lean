/-
  The walks of layer 40 (thermal), part 8: Safe of the program.
-/
import Derived.Test.YtohgcenfhglfdaaT6
import Derived.Test.YtohgcenfhglfdaaT7
import Derived.Test.YtohgcenfhglfdaaTP2
import Derived.Test.Ytohgcenfhglfdaa4Words
namespace Go.Proofs.Ytohgcenfhglfdaa
open Go.RowKit

theorem Try.infoBool : (Try.prog.info? 4).map (fun i => (i.zero, i.size, i.bytes)) = some (some (.bool false), 1, 1) := by kernel_rfl
/-- The row of falses for all temperatures. -/
def made3001 : Array Value := madeCells #[Value.bool false] 3001
theorem row3001 (w : World) (t : TypeId) : (w.alloc (.cells made3001 t)).rowIs w.heap.size t 3001 (fun _ => .bool false) := World.rowIs_made w (.bool false) 3001 t
theorem made3001_run (w : World) : (Instr.makeSlice 47 (.int .i64 3001) (.int .i64 3001)).run Try.prog w = .ok (.slice (some ⟨w.heap.size, 0, none⟩) 3001 3001) (w.alloc (.cells made3001 4)) :=
  run_make_row' (P := Try.prog) 47 4 (.bool false) 1 Try.underlying47 Try.infoBool rfl .i64 .i64 3001 (by omega) (by omega) w

/-- What the first j of a list, and h heats of the next one, lead to. -/
def accT (s : Rm) (i o : Int) (l : List Int) (j : Nat) : List Int := growAll s i o (l.take j)
theorem accT_succ {s : Rm} {i o : Int} {l : List Int} {j : Nat} (h : j < l.length) : accT s i o l (j + 1) = growT s i o l[j] (accT s i o l j) (s.steps + 1).toNat := by
  unfold accT
  rw [List.take_succ_eq_append_getElem h, growAll_snoc]
theorem growT_hit {s : Rm} {i o t : Int} {acc : List Int} {k : Nat} (h1 : s.okAt i (stepT s.gain s.loss s.steps t o k) = true) (h2 : stepT s.gain s.loss s.steps t o k ∉ growT s i o t acc k) : growT s i o t acc (k + 1) = growT s i o t acc k ++ [stepT s.gain s.loss s.steps t o k] := by
  simp only [growT]; rw [if_pos ⟨h1, h2⟩]
theorem growT_miss {s : Rm} {i o t : Int} {acc : List Int} {k : Nat} (h : s.okAt i (stepT s.gain s.loss s.steps t o k) = false ∨ stepT s.gain s.loss s.steps t o k ∈ growT s i o t acc k) : growT s i o t acc (k + 1) = growT s i o t acc k := by
  simp only [growT]
  rw [if_neg]
  rintro ⟨h1, h2⟩
  rcases h with h | h
  · rw [h1] at h; cases h
  · exact h2 h

set_option maxHeartbeats 16000000 in
theorem tsafe_any (r : Rm) (A B C : Option Addr) (c d f : Nat) (temp : Int) (l : List Int) (w : World) (hA : RInts w A r.low) (hB : RInts w B r.high) (hC : RInts w C l) :
    Calls Try.prog 22 #[r.v A c B d, .int .i64 temp, .slice C l.length f] w fun e w' => e = .returned (.int .i64 (r.valid.safe temp (outsT l))) ∧ Below w.heap.size w w' := by
  have hv := fun w' hA' hB' => valid_any r A B c d w' hA' hB'
  have hm := model_any r.valid
  have hf := r.fine
  generalize r.valid = s at *
  have hA1 : RInts (w.alloc (.cells #[.int .i64 r.gain, .int .i64 r.loss, .int .i64 r.steps, .int .i64 r.power, .slice A r.low.length c, .slice B r.high.length d] 24)) A r.low := hA.alloc _
  have hB1 : RInts (w.alloc (.cells #[.int .i64 r.gain, .int .i64 r.loss, .int .i64 r.steps, .int .i64 r.power, .slice A r.low.length c, .slice B r.high.length d] 24)) B r.high := hB.alloc _
  have ho := fun w' hC' => outside_any C f l w' hC'
  have hol := outsT_len l
  simp only [Rm.v] at hv hm ⊢
  have HV := Lib.hid hv
  have HM := Lib.hid hm
  have HA := Lib.hid hA1
  have HB := Lib.hid hB1
  have HF := Lib.hid hf
  have HO := Lib.hid ho
  have HC := Lib.hid hC
  have s0 := hf.s0
  have s1 := hf.s1
  have hl96 := hf.len1
  clear hv hm hA hB hA1 hB1 hf ho hC
  generalize outsT l = xs at *
  generalize l.length = ln at *
  have hmk := made3001_run
  obtain ⟨i0, hi, hz0, hz1, hz2⟩ := info_parts Try.infoInt
  go_enter Try.func22, Try.ntmps22
  go_wp2_with fail
  refine (HV.out _ HA.out HB.out).mono ?_
  rintro e w1 ⟨A', c', B', d', rfl, hA', hB', hb1⟩
  have hW1 : Below w.heap.size w w1 := ((Below.refl _ _).alloc (Nat.le_refl _) _).trans (hb1.mono (by simp))
  clear HA HB HV hb1
  simp only [Rm.v]
  go_wp2_with fail
  refine (HM.out _ _ _ _ _).mono ?_
  rintro e w2 ⟨rfl, hw2⟩
  subst hw2
  have hS0 : RoomS s A' c' B' d' w1 (roomW s A' c' B' d' w1) := ⟨by rw [← roomW_size (s := s) (A := A') (B := B') (c := c') (d := d')]; exact Below.refl _ _, hA', hB'⟩
  have hS1 := hS0.on (Below.alloc (Below.refl (w1.heap.size + 2) _) (by rw [roomW_size]; exact Nat.le_refl _) (.cells #[.int .i64 temp] 3))
  have hT : RInts ((roomW s A' c' B' d' w1).alloc (.cells #[.int .i64 temp] 3)) (some ⟨(roomW s A' c' B' d' w1).heap.size, 0, none⟩) [temp] := rints_lit _ _ _ rfl
  rw [roomW_size] at hT
  have HS := Lib.hid hS1
  have HT := Lib.hid hT
  have hCW := Lib.hid (HC.out.below (hW1.trans (hS1.from1.mono hW1.size)))
  clear hA' hB' hS0 hS1 hT HM
  go_wp2_with fail
  refine (HO.out _ hCW.out).mono ?_
  rintro e w2 ⟨C', f', rfl, hC', rfl⟩
  have HC' := Lib.hid hC'
  clear hC'
  obtain ⟨N, hN⟩ : ∃ N, N = xs.length := ⟨_, rfl⟩
  rw [← hN] at hol ⊢
  have HN := Lib.hid hN
  clear hN
  go_wp2_with fail
  go_loopw [9, 27] (fun now i' wr => ∃ (k : Nat) (A2 : Option Addr) (c2 : Nat), k ≤ N ∧ i' = .int .i64 k ∧ now = .slice A2 (listT s temp xs k).length c2 ∧ RInts wr A2 (listT s temp xs k) ∧ RoomS s A' c' B' d' w1 wr ∧ RInts wr C' xs ∧
      Hid (∀ x : Int, 0 ≤ x → x < (k : Int) → (listT s temp xs (x.toNat + 1)).isEmpty = false))
    (fun _ i' _ => N - (intOf i').toNat)
  case atStart => exact ⟨0, _, 1, by omega, rfl, rfl, HT.out, HS.out, HC'.out, fun x h0 h1 => by omega⟩
  case round =>
    obtain ⟨k, A2, c2, hk, rfl, rfl, hL, hS, hCr, hno⟩ := hrel
    clear HS HT hCW HC'
    obtain ⟨wo, rfl⟩ : ∃ wo : World, wo = wr := ⟨_, rfl⟩
    by_cases hlt : k < N
    · have hkx : k < xs.length := by rw [← HN.out]; exact hlt
      obtain ⟨bb, oo, hCe, hbb, hbc⟩ := hCr.at' hkx
      rw [getD_eq hkx] at hbc
      subst hCe
      have hLl := listT_len s temp xs k
      have hLs : Hid (listT s temp xs (k + 1) = accT s k (xs.getD k 0) (listT s temp xs k) (listT s temp xs k).length) := by
        show _ = _
        unfold accT
        rw [List.take_length]; rfl
      generalize xs.getD k 0 = o at *
      obtain ⟨x0, x1, x2, x3, x4, x5⟩ := hS.cells
      by_cases hin : k < s.low.length
      · have q1 : decide (s.low.length ≤ k) = false := by rw [decide_eq_false_iff_not]; omega
        go_wp2_with fail
        clear x0 x1 x2 x3 x4 x5
        generalize hLL : listT s temp xs k = L at *
        have HLL := Lib.hid hLL
        clear hLL
        obtain ⟨M, hM⟩ : ∃ M, M = L.length := ⟨_, rfl⟩
        rw [← hM] at hLl
        have HM := Lib.hid hM
        simp only [← hM]
        clear hM
        have hszo := hS.size
        go_loopw [13, 43] (fun nx i' wr => ∃ j : Nat, j ≤ M ∧ i' = .int .i64 j ∧ wr.ownsRow (wo.heap.size + 1) 3 1 nx (accT s k o L j).length (ints (accT s k o L j)) ∧
            wr.rowIs wo.heap.size 4 3001 (fun y => .bool (decide ((y : Int) - 1000 ∈ accT s k o L j))) ∧ Below wo.heap.size wo wr)
          (fun _ i' _ => M - (intOf i').toNat)
        case atStart => exact ⟨0, by omega, rfl, World.ownsRow_nil _ _ _ _, (row3001 wo 4).congr (fun y _ => by simp [accT, growAll]), (Below.refl _ _).alloc (Nat.le_refl _) _⟩
        case round =>
          obtain ⟨j, hj, rfl, hown, hrow, hBo⟩ := hrel
          obtain ⟨wj, rfl⟩ : ∃ wj : World, wj = wr := ⟨_, rfl⟩
          have hSj := hS.mk' hBo
          by_cases hltj : j < M
          · have hjL : j < L.length := by rw [← HM.out]; exact hltj
            obtain ⟨ba, oa, hAe, hab, hac⟩ := (hL.below hBo).at' hjL
            subst hAe
            have hacs := Lib.hid (accT_succ (s := s) (i := k) (o := o) hjL)
            have hfine : FineL (accT s k o L j) := growAll_fine _ _ _ _
            obtain ⟨x0, x1, x2, x3, x4, x5⟩ := hSj.cells
            generalize L[j] = t at *
            generalize accT s k o L j = ac at *
            go_wp2_with fail
            clear x0 x1 x2 x3 x4 x5
            go_loopw [13, 50] (fun nx i' wr => ∃ h : Nat, (h : Int) ≤ s.steps + 1 ∧ i' = .int .i64 h ∧ wr.ownsRow (wo.heap.size + 1) 3 1 nx (growT s k o t ac h).length (ints (growT s k o t ac h)) ∧
                wr.rowIs wo.heap.size 4 3001 (fun y => .bool (decide ((y : Int) - 1000 ∈ growT s k o t ac h))) ∧ Below wo.heap.size wo wr)
              (fun _ i' _ => (s.steps + 1).toNat - (intOf i').toNat)
            case atStart => exact ⟨0, by omega, rfl, hown, hrow, hBo⟩
            case round =>
              obtain ⟨h, hh, rfl, hown1, hrow1, hB1⟩ := hrel
              have hS1 := hS.mk' hB1
              have hf1 := growT_fine (s := s) (i := k) (o := o) (t := t) hfine h
              by_cases hlth : (h : Int) < s.steps + 1
              · have hcall := hS1.call HF.out t o h
                have HCALL := Lib.hid hcall
                have hhit := Lib.hid (growT_hit (s := s) (i := k) (o := o) (t := t) (acc := ac) (k := h))
                have hmiss := Lib.hid (growT_miss (s := s) (i := k) (o := o) (t := t) (acc := ac) (k := h))
                obtain ⟨u0, u1⟩ := stepT_bd s.gain s.loss s.steps t o h
                have hlen := hf1.len
                generalize growT s k o t ac h = a1 at *
                generalize stepT s.gain s.loss s.steps t o ↑h = u at *
                clear hcall
                go_wp2_with fail
                refine HCALL.out.mono ?_
                rintro e w3 ⟨rfl, n3, rfl⟩
                have hS3 := hS1.drewN n3
                have hB3 := below_drewN hB1 n3
                have hown3 := own_drewN hown1 n3
                have hrow3 : (wr.drewN n3).rowIs wo.heap.size 4 3001 (fun y => .bool (decide ((y : Int) - 1000 ∈ a1))) := hrow1
                clear HCALL hown1 hrow1 hB1 hS1
                generalize wr.drewN n3 = w3 at *
                obtain ⟨x0, x1, x2, x3, x4, x5⟩ := hS3.cells
                have hcomf := Lib.hid (hS3.comf HF.out k u)
                go_wp2_with fail
                refine hcomf.out.mono ?_
                clear x0 x1 x2 x3 x4 x5
                rintro e w4 ⟨rfl, hb4⟩
                have hB4 := hB3.trans (hb4.mono hB3.size)
                have hown4 := own_below hown3 hb4
                have hrow4 := row_below hrow3 hb4
                have hsz4 := hB4.size
                clear hown3 hrow3 hB3 hb4 hS3 hcomf
                generalize hok : s.okAt ↑k u = ok at *
                have hlt4 := hrow4.lt
                have hc4 := hrow4.cell (i := (u + 1000).toNat) (by omega)
                have hf4 := hrow4.frozen (u + 1000).toNat
                have hmem : decide ((((u + 1000).toNat : Nat) : Int) - 1000 ∈ a1) = decide (u ∈ a1) := by
                  rw [show (((u + 1000).toNat : Nat) : Int) - 1000 = u by omega]
                rw [hmem] at hc4
                clear hmem
                cases ok
                · have hm := Lib.hid (hmiss.out (.inl rfl))
                  go_wp2_with fail
                  go_roundw
                  case rel =>
                    refine ⟨h + 1, by omega, by go_num, ?_, ?_, hB4⟩
                    · rw [hm.out]; exact hown4
                    · rw [hm.out]; exact hrow4
                  case measure => simp [intOf]; omega
                · by_cases hin : u ∈ a1
                  · have hm := Lib.hid (hmiss.out (.inr hin))
                    rw [decide_eq_true hin] at hc4
                    clear hin
                    go_wp2_with fail
                    go_roundw
                    case rel =>
                      refine ⟨h + 1, by omega, by go_num, ?_, ?_, hB4⟩
                      · rw [hm.out]; exact hown4
                      · rw [hm.out]; exact hrow4
                    case measure => simp [intOf]; omega
                  · have hm := Lib.hid (hhit.out rfl hin)
                    rw [decide_eq_false hin] at hc4
                    clear hin
                    have hownS := ownsRow_setCell_below hown4 (a := ⟨wo.heap.size, (u + 1000).toNat, none⟩) (Nat.lt_succ_self _) (.bool true)
                    have hrowS := hrow4.set (u + 1000).toNat (.bool true)
                    have hBS := hB4.setCell (p := ⟨wo.heap.size, (u + 1000).toNat, none⟩) (Nat.le_refl _) (.bool true)
                    have hszS := hBS.size
                    go_wp2_with (at_builtin; go_loud (refine wpList_append_newH _ _ w4.heap.size (by simp) rfl _ _ 22 rfl (wo.heap.size + 1) 3 i0 (.int .i64 0) 1 8 Try.underlying22 hi hz0 hz1 hz2 rfl (by decide) (by decide) _ _ _ rfl hownS #[.int .i64 u] rfl (one_int _ _) rfl rfl (by omega) (by simp; omega) ?_))
                    intro v' w5 hown5 hb5
                    have hB5 := hBS.trans (hb5.mono (Nat.le_succ _))
                    have hrow5 := row_below' hrowS hb5 (Nat.lt_succ_self _)
                    clear hown4 hrow4 hB4 hownS hrowS hBS hb5 hc4 hf4
                    go_wp2
                    go_roundw
                    case rel =>
                      refine ⟨h + 1, by omega, by go_num, ?_, ?_, hB5⟩
                      · rw [hm.out, ints_append, List.length_append]; exact hown5
                      · refine hrow5.congr fun y hy => ?_
                        rw [hm.out]
                        by_cases hyy : y = (u + 1000).toNat
                        · rw [if_pos hyy]; congr 1; symm; rw [decide_eq_true_iff, List.mem_append]; right; simp; omega
                        · rw [if_neg hyy]; congr 1
                          rw [Bool.eq_iff_iff, decide_eq_true_iff, decide_eq_true_iff, List.mem_append]
                          constructor
                          · exact .inl
                          · rintro (h | h)
                            · exact h
                            · simp at h; omega
                    case measure => simp [intOf]; omega
              · have hkn : h = (s.steps + 1).toNat := by omega
                subst hkn
                have hend : Hid (wr.ownsRow (wo.heap.size + 1) 3 1 u13 (accT s k o L (j + 1)).length (ints (accT s k o L (j + 1))) ∧ wr.rowIs wo.heap.size 4 3001 (fun y => .bool (decide ((y : Int) - 1000 ∈ accT s k o L (j + 1))))) := by
                  show _ ∧ _
                  rw [hacs.out]
                  exact ⟨hown1, hrow1⟩
                clear hown1 hrow1
                go_wp2_with fail
                go_roundw
                case rel => exact ⟨j + 1, by omega, by go_num, hend.out.1, hend.out.2, hB1⟩
                case measure => simp [intOf]; omega
          · obtain rfl : j = M := by omega
            rw [HM.out] at hown
            have hLs' := Lib.hid (show listT s temp xs (k + 1) = accT s k o L L.length from hLs.out)
            rw [← hLs'.out] at hown
            obtain ⟨A3, c3, rfl, hr3, _⟩ := ints_own hown
            clear hown hrow
            have hCj := hCr.below hBo
            by_cases hem : (listT s temp xs (k + 1)).length = 0
            · have hret : Hid (s.safe temp xs = (k : Int)) := by
                show _ = _
                unfold Rm.safe
                refine holdTo_hit (k := k) ?_ hno.out (by rw [← HN.out]; exact hlt)
                rw [Int.toNat_natCast, List.isEmpty_iff]
                exact List.eq_nil_of_length_eq_zero hem
              rw [hem]
              go_wp2_with fail
              go_ret
              exact ⟨ret_int hret.out.symm, hW1.trans (hSj.from1.mono hW1.size)⟩
            · have hne : (((listT s temp xs (k + 1)).length : Int) == 0) = false := by rw [beq_eq_false_iff_ne]; omega
              have hno' : Hid (∀ x : Int, 0 ≤ x → x < ((k + 1 : Nat) : Int) → (listT s temp xs (x.toNat + 1)).isEmpty = false) := by
                intro x h0 h1
                by_cases hx : x < (k : Int)
                · exact hno.out x h0 hx
                · rw [show x.toNat = k by omega]
                  cases he : listT s temp xs (k + 1) with
                  | nil => rw [he] at hem; simp at hem
                  | cons a b => rfl
              clear hem
              go_wp2_with fail
              go_roundw
              case rel => exact ⟨k + 1, A3, c3, by omega, by go_num, rfl, hr3, hSj, hCj, hno'⟩
              case measure => simp [intOf]; omega
      · have q1 : decide (s.low.length ≤ k) = true := by rw [decide_eq_true_iff]; omega
        have hkl : k = s.low.length := by
          rcases Nat.lt_or_ge s.low.length k with h | h
          · have := hno.out (s.low.length : Int) (by omega) (by omega)
            rw [Int.toNat_natCast, listT_far (Nat.le_refl _)] at this
            cases this
          · omega
        have hret : Hid (s.safe temp xs = (s.low.length : Int)) := by
          show _ = _
          unfold Rm.safe
          rw [← hkl]
          refine holdTo_hit (k := k) ?_ hno.out (by rw [← HN.out]; exact hlt)
          rw [Int.toNat_natCast, listT_far (by omega)]; rfl
        clear hkl
        go_wp2_with fail
        go_ret
        exact ⟨ret_int hret.out.symm, hW1.trans (hS.from1.mono hW1.size)⟩
    · have hret : Hid (s.safe temp xs = (N : Int)) := by
        show _ = _
        unfold Rm.safe
        rw [holdTo_none (fun x h0 h1 => hno.out x h0 (by rw [← HN.out] at h1; omega)), HN.out]
      have hCW2 := HC.out.below (hW1.trans (hS.from1.mono hW1.size))
      go_wp2_with fail
      refine (HO.out _ hCW2).mono ?_
      rintro e w2 ⟨C2, f2, rfl, _, rfl⟩
      rw [← HN.out]
      go_wp2_with fail
      go_ret
      exact ⟨ret_int hret.out.symm, hW1.trans (hS.from1.mono hW1.size)⟩
end Go.Proofs.Ytohgcenfhglfdaa
