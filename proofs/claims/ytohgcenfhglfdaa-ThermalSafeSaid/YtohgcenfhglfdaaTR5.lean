/-
  The walks of layer 40 (thermal), the reference, part 5: Safe.
-/
import Derived.Test.YtohgcenfhglfdaaTR4
import Derived.Test.YtohgcenfhglfdaaT8
import Derived.Test.YtohgcenfhglfdaaTP3
namespace Go.Proofs.Ytohgcenfhglfdaa
open Go.RowKit
attribute [local go_sem ↓] Go.wp_at_zero Go.wp_at_succ

theorem made3001_size : made3001.size = 3001 := size_madeCells _ _
theorem made3001_get {i : Nat} (h : i < 3001) : made3001[i]? = some (.bool false) := by simp [made3001, madeCells, h, Nat.mod_one]
theorem row3001_set (w : World) (t : TypeId) (q : Int) (h0 : -1000 ≤ q) (_h1 : q ≤ 2000) :
    (w.alloc (.cells (made3001.setIfInBounds (q + 1000).toNat (Value.bool true)) t)).rowIs w.heap.size t 3001 (fun y => .bool (decide ((y : Int) - 1000 ∈ [q]))) := by
  have h := World.rowIs_alloc w (made3001.setIfInBounds (q + 1000).toNat (Value.bool true)) t (fun y => .bool (decide ((y : Int) - 1000 ∈ [q]))) (by
    intro i hi
    rw [Array.size_setIfInBounds, made3001_size] at hi
    rw [Array.getElem?_setIfInBounds]
    by_cases hli : (q + 1000).toNat = i
    · rw [if_pos hli, if_pos (by rw [made3001_size, hli]; exact hi)]
      congr 2; symm; rw [decide_eq_true_iff, List.mem_singleton]; omega
    · rw [if_neg hli, made3001_get hi]
      congr 2; symm; rw [decide_eq_false_iff_not, List.mem_singleton]; omega)
  rw [Array.size_setIfInBounds, made3001_size] at h
  exact h

set_option maxRecDepth 100000 in
set_option maxHeartbeats 16000000 in
theorem rtsafe_any (r : Rm) (A B C : Option Addr) (c d f : Nat) (temp : Int) (l : List Int) (w : World) (hA : RInts w A r.low) (hB : RInts w B r.high) (hC : RInts w C l) :
    Calls Try.prog 23 #[r.v A c B d, .int .i64 temp, .slice C l.length f] w fun e w' => e = .returned (.int .i64 (r.valid.safe temp (outsT l))) ∧ Below w.heap.size w w' := by
  have hv := fun w' hA' hB' => rvalid_any r A B c d w' hA' hB'
  have hf := r.fine
  have hvv := r.valid_valid
  generalize r.valid = s at *
  rw [← safe_limT]
  have hA1 : RInts (w.alloc (.cells #[.int .i64 r.gain, .int .i64 r.loss, .int .i64 r.steps, .int .i64 r.power, .slice A r.low.length c, .slice B r.high.length d] 24)) A r.low := hA.alloc _
  have hB1 : RInts (w.alloc (.cells #[.int .i64 r.gain, .int .i64 r.loss, .int .i64 r.steps, .int .i64 r.power, .slice A r.low.length c, .slice B r.high.length d] 24)) B r.high := hB.alloc _
  simp only [Rm.v] at hv ⊢
  have HV := Lib.hid hv
  have HA := Lib.hid hA1
  have HB := Lib.hid hB1
  have HF := Lib.hid hf
  have HVV := Lib.hid hvv
  have HC := Lib.hid hC
  have s0 := hf.s0
  have s1 := hf.s1
  have hl96 := hf.len1
  have hol := outsT_len l
  have hbig : Hid (96 < l.length → outsT l = []) := fun h => by unfold outsT; rw [if_pos h]
  have hsml : Hid (¬ 96 < l.length → outsT l = l) := fun h => by unfold outsT; rw [if_neg h]
  clear hv hA hB hA1 hB1 hf hvv hC
  obtain ⟨ln, hln⟩ : ∃ n, n = l.length := ⟨_, rfl⟩
  have HL := Lib.hid hln
  rw [← hln] at hbig hsml ⊢
  clear hln
  generalize hxs : outsT l = xs at *
  clear hxs
  obtain ⟨q0, q1⟩ := limT_bd temp
  have hlim := rlimit_any temp
  generalize limT temp = q at *
  have HLIM := Lib.hid hlim
  clear hlim
  have hmk := made3001_run
  have hmg : made3001[(q + 1000).toNat]? = some (.bool false) := made3001_get (by omega)
  have hrow00 := Lib.hid (fun w1 => row3001_set w1 4 q q0 q1)
  go_enter Try.func23, Try.ntmps23
  go_wp2_with fail
  refine (HV.out _ HA.out HB.out).mono ?_
  rintro e w1 ⟨A', c', B', d', rfl, hA', hB', hb1⟩
  have hW1 : Below w.heap.size w w1 := ((Below.refl _ _).alloc (Nat.le_refl _) _).trans (hb1.mono (by simp))
  clear HA HB HV hb1
  simp only [Rm.v]
  have hS0 : RoomX s A' c' B' d' w1 (roomX s A' c' B' d' w1) := ⟨by rw [← roomX_size (s := s) (A := A') (B := B') (c := c') (d := d')]; exact Below.refl _ _, hA', hB'⟩
  have HS := Lib.hid hS0
  clear hA' hB' hS0
  go_wp2_with fail
  refine (HLIM.out _).mono ?_
  rintro e w2 ⟨rfl, hw2⟩
  subst hw2
  go_wp2_with fail
  have hrow0 := hrow00.out (roomX s A' c' B' d' w1)
  rw [roomX_size] at hrow0
  have HS1 := Lib.hid (HS.out.on (Below.alloc (Below.refl (w1.heap.size + 1) _) (by rw [roomX_size]; exact Nat.le_refl _) (.cells (made3001.setIfInBounds (q + 1000).toNat (Value.bool true)) 4)))
  clear hrow00 HS HLIM hmg
  go_loopw [8, 9] (fun now i' wr => ∃ (k g : Nat), k ≤ xs.length ∧ i' = .int .i64 k ∧ now = .slice (some ⟨g, 0, none⟩) 3001 3001 ∧ wr.rowIs g 4 3001 (fun y => .bool (decide ((y : Int) - 1000 ∈ listT s q xs k))) ∧ RoomX s A' c' B' d' w1 wr ∧
      Hid (∀ x : Int, 0 ≤ x → x < (k : Int) → (listT s q xs (x.toNat + 1)).isEmpty = false))
    (fun _ i' _ => xs.length - (intOf i').toNat)
  case atStart => exact ⟨0, _, by omega, rfl, rfl, hrow0, HS1.out, fun x h0 h1 => by omega⟩
  case round =>
    obtain ⟨k, g, hk, rfl, rfl, hnow, hS, hno⟩ := hrel
    clear HS1 hrow0
    obtain ⟨wo, rfl⟩ : ∃ wo : World, wo = wr := ⟨_, rfl⟩
    by_cases hlt : k < xs.length
    · have hle : ¬ 96 < ln := fun h => by rw [hbig.out h] at hlt; simp at hlt
      have hxe := hsml.out hle
      have hkl : k < ln := by rw [HL.out, ← hxe]; exact hlt
      have hle' : (ln : Int) ≤ 96 := by omega
      have hCw := HC.out.below (hW1.trans (hS.from1.mono hW1.size))
      rw [← hxe] at hCw
      obtain ⟨bb, oo, hCe, hbb, hbc⟩ := hCw.at' hlt
      rw [getD_eq hlt] at hbc
      subst hCe
      have hLs : Hid (listT s q xs (k + 1) = growAll s k (xs.getD k 0) (listT s q xs k)) := rfl
      have hLf := listT_fine (s := s) (outs := xs) (k := k) q0 q1
      generalize xs.getD k 0 = o at *
      clear hCw hxe
      generalize hLL : listT s q xs k = L at *
      have HLL := Lib.hid hLL
      have HLf := Lib.hid hLf
      clear hLL hLf
      have hszo := hS.size
      have hgo := hnow.lt
      go_wp2_with fail
      go_loopw [11, 12] (fun sm t' wr => ∃ j : Nat, j ≤ 3001 ∧ t' = .int .i64 j ∧ sm = .bool (!(accU s k o L j).isEmpty) ∧
          wr.rowIs wo.heap.size 4 3001 (fun y => .bool (decide ((y : Int) - 1000 ∈ accU s k o L j))) ∧ Below wo.heap.size wo wr)
        (fun _ t' _ => 3001 - (intOf t').toNat)
      case atStart => exact ⟨0, by omega, rfl, by simp [accU, upL, upto, growAll], (row3001 wo 4).congr (fun y _ => by simp [accU, upL, upto, growAll]), (Below.refl _ _).alloc (Nat.le_refl _) _⟩
      case round =>
        obtain ⟨j, hj, rfl, rfl, hrow, hBo⟩ := hrel
        obtain ⟨wj, rfl⟩ : ∃ wj : World, wj = wr := ⟨_, rfl⟩
        have hSj := hS.mk' hBo
        by_cases hltj : j < 3001
        · have hnowj := (row_below hnow hBo).cell (i := j) hltj
          by_cases hin : (j : Int) - 1000 ∈ L
          · rw [decide_eq_true hin] at hnowj
            have hacs := Lib.hid (accU_hit (s := s) (i := k) (o := o) hin)
            have hfine : FineL (accU s k o L j) := growAll_fine _ _ _ _
            generalize accU s k o L j = ac at *
            have hltd : decide ((j : Int) < 3001) = true := by rw [decide_eq_true_iff]; omega
            clear hin
            go_wp2_with fail
            go_loopw [11, 13] (fun sm h' wr => ∃ h : Nat, (h : Int) ≤ s.steps + 1 ∧ h' = .int .i64 h ∧ sm = .bool (!(growT s k o ((j : Int) - 1000) ac h).isEmpty) ∧
                wr.rowIs wo.heap.size 4 3001 (fun y => .bool (decide ((y : Int) - 1000 ∈ growT s k o ((j : Int) - 1000) ac h))) ∧ Below wo.heap.size wo wr)
              (fun _ h' _ => (s.steps + 1).toNat - (intOf h').toNat)
            case atStart => exact ⟨0, by omega, rfl, rfl, hrow, hBo⟩
            case round =>
              obtain ⟨h, hh, rfl, rfl, hrow1, hB1⟩ := hrel
              have hS1 := hS.mk' hB1
              have hf1 := growT_fine (s := s) (i := k) (o := o) (t := (j : Int) - 1000) hfine h
              obtain ⟨x0, x1, x2, x3, x4, x5⟩ := hS1.cells
              by_cases hlth : (h : Int) ≤ s.steps
              · have hhit := Lib.hid (growT_hit (s := s) (i := k) (o := o) (t := (j : Int) - 1000) (acc := ac) (k := h))
                have hmiss := Lib.hid (growT_miss (s := s) (i := k) (o := o) (t := (j : Int) - 1000) (acc := ac) (k := h))
                have hbc1 := (hB1.cell (p := ⟨bb, oo + k, none⟩) hbb).trans hbc
                obtain ⟨u0, u1⟩ := stepT_bd s.gain s.loss s.steps ((j : Int) - 1000) o h
                have hcall := Lib.hid (fun W (hW : RoomX s A' c' B' d' w1 W) => hW.rstep HVV.out ((j : Int) - 1000) o h)
                generalize growT s k o ((j : Int) - 1000) ac h = a1 at *
                generalize stepT s.gain s.loss s.steps ((j : Int) - 1000) o ↑h = u at *
                have hwr : IntKind.i64.wrap ((j : Int) - 1000) = (j : Int) - 1000 := IntWalk.i64_in _ (by omega)
                have HR1 := Lib.hid hrow1
                have HF1 := Lib.hid hf1
                have HNOW := Lib.hid hnow
                clear hrow1 hf1 hnow hrow hnowj hbc
                go_wp2_with fail
                clear x0 x1 x2 x3 x4 x5
                go_region_held3 (fun w' => Below wr.heap.size wr w' ∧ w'.cell? ⟨w1.heap.size, 0, none⟩ = some (.int .i64 s.gain) ∧ w'.cell? ⟨w1.heap.size, 1, none⟩ = some (.int .i64 s.loss) ∧ w'.cell? ⟨w1.heap.size, 2, none⟩ = some (.int .i64 s.steps) ∧ w'.cell? ⟨w1.heap.size, 3, none⟩ = some (.int .i64 s.power) ∧ w'.cell? ⟨w1.heap.size, 4, none⟩ = some (.slice A' s.low.length c') ∧ w'.cell? ⟨w1.heap.size, 5, none⟩ = some (.slice B' s.high.length d') ∧ w'.cell? ⟨bb, oo + k, none⟩ = some (.int .i64 o))
                  (first | exact hS1.heldL hbc1 (Below.refl _ _) | exact hS1.heldL hbc1 (Below.drew (Below.refl _ _)) | exact hS1.heldL hbc1 (Below.trans (by first | assumption | exact And.left (by assumption) | exact Below.refl _ _ | exact Below.drew (Below.refl _ _)) (Below.mono (by assumption) (Below.size (by first | assumption | exact And.left (by assumption) | exact Below.refl _ _ | exact Below.drew (Below.refl _ _))))))
                  (first | (go_at_call 25; refine (hcall.out _ (hS1.mk' (by first | assumption | exact And.left (by assumption) | exact Below.refl _ _ | exact Below.drew (Below.refl _ _)))).mono ?_; rintro e w3 ⟨rfl, hb3⟩))
                have hBw : Below wr.heap.size wr w3 := by first | assumption | exact And.left (by assumption)
                have hS3 := hS1.mk' hBw
                have hB3 := hB1.trans (hBw.mono hB1.size)
                have hrow3 := row_below HR1.out hBw
                clear hcall HR1 hB1
                obtain ⟨x0, x1, x2, x3, x4, x5⟩ := hS3.cells
                have hcomf := Lib.hid (hS3.rok HVV.out k u)
                go_wp2_with fail
                refine hcomf.out.mono ?_
                clear x0 x1 x2 x3 x4 x5
                rintro e w4 ⟨rfl, hb4⟩
                have hB4 := hB3.trans (hb4.mono hB3.size)
                have hrow4 := row_below hrow3 hb4
                have hsz4 := hB4.size
                clear hrow3 hB3 hb4 hS3 hcomf
                generalize hok : s.okAt ↑k u = ok at *
                have hlt4 := hrow4.lt
                have hc4 := hrow4.cell (i := (u + 1000).toNat) (by omega)
                have hf4 := hrow4.frozen (u + 1000).toNat
                generalize decide ((((u + 1000).toNat : Nat) : Int) - 1000 ∈ a1) = old at *
                cases ok
                · have hm := Lib.hid (hmiss.out (.inl rfl))
                  go_wp2_with fail
                  go_roundw
                  case rel => exact ⟨h + 1, by omega, by go_num, by rw [hm.out], by rw [hm.out]; exact hrow4, hB4⟩
                  case measure => simp [intOf]; omega
                · have hm : Hid ((∀ x, x ∈ growT s k o ((j : Int) - 1000) ac (h + 1) ↔ x ∈ a1 ∨ x = u) ∧ (growT s k o ((j : Int) - 1000) ac (h + 1)).isEmpty = false) := by
                    show _ ∧ _
                    by_cases hin : u ∈ a1
                    · rw [hmiss.out (.inr hin)]
                      refine ⟨fun x => ⟨.inl, fun hx => ?_⟩, ?_⟩
                      · rcases hx with hx | rfl
                        · exact hx
                        · exact hin
                      · cases a1 with
                        | nil => simp at hin
                        | cons a b => rfl
                    · rw [hhit.out rfl hin]
                      refine ⟨fun x => by rw [List.mem_append, List.mem_singleton], by simp⟩
                  have hrowS := hrow4.set (u + 1000).toNat (.bool true)
                  have hBS := hB4.setCell (p := ⟨wo.heap.size, (u + 1000).toNat, none⟩) (Nat.le_refl _) (.bool true)
                  clear hhit hmiss
                  go_wp2_with fail
                  go_roundw
                  case rel =>
                    refine ⟨h + 1, by omega, by go_num, by rw [hm.out.2]; rfl, ?_, hBS⟩
                    refine hrowS.congr fun y hy => ?_
                    by_cases hyy : y = (u + 1000).toNat
                    · rw [if_pos hyy]; congr 1; symm; rw [decide_eq_true_iff, hm.out.1]; right; omega
                    · rw [if_neg hyy]; congr 1
                      rw [Bool.eq_iff_iff, decide_eq_true_iff, decide_eq_true_iff, hm.out.1]
                      constructor
                      · exact .inl
                      · rintro (h | h)
                        · exact h
                        · omega
                  case measure => simp [intOf]; omega
              · have hkn : h = (s.steps + 1).toNat := by omega
                subst hkn
                have hend : Hid ((!(accU s k o L (j + 1)).isEmpty) = (!(growT s k o ((j : Int) - 1000) ac (s.steps + 1).toNat).isEmpty) ∧ wr.rowIs wo.heap.size 4 3001 (fun y => .bool (decide ((y : Int) - 1000 ∈ accU s k o L (j + 1))))) := by
                  show _ ∧ _
                  rw [hacs.out]
                  exact ⟨rfl, hrow1⟩
                clear hrow1
                go_wp2_with fail
                go_roundw
                case rel => exact ⟨j + 1, by omega, by go_num, by rw [hend.out.1], hend.out.2, hB1⟩
                case measure => simp [intOf]; omega
          · rw [decide_eq_false hin] at hnowj
            have hacs := Lib.hid (accU_miss (s := s) (i := k) (o := o) hin)
            clear hin
            go_wp2_with fail
            go_roundw
            case rel => exact ⟨j + 1, by omega, by go_num, by rw [hacs.out], by rw [hacs.out]; exact hrow, hBo⟩
            case measure => simp [intOf]; omega
        · obtain rfl : j = 3001 := by omega
          have hem := Lib.hid (accU_empty (s := s) (i := k) (o := o) HLf.out)
          have hmem := Lib.hid (fun u => accU_end (s := s) (i := k) (o := o) (u := u) HLf.out)
          generalize accU s k o L 3001 = aa at *
          cases hemp : aa.isEmpty
          · have hno' : Hid (∀ x : Int, 0 ≤ x → x < ((k + 1 : Nat) : Int) → (listT s q xs (x.toNat + 1)).isEmpty = false) := by
              intro x h0 h1
              by_cases hx : x < (k : Int)
              · exact hno.out x h0 hx
              · rw [show x.toNat = k by omega, hLs.out, ← hem.out]; exact hemp
            have hrow' : Hid (wj.rowIs wo.heap.size 4 3001 (fun y => .bool (decide ((y : Int) - 1000 ∈ listT s q xs (k + 1))))) := by
              show World.rowIs _ _ _ _ _
              rw [hLs.out]
              refine hrow.congr fun y hy => ?_
              congr 1
              rw [Bool.eq_iff_iff, decide_eq_true_iff, decide_eq_true_iff, hmem.out]
            clear hemp hrow hmem
            go_wp2_with fail
            go_roundw
            case rel => exact ⟨k + 1, _, by omega, by go_num, rfl, hrow'.out, hSj, hno'⟩
            case measure => simp [intOf]; omega
          · have hret : Hid (s.safe q xs = (k : Int)) := by
              show _ = _
              unfold Rm.safe
              refine holdTo_hit (k := k) ?_ hno.out hlt
              rw [Int.toNat_natCast, hLs.out, ← hem.out]
              exact hemp
            clear hemp
            go_wp2_with fail
            go_ret
            exact ⟨ret_int hret.out.symm, hW1.trans (hSj.from1.mono hW1.size)⟩
    · have hret : Hid (s.safe q xs = (xs.length : Int)) := by
        show _ = _
        unfold Rm.safe
        rw [holdTo_none (fun x h0 h1 => hno.out x h0 (by omega))]
      by_cases hb : 96 < ln
      · have hx0 := hbig.out hb
        subst hx0
        obtain rfl : k = 0 := by simpa using hk
        have h96 : decide ((ln : Int) ≤ 96) = false := by rw [decide_eq_false_iff_not]; omega
        have h96' : (96 : Int) < (ln : Int) := by omega
        have h0 : decide ((0 : Int) < (ln : Int)) = true := by rw [decide_eq_true_iff]; omega
        go_wp2_with fail
        go_ret
        exact ⟨ret_int (by rw [hret.out]; rfl), hW1.trans (hS.from1.mono hW1.size)⟩
      · have hxe := hsml.out hb
        have hle : ln ≤ k := by rw [HL.out, ← hxe]; omega
        have hret' : Hid (s.safe q xs = (ln : Int)) := by
          show _ = _
          rw [hret.out, hxe, ← HL.out]
        have h96' : ¬ (96 : Int) < (ln : Int) := by omega
        clear hxe hret
        go_wp2_with fail
        go_ret
        exact ⟨ret_int hret'.out.symm, hW1.trans (hS.from1.mono hW1.size)⟩
end Go.Proofs.Ytohgcenfhglfdaa
