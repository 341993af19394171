/-
  The walks of Pick of the reference (layer 8).
-/
import Derived.Test.YtgflklgjjpokaaaA2
namespace Go.Proofs.Ytgflklgjjpokaaa
open Go.RowKit

def made9 : Array Value := madeCells #[Value.int .u8 0] 9
/-- The bytes, as they are filled in. -/
def byteMid (e : Int) (k i : Nat) : Int := if i < k then byteE e i else 0
theorem byteMid_succ (e : Int) (k i : Nat) : byteMid e (k + 1) i = if i = k then byteE e k else byteMid e k i := by
  unfold byteMid
  by_cases h : i = k
  · subst h; simp
  · rw [if_neg h]
    by_cases h2 : i < k
    · rw [if_pos h2, if_pos (by omega)]
    · rw [if_neg h2, if_neg (by omega)]
theorem pickBytes_get (e t : Int) {i : Nat} (h : i < 9) : (pickBytes e t).getD i 0 = if i = 8 then t else byteMid e 8 i := by
  unfold pickBytes byteMid
  by_cases h8 : i = 8
  · subst h8; simp [List.getD, bytesTo_length]
  · rw [if_neg h8, if_pos (by omega)]
    simp [List.getD, List.getElem?_append_left, show i < 8 by omega, bytesTo]

set_option maxHeartbeats 4000000 in
theorem rpick_low (e t : Int) (w : World) (_e0 : 0 ≤ e) (_e1 : e < 18446744073709551616) (t1 : tryZ t ≤ 15) :
    Calls Try.prog 14 #[.int .u64 e, .int .i64 t] w fun e' w' => e' = .returned (.int .i64 (pickZ e t)) ∧ Below w.heap.size w w' := by
  have hres : Hid (pickZ e t = 1 + pickHash e (tryZ t) % 4294967296 % 250) := by show _ = _; rw [pickZ_low t1]; rfl
  have htc : (t < 0 ∧ tryZ t = 0) ∨ (¬ t < 0 ∧ tryZ t = t) := by
    unfold tryZ
    by_cases h : t < 0
    · rw [if_pos h]; omega
    · rw [if_neg h]; omega
  rw [hres.out]
  have hbd := pickHash_bd e (tryZ t)
  have hb0 : 0 ≤ tryZ t := by omega
  have hph : Hid (pickHash e (tryZ t) = fnvS (strOfNums (pickBytes e (tryZ t)))) := rfl
  have hmk : ∀ w : World, (Instr.makeSlice 47 (.int .i64 9) (.int .i64 9)).run Try.prog w = .ok (.slice (some ⟨w.heap.size, 0, none⟩) 9 9) (w.alloc (.cells made9 5)) :=
    run_make_row' (P := Try.prog) 47 5 (.int .u8 0) 1 Try.underlying47 Try.infoU8 rfl .i64 .i64 9 (by omega) (by omega)
  clear hres
  generalize pickHash e (tryZ t) = H at *
  generalize tryZ t = T at *
  go_enter Try.func14, Try.ntmps14
  go_upto_if 9 with (fail)
  go_cut [1] (fun s1 wx => s1 = .int .i64 T ∧ w = wx)
  case first =>
    rcases htc with ⟨q1, rfl⟩ | ⟨q1, rfl⟩
    all_goals
      go_wp2_with fail
      all_goals
        go_meet
        exact ⟨rfl, rfl⟩
  case rest =>
    clear htc
    obtain ⟨rfl, rfl⟩ := hcut
    go_wp2_with fail
    have hrow0 : (w.alloc (.cells made9 5)).rowIs w.heap.size 5 9 (fun i => .int .u8 (byteMid e 0 i)) := (World.rowIs_made w (.int .u8 0) 9 5).congr fun i _ => by simp [byteMid]
    have hB0 : Below w.heap.size w (w.alloc (.cells made9 5)) := (Below.refl _ _).alloc (Nat.le_refl _) _
    clear hmk
    go_loopw [6] (fun i' wr => ∃ k : Nat, k ≤ 8 ∧ i' = .int .i64 k ∧ wr.rowIs w.heap.size 5 9 (fun i => .int .u8 (byteMid e k i)) ∧ Below w.heap.size w wr)
      (fun i' _ => (8 - intOf i').toNat)
    case atStart => exact ⟨0, by omega, rfl, hrow0, hB0⟩
    case round =>
      clear hrow0 hB0
      obtain ⟨k, hk, rfl, hrow1, hB⟩ := hrel
      have hrow := Lib.hid hrow1
      have hgl := hrow1.lt
      clear hrow1
      by_cases hlt : k < 8
      · have c1 := hrow.out.cell (i := k) (by omega)
        have c2 := hrow.out.frozen k
        go_wp2_with fail
        go_roundw
        case rel =>
          refine ⟨k + 1, by omega, by go_num, ?_, hB.setCell (by simp) _⟩
          refine (hrow.out.set k _).congr fun i hi => ?_
          rw [byteMid_succ]
          by_cases e1 : i = k
          · rw [if_pos e1, if_pos e1]; rfl
          · rw [if_neg e1, if_neg e1]
        case measure => simp [intOf]; omega
      · obtain rfl : k = 8 := by omega
        have c1 := hrow.out.cell (i := 8) (by omega)
        have c2 := hrow.out.frozen 8
        have hrow2 : Hid ((wr.setCell ⟨w.heap.size, 8, none⟩ (.int .u8 T)).rowIs w.heap.size 5 9 (fun i => .int .u8 ((pickBytes e T).getD i 0))) := by
          show World.rowIs _ _ _ _ _
          refine (hrow.out.set 8 (.int .u8 T)).congr fun i hi => ?_
          rw [pickBytes_get e T hi]
          by_cases e1 : i = 8
          · rw [if_pos e1, if_pos e1]
          · rw [if_neg e1, if_neg e1]
        have hcv := run_convert_bytes_arg (P := Try.prog) (wr.setCell ⟨w.heap.size, 8, none⟩ (.int .u8 T)) 47 5 Try.underlying47 Try.underlying5 w.heap.size 0 9 9 (pickBytes e T) (pickBytes_length _ _) (fun i hi => by rw [Nat.zero_add]; exact hrow2.out.cell hi) 9 Try.underlying9
        have hfn := Lib.hid (rlfnv_any (strOfNums (pickBytes e T)) (wr.setCell ⟨w.heap.size, 8, none⟩ (.int .u8 T)) (by rw [strOfNums_size, pickBytes_length]; unfold maxLen; omega))
        rw [← hph.out] at hfn
        have hBf := Lib.hid (hB.setCell (p := ⟨w.heap.size, 8, none⟩) (by simp) (.int .u8 T))
        clear hph
        go_wp2_with fail
        refine hfn.out.mono ?_
        rintro e' w6 ⟨rfl, rfl⟩
        clear hcv
        go_wp2_with fail
        go_ret
        exact ⟨ret_int (by omega), hBf.out⟩

set_option maxHeartbeats 4000000 in
theorem rpick_any (e t : Int) (w : World) (e0 : 0 ≤ e) (e1 : e < 18446744073709551616) (tb : t ≤ 9223372036854775807) :
    Calls Try.prog 14 #[.int .u64 e, .int .i64 t] w fun e' w' => e' = .returned (.int .i64 (pickZ e t)) ∧ Below w.heap.size w w' := by
  by_cases t1 : tryZ t ≤ 15
  · exact rpick_low e t w e0 e1 t1
  · have hres := Lib.hid (pickZ_high (e := e) t1)
    have htt : tryZ t = t := by
      unfold tryZ at t1 ⊢
      by_cases h : t < 0
      · rw [if_pos h] at t1; omega
      · rw [if_neg h]
    rw [hres.out]
    have hlow := Lib.hid (rpick_low e 15 w e0 e1 (by decide))
    rw [show pickZ e 15 = pickLow e 15 from rfl] at hlow
    have hb := pickLow_bd e 15
    rw [htt] at t1 ⊢
    have t2 : ¬ t < 0 := by omega
    clear hres htt
    generalize pickLow e 15 = p at *
    go_enter Try.func14, Try.ntmps14
    go_wp2_with fail
    refine hlow.out.mono ?_
    rintro e' w1 ⟨rfl, hb1⟩
    have hB := Lib.hid hb1
    clear hb1
    go_wp2_with fail
    go_ret
    exact ⟨ret_int (by omega), hB.out⟩
end Go.Proofs.Ytgflklgjjpokaaa
