/-
  The walks of the laws AddrProbes, AddrFree (layer 8).
-/
import Derived.Test.YtgflklgjjpokaaaA18
import Derived.Test.YtgflklgjjpokaaaAP10
namespace Go.Proofs.Ytgflklgjjpokaaa
open Go.RowKit

set_option maxRecDepth 100000 in
set_option maxHeartbeats 8000000 in
theorem free_law (e : Int) (A : Option Addr) (c : Nat) (l : List Int) (w : World) (he : 0 ≤ e ∧ e < 18446744073709551616) (hA0 : RInts w A l) (hw : ∀ x ∈ l, -9223372036854775808 ≤ x ∧ x ≤ 9223372036854775807) :
    Calls Try.prog 8 #[.int .u64 e, .slice A l.length c] w fun e' w' => e' = .returned (.bool true) ∧ Below w.heap.size w w' := by
  have hB0 := Lib.hid (Below.refl w.heap.size w)
  by_cases h300 : (300 : Int) < (l.length : Int)
  · clear hw he
    generalize l.length = m at *
    go_enter Try.func8, Try.ntmps8
    go_wp2_with fail
    refine (awake_any _).mono ?_
    rintro e' w9 ⟨rfl, hb9⟩
    have hO := Lib.hid (hB0.out.trans (hb9.mono hB0.out.size))
    clear hb9
    go_wp2_with fail
    go_ret
    exact ⟨rfl, hO.out⟩
  · have hA := Lib.hid hA0
    have hF := Lib.hid (first_any e A c l w he.1 he.2 hA0 (by omega) hw)
    have hm := Lib.hid (fun x W (h : RInts W A l) => lamong_any A c l x W h (by omega))
    have hp := Lib.hid (fun (t : Int) (ht : t ≤ 1000) W => pick_any e t W he.1 he.2 (by omega))
    clear hA0 hw he
    generalize l.length = m at *
    go_enter Try.func8, Try.ntmps8
    go_wp2_with fail
    refine hF.out.mono ?_
    rintro e' w1 ⟨a, b, ok, rfl, hf1, hb1⟩
    have B1 := Lib.hid hb1
    cases ok
    · obtain ⟨h1, h2, h3⟩ := hf1.no rfl
      subst h1 h2
      have hbz := Lib.hid (fun (y : Int) (h1 : 1 ≤ y) (h2 : y ≤ 250) => busy_all h3 h1 h2)
      clear hf1 h3 hb1
      go_wp2_with fail
      go_loopw [8] (fun i' wr => ∃ k : Nat, k ≤ 250 ∧ i' = .int .i64 ((k : Int) + 1) ∧ w1 = wr)
        (fun i' _ => (251 - intOf i').toNat)
      case atStart => exact ⟨0, by omega, rfl, rfl⟩
      case round =>
        obtain ⟨k, hk, rfl, rfl⟩ := hrel
        by_cases hlt : k < 250
        · have hin := hbz.out ((k : Int) + 1) (by omega) (by omega)
          have hmk := hm.out ((k : Int) + 1) w1 (hA.out.below B1.out)
          rw [decide_eq_true hin] at hmk
          have HMK := Lib.hid hmk
          clear hin hmk
          go_wp2_with fail
          refine HMK.out.mono ?_
          rintro e' w2 ⟨rfl, rfl⟩
          go_wp2_with fail
          go_roundw
          case rel => exact ⟨k + 1, by omega, by go_num, trivial⟩
          case measure => simp [intOf]; omega
        · go_wp2_with fail
          refine (awake_any _).mono ?_
          rintro e' w9 ⟨rfl, hb9⟩
          have hO := Lib.hid (B1.out.trans (hb9.mono B1.out.size))
          clear hb9
          go_wp2_with fail
          go_ret
          exact ⟨rfl, hO.out⟩
    · obtain ⟨h1, h2, h3, h4, h5⟩ := hf1.yes rfl
      have hbz := Lib.hid h5
      have hab := Lib.hid (hp.out a (by omega) w1)
      rw [← h3] at hab
      have hmb := hm.out b w1 (hA.out.below B1.out)
      have hmb2 := Lib.hid (fun x W (h : RInts W A l) => hm.out x W h)
      have hnb := Lib.hid h4
      clear hf1 h3 h4 h5 hb1 hmb
      go_wp2_with fail
      refine hab.out.mono ?_
      rintro e' w2 ⟨rfl, hb2⟩
      have B2 := Lib.hid (B1.out.trans (hb2.mono B1.out.size))
      have hmk := hm.out b w2 (hA.out.below B2.out)
      rw [decide_eq_false hnb.out] at hmk
      have HMK := Lib.hid hmk
      clear hmk hb2
      go_wp2_with fail
      refine HMK.out.mono ?_
      rintro e' w3 ⟨rfl, rfl⟩
      go_wp2_with fail
      go_loopw [9] (fun i' wr => ∃ k : Nat, (k : Int) ≤ a ∧ i' = .int .i64 (k : Int) ∧ Below w.heap.size w wr)
        (fun i' _ => (a - intOf i').toNat)
      case atStart => exact ⟨0, by omega, rfl, B2.out⟩
      case round =>
        obtain ⟨k, hk, rfl, hBr⟩ := hrel
        have HBr := Lib.hid hBr
        clear hBr
        by_cases hlt : (k : Int) < a
        · have hin := hbz.out k (by omega)
          have hpk := Lib.hid (hp.out (k : Int) (by omega) wr)
          generalize pickZ e (k : Int) = pk at *
          go_wp2_with fail
          refine hpk.out.mono ?_
          rintro e' w4 ⟨rfl, hb4⟩
          have B4 := Lib.hid (HBr.out.trans (hb4.mono HBr.out.size))
          have hmk := hm.out pk w4 (hA.out.below B4.out)
          rw [decide_eq_true hin] at hmk
          have HMK2 := Lib.hid hmk
          clear hmk hb4 hin
          go_wp2_with fail
          refine HMK2.out.mono ?_
          rintro e' w5 ⟨rfl, rfl⟩
          go_wp2_with fail
          go_roundw
          case rel => exact ⟨k + 1, by omega, by go_num, B4.out⟩
          case measure => simp [intOf]; omega
        · go_wp2_with fail
          refine (awake_any _).mono ?_
          rintro e' w9 ⟨rfl, hb9⟩
          have hO := Lib.hid (HBr.out.trans (hb9.mono HBr.out.size))
          clear hb9
          go_wp2_with fail
          go_ret
          exact ⟨rfl, hO.out⟩

def falses (n : Nat) : Array Value := (List.replicate n (Value.bool false)).toArray
theorem falses_row (n : Nat) (w : World) (t : TypeId) : (w.alloc (.cells (falses n) t)).rowIs w.heap.size t n (fun _ => .bool false) := by
  have hs : (falses n).size = n := by simp [falses]
  have h := World.rowIs_alloc w (falses n) t (fun _ => .bool false) (by
    intro i hi
    rw [hs] at hi
    simp [falses, hi])
  rwa [hs] at h
def zero251 : Array Value := falses 251
set_option maxRecDepth 100000 in
theorem Try.zero251 (w : World) : (zeroValue 41).run Try.prog w = .ok (.agg zero251) w := by kernel_rfl
theorem row251 (w : World) (t : TypeId) : (w.alloc (.cells zero251 t)).rowIs w.heap.size t 251 (fun _ => .bool false) := falses_row 251 w t
set_option maxRecDepth 100000 in
set_option maxHeartbeats 8000000 in
theorem probes_law (e t : Int) (w : World) (he : 0 ≤ e ∧ e < 18446744073709551616) (ht : -9223372036854775808 ≤ t ∧ t ≤ 9223372036854775807) :
    Calls Try.prog 7 #[.int .u64 e, .int .i64 t] w fun e' w' => e' = .returned (.bool true) ∧ Below w.heap.size w w' := by
  have hp := Lib.hid (fun (t : Int) (ht : t ≤ 9223372036854775807) W => pick_any e t W he.1 he.2 ht)
  have hb := pickZ_bd e t
  have hp0 := Lib.hid (hp.out t ht.2 w)
  have hcs : t < 15 ∨ (¬ t < 15 ∧ 100000 < t) ∨ (¬ t < 15 ∧ ¬ 100000 < t) := by omega
  clear he
  generalize pickZ e t = a0 at *
  rcases hcs with q1 | ⟨q1, q2⟩ | ⟨q1, q2⟩
  · clear ht
    go_enter Try.func7, Try.ntmps7
    go_wp2_with fail
    refine hp0.out.mono ?_
    rintro e' w1 ⟨rfl, hb1⟩
    have B1 := Lib.hid hb1
    clear hb1
    go_wp2_with fail
    refine (awake_any _).mono ?_
    rintro e' w9 ⟨rfl, hb9⟩
    have hO := Lib.hid (B1.out.trans (hb9.mono B1.out.size))
    clear hb9
    go_wp2_with fail
    go_ret
    exact ⟨rfl, hO.out⟩
  · clear ht
    go_enter Try.func7, Try.ntmps7
    go_wp2_with fail
    refine hp0.out.mono ?_
    rintro e' w1 ⟨rfl, hb1⟩
    have B1 := Lib.hid hb1
    clear hb1
    go_wp2_with fail
    refine (awake_any _).mono ?_
    rintro e' w9 ⟨rfl, hb9⟩
    have hO := Lib.hid (B1.out.trans (hb9.mono B1.out.size))
    clear hb9
    go_wp2_with fail
    go_ret
    exact ⟨rfl, hO.out⟩
  · clear ht
    have hz := Try.zero251
    have hnew := Lib.hid (fun k (hk : k < 250) => probe_new (e := e) (t := t) (k := k) (by omega) hk)
    have hcz := Lib.hid (cameTo_zero e t)
    have hcs := Lib.hid (cameTo_succ e t)
    have hpb := Lib.hid (fun k : Nat => pickZ_bd e (t + (k : Int)))
    go_enter Try.func7, Try.ntmps7
    go_wp2_with fail
    refine hp0.out.mono ?_
    rintro e' w1 ⟨rfl, hb1⟩
    have B1 := Lib.hid hb1
    clear hb1
    go_wp2_with fail
    clear hz
    have hrow0 := Lib.hid (row251 w1 41)
    have B2 := Lib.hid (B1.out.alloc B1.out.size (.cells zero251 41))
    have hsz1 := B1.out.size
    go_loopw [7] (fun i' wr => ∃ k : Nat, k ≤ 250 ∧ i' = .int .i64 k ∧ wr.rowIs w1.heap.size 41 251 (fun y => .bool (cameTo e t k (y : Int))) ∧ Below w.heap.size w wr)
      (fun i' _ => (250 - intOf i').toNat)
    case atStart => exact ⟨0, by omega, rfl, hrow0.out.congr (fun y _ => by rw [hcz.out]), B2.out⟩
    case round =>
      clear hrow0 B2
      obtain ⟨k, hk, rfl, hrow1, hBr⟩ := hrel
      have hrow := Lib.hid hrow1
      have HBr := Lib.hid hBr
      clear hrow1 hBr
      by_cases hlt : k < 250
      · have hpk := Lib.hid (hp.out (t + (k : Int)) (by omega) wr)
        have hpb1 := hpb.out k
        have hnw := Lib.hid (hnew.out k hlt)
        have hcsk := Lib.hid (hcs.out k)
        generalize pickZ e (t + (k : Int)) = pk at *
        go_wp2_with fail
        refine hpk.out.mono ?_
        rintro e' w4 ⟨rfl, hb4⟩
        have B4 := Lib.hid (HBr.out.trans (hb4.mono HBr.out.size))
        have hrow4 := Lib.hid (row_below hrow.out hb4)
        have c1 := hrow4.out.cell (i := pk.toNat) (by omega)
        rw [show ((pk.toNat : Nat) : Int) = pk by omega, hnw.out] at c1
        have c2 := hrow4.out.frozen pk.toNat
        have t1 : decide (pk < 1) = false := by rw [decide_eq_false_iff_not]; omega
        have t2 : decide (250 < pk) = false := by rw [decide_eq_false_iff_not]; omega
        have hrow5 : Hid ((w4.setCell ⟨w1.heap.size, pk.toNat, none⟩ (.bool true)).rowIs w1.heap.size 41 251 (fun y => .bool (cameTo e t (k + 1) (y : Int)))) := by
          show World.rowIs _ _ _ _ _
          refine (hrow4.out.set pk.toNat (.bool true)).congr fun y hy => ?_
          rw [hcsk.out]
          by_cases e1 : y = pk.toNat
          · rw [if_pos e1, decide_eq_true (show pk = (y : Int) by omega), Bool.or_true]
          · rw [if_neg e1, decide_eq_false (show ¬ pk = (y : Int) by omega), Bool.or_false]
        have B5 := Lib.hid (B4.out.setCell (p := ⟨w1.heap.size, pk.toNat, none⟩) hsz1 (.bool true))
        clear hb4
        go_wp2_with fail
        go_roundw
        case rel => exact ⟨k + 1, by omega, by go_num, hrow5.out, B5.out⟩
        case measure => simp [intOf]; omega
      · go_wp2_with fail
        refine (awake_any _).mono ?_
        rintro e' w9 ⟨rfl, hb9⟩
        have hO := Lib.hid (HBr.out.trans (hb9.mono HBr.out.size))
        clear hb9
        go_wp2_with fail
        go_ret
        exact ⟨rfl, hO.out⟩
end Go.Proofs.Ytgflklgjjpokaaa
