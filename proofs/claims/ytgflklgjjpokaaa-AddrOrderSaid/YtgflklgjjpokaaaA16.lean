/-
  The walk of Same of claims (layer 8).
-/
import Derived.Test.YtgflklgjjpokaaaA15
namespace Go.Proofs.Ytgflklgjjpokaaa
open Go.RowKit

theorem eq_claim (a b : Cl) (w : World) : (Op.equalIn 10000 40 (.agg #[.int .u64 a.eui, .int .i64 a.addr, .int .i64 a.try_]) (.agg #[.int .u64 b.eui, .int .i64 b.addr, .int .i64 b.try_])).run Try.prog w = .ok (decide (a = b)) w := by
  have u3 := Try.underlying3
  have u22 := Try.underlying22
  have hS : Try.prog.underlying 40 = some (.struct (Try.prog.fieldsOf 40)) := by kernel_rfl
  rw [show (10000 : Nat) = 9999 + 1 from rfl, run_equalIn_agg w 9999 40 _ _ hS (by kernel_rfl)]
  simp only [Program.fieldsOf, Try.underlying40]
  go_simp
  obtain ⟨e1, a1, t1⟩ := a
  obtain ⟨e2, a2, t2⟩ := b
  by_cases h1 : e1 = e2 <;> by_cases h2 : a1 = a2 <;> by_cases h3 : t1 = t2 <;> simp [h1, h2, h3]
theorem take_succ_eq {α : Type} {xs ys : List α} {k : Nat} (hx : k < xs.length) (hy : k < ys.length) (h : xs.take k = ys.take k) (e : xs[k] = ys[k]) : xs.take (k + 1) = ys.take (k + 1) := by
  rw [List.take_succ_eq_append_getElem hx, List.take_succ_eq_append_getElem hy, h, e]

set_option maxHeartbeats 4000000 in
theorem clsame_any (A B : Option Addr) (c d : Nat) (xs ys : List Cl) (w : World) (hx0 : RCls w A xs) (hy0 : RCls w B ys) (h1 : xs.length < 1000000000) :
    Calls Try.prog 22 #[.slice A xs.length c, .slice B ys.length d] w fun e w' => e = .returned (.bool (decide (xs = ys))) ∧ Below w.heap.size w w' := by
  have hg : Try.prog.eqGuardType Try.prog.depth 40 = false := by kernel_rfl
  have hx := Lib.hid hx0
  have hy := Lib.hid hy0
  clear hx0 hy0
  by_cases hl : xs.length = ys.length
  · obtain ⟨n, hn⟩ : ∃ n, n = ys.length := ⟨_, rfl⟩
    rw [← hn] at hl ⊢
    have HL := Lib.hid hl
    have HN := Lib.hid hn
    rw [hl] at h1
    rw [hl]
    clear hl hn
    go_enter Try.func22, Try.ntmps22
    go_wp2_with fail
    go_loopw [5] (fun i wr => ∃ k : Nat, k ≤ n ∧ i = .int .i64 k ∧ Hid (xs.take k = ys.take k) ∧ Below w.heap.size w wr)
      (fun i _ => n - (intOf i).toNat)
    case atStart => exact ⟨0, by omega, rfl, rfl, Below.refl _ _⟩
    case round =>
      obtain ⟨k, hk, rfl, HSAME, hB⟩ := hrel
      by_cases hlt : k < n
      · have hkx : k < xs.length := by have := HL.out; omega
        have hky : k < ys.length := by have := HN.out; omega
        obtain ⟨b1, o1, hA1, _, x0, x1, x2⟩ := (hx.out.below hB).at' hkx
        obtain ⟨b2, o2, hA2, _, y0, y1, y2⟩ := (hy.out.below hB).at' hky
        subst hA1 hA2
        have HB := Lib.hid hB
        have i1 : (0 : Int) ≤ (k : Int) := by omega
        have i2 : (k : Int) < (n : Int) := by omega
        have heq := eq_claim xs[k] ys[k]
        clear hB
        by_cases he : xs[k] = ys[k]
        · have HT : Hid (xs.take (k + 1) = ys.take (k + 1)) := take_succ_eq hkx hky HSAME.out he
          rw [decide_eq_true he] at heq
          clear he
          generalize xs[k] = x at *
          generalize ys[k] = y at *
          go_wp2_with fail
          go_quiet (fail)
          go_wp2_with fail
          go_roundw
          case rel => exact ⟨k + 1, by omega, by go_num, HT, below_drewN HB.out _⟩
          case measure => simp [intOf]; omega
        · have HE : Hid (false = decide (xs = ys)) := by
            show _ = _
            symm
            rw [decide_eq_false_iff_not]
            intro h
            subst h
            exact he rfl
          rw [decide_eq_false he] at heq
          clear he
          generalize xs[k] = x at *
          generalize ys[k] = y at *
          go_wp2_with fail
          go_quiet (fail)
          go_wp2_with fail
          go_ret
          exact ⟨ret_bool HE.out, below_drewN HB.out _⟩
      · have HE : Hid (true = decide (xs = ys)) := by
          show _ = _
          symm
          rw [decide_eq_true_iff]
          have h := HSAME.out
          rwa [List.take_of_length_le (by rw [HL.out]; omega), List.take_of_length_le (by rw [← HN.out]; omega)] at h
        go_wp2_with fail
        go_ret
        exact ⟨ret_bool HE.out, hB⟩
  · have hne : ((xs.length : Int) != (ys.length : Int)) = true := by rw [bne_iff_ne]; omega
    have HL := Lib.hid hl
    clear hl
    go_enter Try.func22, Try.ntmps22
    go_wp2_with fail
    go_ret
    exact ⟨ret_bool (by symm; rw [decide_eq_false_iff_not]; intro h; exact HL.out (by rw [h])), Below.refl _ _⟩
theorem clsame_at {A B : Option Addr} {c d n m : Nat} (xs ys : List Cl) {w : World} (hn : n = xs.length) (hm : m = ys.length) (hx : RCls w A xs) (hy : RCls w B ys) (h1 : xs.length < 1000000000) :
    Calls Try.prog 22 #[.slice A n c, .slice B m d] w fun e w' => e = .returned (.bool (decide (xs = ys))) ∧ Below w.heap.size w w' := by
  subst hn hm
  exact clsame_any A B c d xs ys w hx hy h1
end Go.Proofs.Ytgflklgjjpokaaa
