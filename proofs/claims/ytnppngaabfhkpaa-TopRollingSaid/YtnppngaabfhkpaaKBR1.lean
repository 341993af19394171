/-
  The walks of layer 39 (battery), the reference: Between, Check.
-/
import Derived.Test.YtnppngaabfhkpaaKB1
import Derived.Test.YtnppngaabfhkpaaProg
import Derived.Test.YtnppngaabfhkpaaK0Words
import Derived.Lib.Hide
import Derived.Deep.QuietTactic
import Derived.BigQuiet
namespace Go.Proofs.Ytnppngaabfhkpaa
open Go.RowKit

theorem between_any (n lo hi : Int) (w : World) :
    Calls Try.prog 107 #[.int .i64 n, .int .i64 lo, .int .i64 hi] w fun e w' => e = .returned (.bool (wB n lo hi)) ∧ w = w' := by
  unfold wB
  by_cases h : lo ≤ n
  all_goals
    go_enter Try.func107, Try.ntmps107
    go_wp2
    go_ret
    exact ⟨ret_bool (by first | (simp [h]; done) | (simp; omega)), rfl⟩

set_option maxHeartbeats 4000000 in
theorem rcheck_any (b : Bat) (w : World) :
    Calls Try.prog 63 #[b.v] w fun e w' => e = .returned (.int .i64 b.chk) ∧ Below w.heap.size w w' := by
  have hk : b.chk = if b.ok = true then 0 else 2 := rfl
  obtain ⟨cap, reserve, charge, discharge, eff⟩ := b
  simp only [Bat.v]
  simp only [Bat.ok] at hk
  generalize (Bat.mk cap reserve charge discharge eff).chk = K at *
  by_cases h1 : wB cap 0 40 = true
  · by_cases h2 : wB reserve 0 cap = true
    · by_cases h3 : wB charge 0 40 = true
      · by_cases h4 : wB discharge 0 40 = true
        · by_cases h5 : wB eff 500 1000 = true
          · obtain rfl : K = 0 := by simpa [h1, h2, h3, h4, h5] using hk
            clear hk
            go_enter Try.func63, Try.ntmps63
            go_wp2_with (go_at_call 107; refine (between_any _ _ _ _).mono ?_; rintro e w' ⟨rfl, rfl⟩)
            go_ret
            exact ⟨rfl, (Below.refl _ _).alloc (Nat.le_refl _) _⟩
          · simp only [Bool.not_eq_true] at h5
            obtain rfl : K = 2 := by simpa [h1, h2, h3, h4, h5] using hk
            clear hk
            go_enter Try.func63, Try.ntmps63
            go_wp2_with (go_at_call 107; refine (between_any _ _ _ _).mono ?_; rintro e w' ⟨rfl, rfl⟩)
            go_ret
            exact ⟨rfl, (Below.refl _ _).alloc (Nat.le_refl _) _⟩
        · simp only [Bool.not_eq_true] at h4
          obtain rfl : K = 2 := by simpa [h1, h2, h3, h4] using hk
          clear hk
          go_enter Try.func63, Try.ntmps63
          go_wp2_with (go_at_call 107; refine (between_any _ _ _ _).mono ?_; rintro e w' ⟨rfl, rfl⟩)
          go_ret
          exact ⟨rfl, (Below.refl _ _).alloc (Nat.le_refl _) _⟩
      · simp only [Bool.not_eq_true] at h3
        obtain rfl : K = 2 := by simpa [h1, h2, h3] using hk
        clear hk
        go_enter Try.func63, Try.ntmps63
        go_wp2_with (go_at_call 107; refine (between_any _ _ _ _).mono ?_; rintro e w' ⟨rfl, rfl⟩)
        go_ret
        exact ⟨rfl, (Below.refl _ _).alloc (Nat.le_refl _) _⟩
    · simp only [Bool.not_eq_true] at h2
      obtain rfl : K = 2 := by simpa [h1, h2] using hk
      clear hk
      go_enter Try.func63, Try.ntmps63
      go_wp2_with (go_at_call 107; refine (between_any _ _ _ _).mono ?_; rintro e w' ⟨rfl, rfl⟩)
      go_ret
      exact ⟨rfl, (Below.refl _ _).alloc (Nat.le_refl _) _⟩
  · simp only [Bool.not_eq_true] at h1
    obtain rfl : K = 2 := by simpa [h1] using hk
    clear hk
    go_enter Try.func63, Try.ntmps63
    go_wp2_with (go_at_call 107; refine (between_any _ _ _ _).mono ?_; rintro e w' ⟨rfl, rfl⟩)
    go_ret
    exact ⟨rfl, (Below.refl _ _).alloc (Nat.le_refl _) _⟩


end Go.Proofs.Ytnppngaabfhkpaa

/-
  The walks of layer 39 (battery), the reference: Drawn.
-/
namespace Go.Proofs.Ytnppngaabfhkpaa
open Go.RowKit

end Go.Proofs.Ytnppngaabfhkpaa

/-
  The walks of layer 39 (battery), the reference: Step.
-/
namespace Go.Proofs.Ytnppngaabfhkpaa
open Go.RowKit

end Go.Proofs.Ytnppngaabfhkpaa

/-
  The walk of the reference's Same: two lists of numbers compared.
-/
namespace Go.Proofs.Ytnppngaabfhkpaa
open Go.RowKit

theorem take_succ_eqB {α : Type} {xs ys : List α} {k : Nat} (hx : k < xs.length) (hy : k < ys.length) (h : xs.take k = ys.take k) (e : xs[k] = ys[k]) : xs.take (k + 1) = ys.take (k + 1) := by
  rw [List.take_succ_eq_append_getElem hx, List.take_succ_eq_append_getElem hy, h, e]

set_option maxHeartbeats 1000000 in
theorem same_any (A B : Option Addr) (c d : Nat) (xs ys : List Int) (w : World) (hx : RInts w A xs) (hy : RInts w B ys) (h1 : xs.length < 1000000000) :
    Calls Try.prog 85 #[.slice A xs.length c, .slice B ys.length d] w fun e w' => e = .returned (.bool (decide (xs = ys))) ∧ Below w.heap.size w w' := by
  by_cases hl : xs.length = ys.length
  · generalize hn : ys.length = n at *
    have HL := Lib.hid hl
    have HN := Lib.hid hn
    rw [hl] at h1
    rw [hl]
    clear hl hn
    go_enter Try.func85, Try.ntmps85
    go_wp2_with fail
    go_loopw [13] (fun i wr => ∃ k : Nat, k ≤ n ∧ i = .int .i64 k ∧ xs.take k = ys.take k ∧ Below w.heap.size w wr)
      (fun i _ => n - (intOf i).toNat)
    case atStart => exact ⟨0, by omega, rfl, rfl, Below.refl _ _⟩
    case round =>
      obtain ⟨k, hk, rfl, hsame, hB⟩ := hrel
      have HSAME := Lib.hid hsame
      clear hsame
      by_cases hlt : k < n
      · have hkx : k < xs.length := by have := HL.out; omega
        have hky : k < ys.length := by have := HN.out; omega
        obtain ⟨a, rfl, hab, hac⟩ := hx.at_ hkx
        obtain ⟨b, rfl, hbb, hbc⟩ := hy.at_ hky
        have hac' : wr.cell? (a.add k) = some (.int .i64 xs[k]) := (hB.cell (by rw [block_of_add]; exact hab)).trans hac
        have hbc' : wr.cell? (b.add k) = some (.int .i64 ys[k]) := (hB.cell (by rw [block_of_add]; exact hbb)).trans hbc
        clear hac hbc
        by_cases he : xs[k] = ys[k]
        · have HT := Lib.hid (take_succ_eqB hkx hky HSAME.out he)
          have hne : (xs[k] != ys[k]) = false := by simp [he]
          clear he
          generalize xs[k] = x at *
          generalize ys[k] = y at *
          go_wp2_with fail
          go_quiet (fail)
          go_wp2
          go_roundw
          case rel => exact ⟨k + 1, by omega, by go_num, HT.out, below_drewN hB _⟩
          case measure => simp [intOf]; omega
        · have HE : Hid (false = decide (xs = ys)) := by
            show _ = _
            symm
            rw [decide_eq_false_iff_not]
            intro h
            subst h
            exact he rfl
          have hne : (xs[k] != ys[k]) = true := by simp [he]
          clear he
          generalize xs[k] = x at *
          generalize ys[k] = y at *
          go_wp2_with fail
          go_quiet (fail)
          go_wp2
          go_ret
          exact ⟨ret_bool HE.out, below_drewN hB _⟩
      · have hkn : k = n := by omega
        have HE : Hid (true = decide (xs = ys)) := by
          show _ = _
          symm
          rw [decide_eq_true_iff]
          have h := HSAME.out
          rwa [List.take_of_length_le (by rw [HL.out]; omega), List.take_of_length_le (by rw [HN.out]; omega)] at h
        clear hkn
        go_wp2
        go_ret
        exact ⟨ret_bool HE.out, hB⟩
  · have hne : ((xs.length : Int) != (ys.length : Int)) = true := by rw [bne_iff_ne]; omega
    have HL := Lib.hid hl
    clear hl
    go_enter Try.func85, Try.ntmps85
    go_wp2_with fail
    go_ret
    exact ⟨ret_bool (by symm; rw [decide_eq_false_iff_not]; intro h; exact HL.out (by rw [h])), Below.refl _ _⟩

end Go.Proofs.Ytnppngaabfhkpaa
