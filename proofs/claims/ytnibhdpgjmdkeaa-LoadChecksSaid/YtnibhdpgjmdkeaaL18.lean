/-
  The walks of homehubref41.Equal (two lists of numbers compared) and of great.
-/
import Derived.Test.YtnibhdpgjmdkeaaL17
import Derived.Lib.Hide
import Derived.Deep.QuietTactic
import Derived.BigQuiet
import Derived.WalkSpells
namespace Go.Proofs.Ytnibhdpgjmdkeaa
open Go.RowKit

theorem take_succ_eq {α : Type} {xs ys : List α} {k : Nat} (hx : k < xs.length) (hy : k < ys.length) (h : xs.take k = ys.take k) (e : xs[k] = ys[k]) : xs.take (k + 1) = ys.take (k + 1) := by
  rw [List.take_succ_eq_append_getElem hx, List.take_succ_eq_append_getElem hy, h, e]

set_option maxHeartbeats 1000000 in
theorem equal_any (A B : Option Addr) (c d : Nat) (xs ys : List Int) (w : World) (hx : RInts w A xs) (hy : RInts w B ys) (h1 : xs.length < 1000000000) :
    Calls Try.prog 11 #[.slice A xs.length c, .slice B ys.length d] w fun e w' => e = .returned (.bool (decide (xs = ys))) ∧ Below w.heap.size w w' := by
  by_cases hl : xs.length = ys.length
  · generalize hn : ys.length = n at *
    have HL := Lib.hid hl
    have HN := Lib.hid hn
    rw [hl] at h1
    rw [hl]
    clear hl hn
    go_enter Try.func11, Try.ntmps11
    go_wp2_with fail
    go_loopw [5] (fun i wr => ∃ k : Nat, k ≤ n ∧ i = .int .i64 k ∧ xs.take k = ys.take k ∧ Below w.heap.size w wr)
      (fun i _ => n - (intOf i).toNat)
    case atStart => exact ⟨0, by omega, rfl, rfl, Below.refl _ _⟩
    case round =>
      obtain ⟨k, hk, rfl, hsame, hB⟩ := hrel
      have HSAME := Lib.hid hsame
      clear hsame
      by_cases hlt : k < n
      · have hkx : k < xs.length := by have := HL.out; omega
        have hky : k < ys.length := by have := HN.out; omega
        obtain ⟨a, rfl, hab, hac⟩ := hx.at_ hkx
        obtain ⟨b, rfl, hbb, hbc⟩ := hy.at_ hky
        have hac' : wr.cell? (a.add k) = some (.int .i64 xs[k]) := (hB.cell (by rw [block_of_add]; exact hab)).trans hac
        have hbc' : wr.cell? (b.add k) = some (.int .i64 ys[k]) := (hB.cell (by rw [block_of_add]; exact hbb)).trans hbc
        clear hac hbc
        by_cases he : xs[k] = ys[k]
        · have HT := Lib.hid (take_succ_eq hkx hky HSAME.out he)
          have hne : (xs[k] != ys[k]) = false := by simp [he]
          clear he
          generalize xs[k] = x at *
          generalize ys[k] = y at *
          go_wp2_with fail
          go_quiet (fail)
          go_wp2
          go_roundw
          case rel => exact ⟨k + 1, by omega, by go_num, HT.out, below_drewN hB _⟩
          case measure => simp [intOf]; omega
        · have HE : Hid (false = decide (xs = ys)) := by
            show _ = _
            symm
            rw [decide_eq_false_iff_not]
            intro h
            subst h
            exact he rfl
          have hne : (xs[k] != ys[k]) = true := by simp [he]
          clear he
          generalize xs[k] = x at *
          generalize ys[k] = y at *
          go_wp2_with fail
          go_quiet (fail)
          go_wp2
          go_ret
          exact ⟨ret_bool HE.out, below_drewN hB _⟩
      · have hkn : k = n := by omega
        have HE : Hid (true = decide (xs = ys)) := by
          show _ = _
          symm
          rw [decide_eq_true_iff]
          have h := HSAME.out
          rwa [List.take_of_length_le (by rw [HL.out]; omega), List.take_of_length_le (by rw [HN.out]; omega)] at h
        clear hkn
        go_wp2
        go_ret
        exact ⟨ret_bool HE.out, hB⟩
  · have hne : ((xs.length : Int) != (ys.length : Int)) = true := by rw [bne_iff_ne]; omega
    have HL := Lib.hid hl
    clear hl
    go_enter Try.func11, Try.ntmps11
    go_wp2_with fail
    go_ret
    exact ⟨ret_bool (by symm; rw [decide_eq_false_iff_not]; intro h; exact HL.out (by rw [h])), Below.refl _ _⟩

/-- The same, the lengths under names of their own. -/
theorem equal_at {A B : Option Addr} {c d n m : Nat} (xs ys : List Int) {w : World} (hn : n = xs.length) (hm : m = ys.length) (hx : RInts w A xs) (hy : RInts w B ys) (h1 : xs.length < 1000000000) :
    Calls Try.prog 11 #[.slice A n c, .slice B m d] w fun e w' => e = .returned (.bool (decide (xs = ys))) ∧ Below w.heap.size w w' := by
  subst hn hm
  exact equal_any A B c d xs ys w hx hy h1


theorem RInts.none {w : World} {l : List Int} (h : RInts w none l) : l = [] := by
  rcases Nat.eq_zero_or_pos l.length with h0 | h0
  · exact List.eq_nil_of_length_eq_zero h0
  · obtain ⟨_, e, _⟩ := h.2 h0
    cases e

theorem clone_any (A : Option Addr) (c : Nat) (xs : List Int) (w : World) (hx : RInts w A xs) (h1 : xs.length ≤ 1000000000) :
    Calls Try.prog 34 #[.slice A xs.length c] w (IntsOut xs w) := by
  have hnil := fun (W : World) (a : Option Addr) (m k : Nat) => Lib.run_eql_slice_nil (P := Try.prog) W 22 3 a m k 0 0 Try.underlying22
  cases A with
  | none =>
    obtain rfl := hx.none
    clear h1
    go_enter Try.func34, Try.ntmps34
    go_wp2_with fail
    go_ret
    exact nil_out (Below.refl _ _)
  | some ad =>
    have HX := Lib.hid hx
    have h2 := ints_one xs
    obtain ⟨n, hn⟩ : ∃ n, n = xs.length := ⟨_, rfl⟩
    have HN := Lib.hid hn
    rw [← hn] at h1 ⊢
    clear hn hx
    obtain ⟨i0, hi, hz0, hz1, hz2⟩ := info_parts Try.infoInt
    have HO := Lib.hid (World.ownsRow_lit (base := w.heap.size) (e := 3) (size := 1) w #[] 0 (Nat.le_refl _) (by unfold maxLen; omega) rfl)
    have HR : Hid (Reads (w.alloc (.cells #[] 3)) (w.heap.size + 1) 1 (some ad) n (ints xs)) := by
      have h := HX.out.alloc (.cells #[] 3)
      unfold RInts at h
      rw [← HN.out, World.size_alloc] at h
      exact h
    go_enter Try.func34, Try.ntmps34
    go_wp2_with (at_builtin; refine wpList_append_any _ rfl _ _ 22 rfl w.heap.size 3 i0 (.int .i64 0) 1 8 Try.underlying22 hi hz0 hz1 hz2 rfl (by decide) _ _ _ rfl HO.out _ _ _ _ (ints xs) rfl HR.out h2 (by unfold maxLen; omega) (by omega) (by simp) ?_)
    intro v' w5 hown5 hg5 hv5
    have hB5 : Below w.heap.size w w5 := ((Below.refl w.heap.size w).alloc (Nat.le_refl _) (.cells #[] 3)).grown hg5 (by simp) (fun k hk => (HO.out.lt k hk).1)
    have hfin : Hid (IntsOut xs w (.returned v') w5) := ints_out (n := 0 + n) (by simpa using hown5) (Nat.le_refl _) hB5
    clear hown5 hg5 hv5 hB5
    go_wp2_with fail
    go_ret
    exact hfin.out

/-- Are two loads equal? -/
def Ld.same (a b : Ld) : Bool := decide (a.name = b.name) && (decide (a.early = b.early) && (decide (a.late = b.late) && decide (a.prof = b.prof)))
theorem Ld.same_refl (a : Ld) : a.same a = true := by simp [Ld.same]
set_option maxHeartbeats 2000000 in
theorem lsame_any (a b : Ld) (A B : Option Addr) (c d : Nat) (w : World) (hA0 : RInts w A a.prof) (hB0 : RInts w B b.prof) (hl : a.prof.length < 1000000000) (hab : a = b) :
    Calls Try.prog 26 #[a.v A c, b.v B d] w fun e w' => e = .returned (.bool true) ∧ Below w.heap.size w w' := by
  subst hab
  have hA := Lib.hid hA0
  have hB := Lib.hid hB0
  have he : Hid (∀ W, RInts W A a.prof → RInts W B a.prof → Calls Try.prog 11 #[.slice A a.prof.length c, .slice B a.prof.length d] W fun e w' => e = .returned (.bool true) ∧ Below W.heap.size W w') := by
    intro W h1 h2
    have h := equal_any A B c d a.prof a.prof W h1 h2 hl
    rwa [show decide (a.prof = a.prof) = true by simp] at h
  simp only [Ld.v]
  clear hA0 hB0
  go_enter Try.func26, Try.ntmps26
  go_wp2_with fail
  refine (he.out _ ((hA.out.alloc _).alloc _) ((hB.out.alloc _).alloc _)).mono ?_
  rintro e w1 ⟨rfl, hb1⟩
  have hB1 : Hid (Below w.heap.size w w1) := (((Below.refl _ _).alloc (Nat.le_refl _) _).alloc (by simp) _).trans (hb1.mono (by simp; omega))
  go_wp2_with fail
  go_ret
  exact ⟨rfl, hB1.out⟩
end Go.Proofs.Ytnibhdpgjmdkeaa
