/-
  The walks of layer 40 (thermal), part 2: Check.
-/
import Derived.Test.YtnppngaabfhkpaaFT1
namespace Go.Proofs.Ytnppngaabfhkpaa
open Go.RowKit

theorem getD_eq {l : List Int} {k : Nat} (h : k < l.length) : l[k] = l.getD k 0 := by
  rw [List.getD_eq_getElem?_getD, List.getElem?_eq_getElem h]; rfl

set_option maxHeartbeats 4000000 in
theorem tcheck_size (r : Rm) (A B : Option Addr) (c d : Nat) (n : Int) (w : World) (h : r.sizeOk n = false) :
    Calls Try.prog 52 #[r.v A c B d, .int .i64 n] w fun e w' => e = .returned (.int .i64 3) ∧ Below w.heap.size w w' := by
  simp only [Rm.v]
  rcases Rm.size_false h with k | ⟨k, k2⟩ | ⟨k, k2, k3⟩
  · have h1 : wT n 1 96 = false := wT_false.2 k
    clear h k
    go_enter Try.func52, Try.ntmps52
    go_wp2_with (go_at_call 98; refine (tbetween_any _ _ _ _).mono ?_; rintro e w' ⟨rfl, rfl⟩)
    go_ret
    exact ⟨rfl, (Below.refl _ _).alloc (Nat.le_refl _) _⟩
  · have h1 : wT n 1 96 = true := wT_true.2 k
    have h2 : ((r.low.length : Int) != n) = true := by rw [bne_iff_ne]; exact k2
    clear h k k2
    go_enter Try.func52, Try.ntmps52
    go_wp2_with (go_at_call 98; refine (tbetween_any _ _ _ _).mono ?_; rintro e w' ⟨rfl, rfl⟩)
    go_ret
    exact ⟨rfl, (Below.refl _ _).alloc (Nat.le_refl _) _⟩
  · have h1 : wT n 1 96 = true := wT_true.2 k
    have h2 : ((r.low.length : Int) != n) = false := by rw [bne_eq_false_iff_eq]; exact k2
    have h3 : ((r.high.length : Int) != n) = true := by rw [bne_iff_ne]; exact k3
    clear h k k2 k3
    go_enter Try.func52, Try.ntmps52
    go_wp2_with (go_at_call 98; refine (tbetween_any _ _ _ _).mono ?_; rintro e w' ⟨rfl, rfl⟩)
    go_ret
    exact ⟨rfl, (Below.refl _ _).alloc (Nat.le_refl _) _⟩

set_option maxHeartbeats 4000000 in
theorem tcheck_nums (r : Rm) (A B : Option Addr) (c d : Nat) (n : Int) (w : World) (h : r.sizeOk n = true) (hn : r.numsOk = false) :
    Calls Try.prog 52 #[r.v A c B d, .int .i64 n] w fun e w' => e = .returned (.int .i64 2) ∧ Below w.heap.size w w' := by
  simp only [Rm.v]
  obtain ⟨k1, k2, k3, k4⟩ := Rm.size_true h
  have h1 : wT n 1 96 = true := wT_true.2 ⟨k1, k2⟩
  have h2 : ((r.low.length : Int) != n) = false := by rw [bne_eq_false_iff_eq]; exact k3
  have h3 : ((r.high.length : Int) != n) = false := by rw [bne_eq_false_iff_eq]; exact k4
  have hcs : wT r.gain 0 100 = false ∨ (wT r.gain 0 100 = true ∧ wT r.loss 0 1000 = false) ∨ (wT r.gain 0 100 = true ∧ wT r.loss 0 1000 = true ∧ wT r.steps 0 40 = false) ∨ (wT r.gain 0 100 = true ∧ wT r.loss 0 1000 = true ∧ wT r.steps 0 40 = true ∧ wT r.power 0 1000 = false) := by
    simp only [Rm.numsOk] at hn
    cases e1 : wT r.gain 0 100 <;> cases e2 : wT r.loss 0 1000 <;> cases e3 : wT r.steps 0 40 <;> cases e4 : wT r.power 0 1000 <;> simp_all
  clear h hn k1 k2 k3 k4
  rcases hcs with g1 | ⟨g1, g2⟩ | ⟨g1, g2, g3⟩ | ⟨g1, g2, g3, g4⟩
  all_goals
    go_enter Try.func52, Try.ntmps52
    go_wp2_with (go_at_call 98; refine (tbetween_any _ _ _ _).mono ?_; rintro e w' ⟨rfl, rfl⟩)
    go_ret
    exact ⟨rfl, (Below.refl _ _).alloc (Nat.le_refl _) _⟩

set_option maxHeartbeats 4000000 in
theorem tcheck_slots (r : Rm) (A B : Option Addr) (c d : Nat) (n : Int) (w : World) (h : r.sizeOk n = true) (hn : r.numsOk = true) (hA : RInts w A r.low) (hB : RInts w B r.high) :
    Calls Try.prog 52 #[r.v A c B d, .int .i64 n] w fun e w' => e = .returned (.int .i64 (r.slotErr r.low.length)) ∧ Below w.heap.size w w' := by
  simp only [Rm.v]
  obtain ⟨k1, k2, k3, k4⟩ := Rm.size_true h
  have h1 : wT n 1 96 = true := wT_true.2 ⟨k1, k2⟩
  have h2 : ((r.low.length : Int) != n) = false := by rw [bne_eq_false_iff_eq]; exact k3
  have h3 : ((r.high.length : Int) != n) = false := by rw [bne_eq_false_iff_eq]; exact k4
  simp only [Rm.numsOk, Bool.and_eq_true] at hn
  obtain ⟨g1, g2, g3, g4⟩ := hn
  have hLH : r.high.length = r.low.length := by omega
  have hL : r.low.length ≤ 96 := by omega
  have HLH := Lib.hid hLH
  have HA := Lib.hid hA
  have HB := Lib.hid hB
  rw [hLH] at h3 ⊢
  clear h k1 k2 k3 k4 hLH hA hB
  obtain ⟨L, hLe⟩ : ∃ L, L = r.low.length := ⟨_, rfl⟩
  rw [← hLe] at h2 h3 hL ⊢
  have HL := Lib.hid hLe
  clear hLe
  go_enter Try.func52, Try.ntmps52
  go_wp2_with (go_at_call 98; refine (tbetween_any _ _ _ _).mono ?_; rintro e w' ⟨rfl, rfl⟩)
  go_loop [49] (fun i => ∃ k : Nat, k ≤ L ∧ i = .int .i64 k ∧ Hid (r.slotsTo k = true)) (fun i => L - (intOf i).toNat)
  case atStart => exact ⟨0, by omega, rfl, by show _ = _; rfl⟩
  case round =>
    obtain ⟨k, hk, rfl, hsl⟩ := hrel
    by_cases hlt : k < L
    · have hka : k < r.low.length := by rw [← HL.out]; exact hlt
      have hkb : k < r.high.length := by rw [HLH.out]; exact hka
      obtain ⟨ba, oa, hAe, hab, hac⟩ := HA.out.at' hka
      obtain ⟨bb, ob, hBe, hbb, hbc⟩ := HB.out.at' hkb
      subst hAe hBe
      have hac' := hac
      have hbc' := hbc
      rw [getD_eq hka] at hac'
      rw [getD_eq hkb] at hbc'
      have hss := Lib.hid (Rm.slotsTo_succ r k)
      clear hac hbc
      generalize r.low.getD k 0 = lo at *
      generalize r.high.getD k 0 = hi at *
      have hcs : (lo < -500 ∧ slotOk lo hi = false) ∨ (-500 ≤ lo ∧ hi < lo ∧ slotOk lo hi = false) ∨ (-500 ≤ lo ∧ lo ≤ hi ∧ 1000 < hi ∧ slotOk lo hi = false) ∨ (-500 ≤ lo ∧ lo ≤ hi ∧ hi ≤ 1000 ∧ slotOk lo hi = true) := by
        cases e : slotOk lo hi
        · have : ¬ (-500 ≤ lo ∧ lo ≤ hi ∧ hi ≤ 1000) := fun g => by rw [slotOk_true.2 g] at e; cases e
          simp; omega
        · have := slotOk_true.1 e
          simp; omega
      have hca : (w.alloc (.cells #[.int .i64 r.gain, .int .i64 r.loss, .int .i64 r.steps, .int .i64 r.power, .slice (some ⟨ba, oa, none⟩) L c, .slice (some ⟨bb, ob, none⟩) L d] 28)).cell? ⟨ba, oa + k, none⟩ = some (.int .i64 lo) :=
        (World.cell?_alloc_lt w _ _ hab).trans hac'
      have hcb : (w.alloc (.cells #[.int .i64 r.gain, .int .i64 r.loss, .int .i64 r.steps, .int .i64 r.power, .slice (some ⟨ba, oa, none⟩) L c, .slice (some ⟨bb, ob, none⟩) L d] 28)).cell? ⟨bb, ob + k, none⟩ = some (.int .i64 hi) :=
        (World.cell?_alloc_lt w _ _ hbb).trans hbc'
      clear hac' hbc'
      rcases hcs with ⟨m1, m2⟩ | ⟨m1, m2, m3⟩ | ⟨m1, m2, m3, m4⟩ | ⟨m1, m2, m3, m4⟩
      · have hf : Hid (r.slotErr L = 2) := by
          show _ = _
          unfold Rm.slotErr
          rw [if_neg]
          rw [Rm.slotsTo_le (k := k + 1) (by rw [hss.out, m2, Bool.and_false]) (by omega)]; simp
        clear m2
        go_wp2_with fail
        go_ret
        exact ⟨ret_int hf.out.symm, (Below.refl _ _).alloc (Nat.le_refl _) _⟩
      · have hf : Hid (r.slotErr L = 2) := by
          show _ = _
          unfold Rm.slotErr
          rw [if_neg]
          rw [Rm.slotsTo_le (k := k + 1) (by rw [hss.out, m3, Bool.and_false]) (by omega)]; simp
        clear m3
        go_wp2_with fail
        go_ret
        exact ⟨ret_int hf.out.symm, (Below.refl _ _).alloc (Nat.le_refl _) _⟩
      · have hf : Hid (r.slotErr L = 2) := by
          show _ = _
          unfold Rm.slotErr
          rw [if_neg]
          rw [Rm.slotsTo_le (k := k + 1) (by rw [hss.out, m4, Bool.and_false]) (by omega)]; simp
        clear m4
        go_wp2_with fail
        go_ret
        exact ⟨ret_int hf.out.symm, (Below.refl _ _).alloc (Nat.le_refl _) _⟩
      · have hn : Hid (r.slotsTo (k + 1) = true) := by show _ = _; rw [hss.out, hsl.out, m4]; rfl
        clear m4
        go_wp2_with fail
        go_round
        case rel => exact ⟨k + 1, by omega, by go_num, hn⟩
        case measure => simp [intOf]; omega
    · obtain rfl : k = L := by omega
      go_wp2_with fail
      go_ret
      exact ⟨ret_int (by unfold Rm.slotErr; rw [if_pos hsl.out]), (Below.refl _ _).alloc (Nat.le_refl _) _⟩

theorem tcheck_any (r : Rm) (A B : Option Addr) (c d : Nat) (n : Int) (w : World) (hA : RInts w A r.low) (hB : RInts w B r.high) :
    Calls Try.prog 52 #[r.v A c B d, .int .i64 n] w fun e w' => e = .returned (.int .i64 (r.chk n)) ∧ Below w.heap.size w w' := by
  by_cases h1 : r.sizeOk n = true
  · by_cases h2 : r.numsOk = true
    · have h := tcheck_slots r A B c d n w h1 h2 hA hB
      have e : r.chk n = r.slotErr r.low.length := by unfold Rm.chk Rm.slotErr; rw [if_pos h1, if_pos h2]
      rw [e]; exact h
    · simp only [Bool.not_eq_true] at h2
      rw [Rm.chk_nums h1 h2]; exact tcheck_nums r A B c d n w h1 h2
  · simp only [Bool.not_eq_true] at h1
    rw [Rm.chk_size h1]; exact tcheck_size r A B c d n w h1
end Go.Proofs.Ytnppngaabfhkpaa
