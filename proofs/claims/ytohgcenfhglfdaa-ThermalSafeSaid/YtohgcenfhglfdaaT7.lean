/-
  The walks of layer 40 (thermal), part 7: outside, Drift.
-/
import Derived.Test.YtohgcenfhglfdaaT5
namespace Go.Proofs.Ytohgcenfhglfdaa
open Go.RowKit

/-- The temperatures outside that count. -/
def outsT (l : List Int) : List Int := if 96 < l.length then [] else l
theorem outsT_len (l : List Int) : (outsT l).length ≤ 96 := by
  unfold outsT
  split
  · simp
  · omega

theorem outside_any (A : Option Addr) (c : Nat) (l : List Int) (w : World) (hA : RInts w A l) :
    Calls Try.prog 33 #[.slice A l.length c] w fun e w' => ∃ A' c', e = .returned (.slice A' (outsT l).length c') ∧ RInts w A' (outsT l) ∧ w = w' := by
  by_cases h : 96 < l.length
  · have ho : outsT l = [] := by unfold outsT; rw [if_pos h]
    rw [ho]
    have h' : (96 : Int) < (l.length : Int) := by omega
    clear ho h hA
    generalize l.length = n at *
    refine Calls.mono (R := fun e w' => e = .returned (.slice none 0 0) ∧ w = w') ?_ (fun e w' hh => ⟨none, 0, hh.1, RInts.nil, hh.2⟩)
    go_enter Try.func33, Try.ntmps33
    go_wp2
    go_ret
    exact ⟨rfl, rfl⟩
  · have ho : outsT l = l := by unfold outsT; rw [if_neg h]
    rw [ho]
    have h' : ¬ (96 : Int) < (l.length : Int) := by omega
    refine Calls.mono (R := fun e w' => e = .returned (.slice A l.length c) ∧ w = w') ?_ (fun e w' hh => ⟨A, c, hh.1, hA, hh.2⟩)
    clear ho h hA
    generalize l.length = n at *
    go_enter Try.func33, Try.ntmps33
    go_wp2
    go_ret
    exact ⟨rfl, rfl⟩

/-- The temperature behind slots without heat. -/
def Rm.ends (r : Rm) (t : Int) (l : List Int) : Int := l.foldl (fun t o => r.step t o 0) t
theorem drift_snoc (r : Rm) (o : Int) : ∀ (l : List Int) (t : Int), r.drift t (l ++ [o]) = r.drift t l ++ [r.step (r.ends t l) o 0] := by
  intro l
  induction l with
  | nil => intro t; rfl
  | cons x l ih => intro t; simp only [List.cons_append, Rm.drift, ih]; rfl
theorem ends_snoc (r : Rm) (t o : Int) (l : List Int) : r.ends t (l ++ [o]) = r.step (r.ends t l) o 0 := by simp [Rm.ends, List.foldl_append]
def Rm.driftTo (r : Rm) (t : Int) (l : List Int) (k : Nat) : List Int := r.drift t (l.take k)
def Rm.endsTo (r : Rm) (t : Int) (l : List Int) (k : Nat) : Int := r.ends t (l.take k)
theorem driftTo_succ {r : Rm} {t : Int} {l : List Int} {k : Nat} (h : k < l.length) : r.driftTo t l (k + 1) = r.driftTo t l k ++ [r.step (r.endsTo t l k) l[k] 0] := by
  unfold Rm.driftTo Rm.endsTo
  rw [List.take_succ_eq_append_getElem h, drift_snoc]
theorem endsTo_succ {r : Rm} {t : Int} {l : List Int} {k : Nat} (h : k < l.length) : r.endsTo t l (k + 1) = r.step (r.endsTo t l k) l[k] 0 := by
  unfold Rm.endsTo
  rw [List.take_succ_eq_append_getElem h, ends_snoc]
theorem drift_length (r : Rm) : ∀ (l : List Int) (t : Int), (r.drift t l).length = l.length := by
  intro l
  induction l with
  | nil => intro t; rfl
  | cons x l ih => intro t; simp [Rm.drift, ih]
theorem driftTo_len (r : Rm) (t : Int) (l : List Int) (k : Nat) : (r.driftTo t l k).length ≤ k := by
  unfold Rm.driftTo
  rw [drift_length, List.length_take]; omega

set_option maxHeartbeats 4000000 in
theorem tdrift_any (r : Rm) (A B C : Option Addr) (c d f : Nat) (temp : Int) (l : List Int) (w : World) (hA : RInts w A r.low) (hB : RInts w B r.high) (hC : RInts w C l) :
    Calls Try.prog 20 #[r.v A c B d, .int .i64 temp, .slice C l.length f] w (IntsOut (r.valid.drift temp (outsT l)) w) := by
  have hv := fun w' hA' hB' => valid_any r A B c d w' hA' hB'
  have hm := model_any r.valid
  have hf := r.fine
  generalize r.valid = s at *
  have hA1 : RInts (w.alloc (.cells #[.int .i64 r.gain, .int .i64 r.loss, .int .i64 r.steps, .int .i64 r.power, .slice A r.low.length c, .slice B r.high.length d] 24)) A r.low := hA.alloc _
  have hB1 : RInts (w.alloc (.cells #[.int .i64 r.gain, .int .i64 r.loss, .int .i64 r.steps, .int .i64 r.power, .slice A r.low.length c, .slice B r.high.length d] 24)) B r.high := hB.alloc _
  have ho := fun w' hC' => outside_any C f l w' hC'
  have hol := outsT_len l
  simp only [Rm.v] at hv hm ⊢
  have HV := Lib.hid hv
  have HM := Lib.hid hm
  have HA := Lib.hid hA1
  have HB := Lib.hid hB1
  have HF := Lib.hid hf
  have HO := Lib.hid ho
  have HC := Lib.hid hC
  clear hv hm hA hB hA1 hB1 hf ho hC
  generalize outsT l = xs at *
  generalize l.length = ln at *
  obtain ⟨i0, hi, hz0, hz1, hz2⟩ := info_parts Try.infoInt
  go_enter Try.func20, Try.ntmps20
  go_wp2_with fail
  refine (HV.out _ HA.out HB.out).mono ?_
  rintro e w1 ⟨A', c', B', d', rfl, hA', hB', hb1⟩
  have hW1 : Below w.heap.size w w1 := ((Below.refl _ _).alloc (Nat.le_refl _) _).trans (hb1.mono (by simp))
  clear HA HB HV hb1
  simp only [Rm.v]
  go_wp2_with fail
  refine (HM.out _ _ _ _ _).mono ?_
  rintro e w2 ⟨rfl, hw2⟩
  subst hw2
  have hCW := Lib.hid ((HC.out.below hW1).alloc (.cells #[.int .i64 s.gain, .int .i64 s.loss, .int .i64 s.steps, .int .i64 s.power, .slice A' s.low.length c', .slice B' s.high.length d'] 24))
  go_wp2_with fail
  refine (HO.out _ hCW.out).mono ?_
  rintro e w2 ⟨C', f', rfl, hC', rfl⟩
  have HC' := Lib.hid hC'
  clear hC' HM HO HC hCW hA' hB'
  obtain ⟨N, hN⟩ : ∃ N, N = xs.length := ⟨_, rfl⟩
  rw [← hN] at hol ⊢
  have HN := Lib.hid hN
  clear hN
  go_wp2_with fail
  go_loopw [8, 9, 19] (fun o t i' wr => ∃ k : Nat, k ≤ N ∧ i' = .int .i64 k ∧ t = .int .i64 (s.endsTo temp xs k) ∧ wr.ownsRow (w1.heap.size + 1) 3 1 o (s.driftTo temp xs k).length (ints (s.driftTo temp xs k)) ∧
      Below (w1.heap.size + 1) (w1.alloc (.cells #[.int .i64 s.gain, .int .i64 s.loss, .int .i64 s.steps, .int .i64 s.power, .slice A' s.low.length c', .slice B' s.high.length d'] 24)) wr)
    (fun _ _ i' _ => N - (intOf i').toNat)
  case atStart => exact ⟨0, by omega, rfl, rfl, World.ownsRow_nil _ _ _ _, Below.refl _ _⟩
  case round =>
    obtain ⟨k, hk, rfl, rfl, hown, hB⟩ := hrel
    have hlen := driftTo_len s temp xs k
    have hsz := hB.size
    simp only [World.size_alloc] at hsz
    by_cases hlt : k < N
    · have hkx : k < xs.length := by rw [← HN.out]; exact hlt
      obtain ⟨bb, oo, hCe, hbb, hbc⟩ := HC'.out.at' hkx
      subst hCe
      have hbc' : wr.cell? ⟨bb, oo + k, none⟩ = some (.int .i64 xs[k]) := (hB.cell (p := ⟨bb, oo + k, none⟩) (by simpa using hbb)).trans hbc
      have hds := Lib.hid (driftTo_succ (r := s) (t := temp) hkx)
      have hes := Lib.hid (endsTo_succ (r := s) (t := temp) hkx)
      have hcc := (bcell' hB).1 w1.heap.size
      have hcall := model1_any s.gain s.loss s.steps (s.endsTo temp xs k) xs[k] 0 w1.heap.size wr HF.out.g0 HF.out.g1 HF.out.l0 HF.out.l1 HF.out.s0 HF.out.s1 (by rw [hcc _ (by omega)]; simp) (by rw [hcc _ (by omega)]; simp) (by rw [hcc _ (by omega)]; simp)
      have HCALL := Lib.hid hcall
      clear hbc hcc hcall
      unfold Rm.step at hds hes
      generalize xs[k] = x at *
      generalize s.endsTo temp xs k = t at *
      generalize stepT s.gain s.loss s.steps t x 0 = u at *
      go_wp2_with fail
      refine HCALL.out.mono ?_
      rintro e w3 ⟨rfl, n3, rfl⟩
      have hown3 := own_drewN hown n3
      clear hown HCALL
      go_wp2_with (at_builtin; refine wpList_append_new _ _ rfl _ _ 22 rfl (w1.heap.size + 1) 3 i0 (.int .i64 0) 1 8 Try.underlying22 hi hz0 hz1 hz2 rfl (by decide) (by decide) _ _ _ rfl hown3 #[.int .i64 u] rfl (one_int _ _) rfl rfl (by omega) (by simp; omega) ?_)
      intro v' w5 hown5 hb5
      clear hown3
      go_wp2
      go_roundw
      case rel =>
        refine ⟨k + 1, by omega, by go_num, by rw [hes.out], ?_, (below_drewN hB n3).trans hb5⟩
        rw [hds.out, ints_append, List.length_append]
        exact hown5
      case measure => simp [intOf]; omega
    · have hkn : s.driftTo temp xs k = s.drift temp xs := by
        unfold Rm.driftTo
        rw [List.take_of_length_le (by rw [← HN.out]; omega)]
      rw [hkn] at hown
      clear hkn
      go_wp2_with fail
      go_ret
      exact ints_out hown (by have := hW1.size; omega) (hW1.trans (((Below.refl _ _).alloc hW1.size _).trans (hB.mono (by have := hW1.size; omega))))
end Go.Proofs.Ytohgcenfhglfdaa
