/-
  The walk of the chapter's examples (layer 41, load): awake returns true.
-/
import Derived.Test.YtnibhdpgjmdkeaaL20
import Derived.Test.YtnibhdpgjmdkeaaL17
namespace Go.Proofs.Ytnibhdpgjmdkeaa
open Go.RowKit

/-- The load of the examples. -/
def ldE : Ld := ⟨⟨#[119, 97, 115, 104]⟩, [5, 0, 7], 2, 6⟩
def ldE3 : Ld := ⟨⟨#[119, 97, 115, 104]⟩, [5, 0, 7], 0, 3⟩
theorem rloads_lit {W : World} (cs : Array Value) (t : TypeId) {l : List LdM} (h : ∀ x ∈ l, RInts W x.A x.r.prof) (hcs : cs.toList = ldCells l) : RLoads (W.alloc (.cells cs t)) (some ⟨W.heap.size, 0, none⟩) l := by
  refine ⟨⟨by rw [ldCells_length], fun _ => ⟨_, rfl, by simp, fun j u hu => ?_⟩⟩, fun x hx => (h x hx).alloc _⟩
  rw [addr_add, Nat.zero_add, (Blk.new W t cs).cell j, ← hu, ← hcs]
  simp
section
variable {A : Option Addr} {c : Nat} {W : World}
theorem aw_k6 (h : RInts W A [5, 0, 7]) : Calls Try.prog 27 #[.agg #[.string ⟨#[119, 97, 115, 104]⟩, .slice A 3 c, .int .i64 2, .int .i64 6], .int .i64 6] W fun e w' => e = .returned (.int .i64 0) ∧ Below W.heap.size W w' := by
  have h1 := lcheck_any ldE A c 6 W h (by decide +kernel) (by decide)
  rw [show ldE.chk 6 = 0 by decide +kernel] at h1
  exact h1
theorem aw_k5 (h : RInts W A [5, 0, 7]) : Calls Try.prog 27 #[.agg #[.string ⟨#[119, 97, 115, 104]⟩, .slice A 3 c, .int .i64 2, .int .i64 6], .int .i64 5] W fun e w' => e = .returned (.int .i64 2) ∧ Below W.heap.size W w' := by
  have h1 := lcheck_any ldE A c 5 W h (by decide +kernel) (by decide)
  rw [show ldE.chk 5 = 2 by decide +kernel] at h1
  exact h1
theorem aw_st (h : RInts W A [5, 0, 7]) : Calls Try.prog 12 #[.agg #[.string ⟨#[119, 97, 115, 104]⟩, .slice A 3 c, .int .i64 2, .int .i64 6], .int .i64 6] W (IntsOut [2, 3] W) := by
  have h1 := lstarts_any ldE A c 6 W h (by decide +kernel) (by decide)
  rw [show ldE.starts 6 = [2, 3] by decide +kernel] at h1
  exact h1
theorem aw_f3 (h : RInts W A [5, 0, 7]) : Calls Try.prog 14 #[.agg #[.string ⟨#[119, 97, 115, 104]⟩, .slice A 3 c, .int .i64 2, .int .i64 6], .int .i64 3, .int .i64 6] W fun e w' => e = .returned (.bool true) ∧ Below W.heap.size W w' := by
  have h1 := lfit_any ldE A c 3 6 W h (by decide +kernel) (by decide)
  rw [show ldE.fit 3 6 = true by decide +kernel] at h1
  exact h1
theorem aw_f4 (h : RInts W A [5, 0, 7]) : Calls Try.prog 14 #[.agg #[.string ⟨#[119, 97, 115, 104]⟩, .slice A 3 c, .int .i64 2, .int .i64 6], .int .i64 4, .int .i64 6] W fun e w' => e = .returned (.bool false) ∧ Below W.heap.size W w' := by
  have h1 := lfit_any ldE A c 4 6 W h (by decide +kernel) (by decide)
  rw [show ldE.fit 4 6 = false by decide +kernel] at h1
  exact h1
theorem aw_en (h : RInts W A [5, 0, 7]) : Calls Try.prog 20 #[.agg #[.string ⟨#[119, 97, 115, 104]⟩, .slice A 3 c, .int .i64 2, .int .i64 6]] W fun e w' => e = .returned (.int .i64 12) ∧ Below W.heap.size W w' := by
  have h1 := lenergy_any ldE A c W h (by decide)
  rw [show ldE.energy = 12 by decide +kernel] at h1
  exact h1
theorem aw_la : Calls Try.prog 16 #[.agg #[.string ⟨#[119, 97, 115, 104]⟩, .slice A 3 c, .int .i64 2, .int .i64 6]] W fun e w' => e = .returned (.int .i64 3) ∧ Below W.heap.size W w' := by
  have h1 := llast_any ldE A c W
  rw [show ldE.last = 3 by decide +kernel] at h1
  exact h1
theorem aw_s3 (h : RInts W A [5, 0, 7]) : Calls Try.prog 24 #[.agg #[.string ⟨#[119, 97, 115, 104]⟩, .slice A 3 c, .int .i64 2, .int .i64 6], .int .i64 3] W (LdOut ldE3 true W) := by
  have h1 := lshift_any ldE A c 3 W h (by decide +kernel) (by decide)
  have e : ldE.canShift 3 = true := by decide +kernel
  rw [Ld.shift_yes e, e] at h1
  exact h1
theorem aw_s4 (h : RInts W A [5, 0, 7]) : Calls Try.prog 24 #[.agg #[.string ⟨#[119, 97, 115, 104]⟩, .slice A 3 c, .int .i64 2, .int .i64 6], .int .i64 4] W (LdOut Ld.zero false W) := by
  have h1 := lshift_any ldE A c 4 W h (by decide +kernel) (by decide)
  have e : ldE.canShift 4 = false := by decide +kernel
  rw [Ld.shift_no e, e] at h1
  exact h1
theorem aw_us {B : Option Addr} (h : RLoads W B [⟨ldE, A, c⟩]) {D : Option Addr} (hD : RInts W D [3]) : Calls Try.prog 22 #[.slice B 1 1, .slice D 1 1, .int .i64 6] W (IntsOut [0, 0, 0, 5, 0, 7] W) := by
  have h1 := luses_any B D 1 1 [⟨ldE, A, c⟩] [3] 6 W h hD (by intro x hx; simp at hx; subst hx; show ldE.prof.length < _; decide) (by intro s hs; simp at hs; subst hs; omega) (by simp) (by decide) (by decide)
  rw [show usesL ([⟨ldE, A, c⟩].map LdM.r) [3] 6 = [0, 0, 0, 5, 0, 7] by simp only [List.map_cons, List.map_nil]; decide +kernel] at h1
  exact h1
end

/-- The world of awake, where its load lies in its variable. -/
structure AwX (w W : World) : Prop where
  box : Blk W (w.heap.size + 1) 24 #[.string ⟨#[119, 97, 115, 104]⟩, .slice (some ⟨w.heap.size, 0, none⟩) 3 3, .int .i64 2, .int .i64 6]
  prof : RInts W (some ⟨w.heap.size, 0, none⟩) [5, 0, 7]
  out : Below w.heap.size w W
section
variable {w W W' : World}
theorem AwX.mk' (h : AwX w W) (hb : Below W.heap.size W W') : AwX w W' := ⟨h.box.below hb h.box.lt, h.prof.below hb, h.out.trans (hb.mono h.out.size)⟩
theorem AwX.cells (h : AwX w W) : W.cell? ⟨w.heap.size + 1, 0, none⟩ = some (.string ⟨#[119, 97, 115, 104]⟩) ∧ W.cell? ⟨w.heap.size + 1, 1, none⟩ = some (.slice (some ⟨w.heap.size, 0, none⟩) 3 3) ∧ W.cell? ⟨w.heap.size + 1, 2, none⟩ = some (.int .i64 2) ∧ W.cell? ⟨w.heap.size + 1, 3, none⟩ = some (.int .i64 6) ∧ w.heap.size + 1 < W.heap.size :=
  ⟨h.box.cell 0, h.box.cell 1, h.box.cell 2, h.box.cell 3, h.box.lt⟩
end

set_option maxHeartbeats 8000000 in
theorem awake_any (w : World) : Calls Try.prog 10 #[] w fun e w' => e = .returned (.bool true) ∧ Below w.heap.size w w' := by
  have hS0 : AwX w ((w.alloc (.cells #[.int .i64 5, .int .i64 0, .int .i64 7] 3)).alloc (.cells #[.string ⟨#[119, 97, 115, 104]⟩, .slice (some ⟨w.heap.size, 0, none⟩) 3 3, .int .i64 2, .int .i64 6] 24)) := by
    refine ⟨?_, (rints_lit w _ _ rfl).alloc _, ((Below.refl _ _).alloc (Nat.le_refl _) _).alloc (by simp) _⟩
    have h := Blk.new (w.alloc (.cells #[.int .i64 5, .int .i64 0, .int .i64 7] 3)) 24 #[.string ⟨#[119, 97, 115, 104]⟩, .slice (some ⟨w.heap.size, 0, none⟩) 3 3, .int .i64 2, .int .i64 6]
    rwa [World.size_alloc] at h
  have HS := Lib.hid hS0
  clear hS0
  go_enter Try.func10, Try.ntmps10
  go_wp2_with fail
  refine (aw_s3 HS.out.prof).mono ?_
  rintro e v1 ⟨A1, c1, rfl, hr1, _, hb1⟩
  have S1 := Lib.hid (HS.out.mk' hb1)
  obtain ⟨y0, y1, y2, y3, hz1⟩ := S1.out.cells
  clear hb1 hr1
  simp only [ldE3]
  go_wp2_with fail
  have S1' := Lib.hid (S1.out.mk' ((Below.refl _ _).alloc (Nat.le_refl _) (.cells #[.string ⟨#[119, 97, 115, 104]⟩, .slice A1 3 c1, .int .i64 0, .int .i64 3] 24)))
  have M1 := Lib.hid (Blk.new v1 24 #[.string ⟨#[119, 97, 115, 104]⟩, .slice A1 3 c1, .int .i64 0, .int .i64 3])
  clear y0 y1 y2 y3
  refine (aw_s4 S1'.out.prof).mono ?_
  rintro e v2 ⟨A2, c2, rfl, hr2, _, hb2⟩
  have S2 := Lib.hid (S1'.out.mk' hb2)
  have M2 := Lib.hid (M1.out.below hb2 (by simp))
  obtain ⟨y0, y1, y2, y3, hz2⟩ := S2.out.cells
  have hm2 := M2.out.lt
  clear hb2 hr2 M1 hz1 S1 S1' HS
  simp only [Ld.zero]
  go_wp2_with fail
  have S2' := Lib.hid (S2.out.mk' ((Below.refl _ _).alloc (Nat.le_refl _) (.cells #[.string ByteArray.empty, .slice A2 0 c2, .int .i64 0, .int .i64 0] 24)))
  have M2' := Lib.hid (M2.out.alloc (.cells #[.string ByteArray.empty, .slice A2 0 c2, .int .i64 0, .int .i64 0] 24))
  clear y0 y1 y2 y3
  refine (aw_k6 S2'.out.prof).mono ?_
  rintro e v3 ⟨rfl, hb3⟩
  have S3 := Lib.hid (S2'.out.mk' hb3)
  have M3 := Lib.hid (M2'.out.below hb3 M2'.out.lt)
  obtain ⟨y0, y1, y2, y3, hz3⟩ := S3.out.cells
  have hm3 := M3.out.lt
  clear hb3  S2' M2'
  go_wp2_with fail
  clear y0 y1 y2 y3
  refine (aw_k5 S3.out.prof).mono ?_
  rintro e v4 ⟨rfl, hb4⟩
  have S4 := Lib.hid (S3.out.mk' hb4)
  have M4 := Lib.hid (M3.out.below hb4 M3.out.lt)
  obtain ⟨y0, y1, y2, y3, hz4⟩ := S4.out.cells
  have hm4 := M4.out.lt
  clear hb4  S3 M3
  go_wp2_with fail
  clear y0 y1 y2 y3
  refine (aw_st S4.out.prof).mono ?_
  rintro e v5 ⟨A5, c5, rfl, hr5, _, hb5⟩
  have S5 := Lib.hid (S4.out.mk' hb5)
  have M5 := Lib.hid (M4.out.below hb5 M4.out.lt)
  have R5 := Lib.hid hr5
  obtain ⟨y0, y1, y2, y3, hz5⟩ := S5.out.cells
  have hm5 := M5.out.lt
  clear hb5 hr5 S4 M4
  go_wp2_with fail
  clear y0 y1 y2 y3
  have S5x := Lib.hid (S5.out.mk' ((Below.refl _ _).alloc (Nat.le_refl _) (.cells #[.int .i64 2, .int .i64 3] 3)))
  have M5x := Lib.hid (M5.out.alloc (.cells #[.int .i64 2, .int .i64 3] 3))
  clear S5 M5
  refine (equal_at [2, 3] [2, 3] rfl rfl (R5.out.alloc _) (rints_lit _ _ _ rfl) (by decide)).mono ?_
  rintro e v6 ⟨rfl, hb6⟩
  have S6 := Lib.hid (S5x.out.mk' hb6)
  have M6 := Lib.hid (M5x.out.below hb6 M5x.out.lt)
  obtain ⟨y0, y1, y2, y3, hz6⟩ := S6.out.cells
  have hm6 := M6.out.lt
  clear hb6 R5 S5x M5x
  go_wp2_with fail
  clear y0 y1 y2 y3
  refine (aw_f3 S6.out.prof).mono ?_
  rintro e v7 ⟨rfl, hb7⟩
  have S7 := Lib.hid (S6.out.mk' hb7)
  have M7 := Lib.hid (M6.out.below hb7 M6.out.lt)
  obtain ⟨y0, y1, y2, y3, hz7⟩ := S7.out.cells
  have hm7 := M7.out.lt
  clear hb7  S6 M6
  go_wp2_with fail
  clear y0 y1 y2 y3
  refine (aw_f4 S7.out.prof).mono ?_
  rintro e v8 ⟨rfl, hb8⟩
  have S8 := Lib.hid (S7.out.mk' hb8)
  have M8 := Lib.hid (M7.out.below hb8 M7.out.lt)
  obtain ⟨y0, y1, y2, y3, hz8⟩ := S8.out.cells
  have hm8 := M8.out.lt
  clear hb8  S7 M7
  go_wp2_with fail
  clear y0 y1 y2 y3
  have RL := Lib.hid ((rloads_lit (W := v8) #[.string ⟨#[119, 97, 115, 104]⟩, .slice (some ⟨w.heap.size, 0, none⟩) 3 3, .int .i64 2, .int .i64 6] 24 (l := [⟨ldE, some ⟨w.heap.size, 0, none⟩, 3⟩]) (by intro x hx; simp at hx; subst hx; exact S8.out.prof) rfl).alloc (.cells #[.int .i64 3] 3))
  have RD := rints_lit (v8.alloc (.cells #[.string ⟨#[119, 97, 115, 104]⟩, .slice (some ⟨w.heap.size, 0, none⟩) 3 3, .int .i64 2, .int .i64 6] 24)) #[.int .i64 3] 3 (l := [3]) rfl
  rw [World.size_alloc] at RD
  have S8x := Lib.hid (S8.out.mk' ((Below.refl _ _).alloc (Nat.le_refl _) (.cells #[.string ⟨#[119, 97, 115, 104]⟩, .slice (some ⟨w.heap.size, 0, none⟩) 3 3, .int .i64 2, .int .i64 6] 24)))
  have M8x := Lib.hid (M8.out.alloc (.cells #[.string ⟨#[119, 97, 115, 104]⟩, .slice (some ⟨w.heap.size, 0, none⟩) 3 3, .int .i64 2, .int .i64 6] 24))
  clear S8 M8
  have S8xx := Lib.hid (S8x.out.mk' ((Below.refl _ _).alloc (Nat.le_refl _) (.cells #[.int .i64 3] 3)))
  have M8xx := Lib.hid (M8x.out.alloc (.cells #[.int .i64 3] 3))
  clear S8x M8x
  refine (aw_us RL.out RD).mono ?_
  rintro e v9 ⟨A9, c9, rfl, hr9, _, hb9⟩
  have S9 := Lib.hid (S8xx.out.mk' hb9)
  have M9 := Lib.hid (M8xx.out.below hb9 M8xx.out.lt)
  have R9 := Lib.hid hr9
  obtain ⟨y0, y1, y2, y3, hz9⟩ := S9.out.cells
  have hm9 := M9.out.lt
  clear hb9 hr9 RL RD S8xx M8xx
  go_wp2_with fail
  clear y0 y1 y2 y3
  have S9x := Lib.hid (S9.out.mk' ((Below.refl _ _).alloc (Nat.le_refl _) (.cells #[.int .i64 0, .int .i64 0, .int .i64 0, .int .i64 5, .int .i64 0, .int .i64 7] 3)))
  have M9x := Lib.hid (M9.out.alloc (.cells #[.int .i64 0, .int .i64 0, .int .i64 0, .int .i64 5, .int .i64 0, .int .i64 7] 3))
  clear S9 M9
  refine (equal_at [0, 0, 0, 5, 0, 7] [0, 0, 0, 5, 0, 7] rfl rfl (R9.out.alloc _) (rints_lit _ _ _ rfl) (by decide)).mono ?_
  rintro e v10 ⟨rfl, hb10⟩
  have S10 := Lib.hid (S9x.out.mk' hb10)
  have M10 := Lib.hid (M9x.out.below hb10 M9x.out.lt)
  obtain ⟨y0, y1, y2, y3, hz10⟩ := S10.out.cells
  have hm10 := M10.out.lt
  clear hb10 R9 S9x M9x
  go_wp2_with fail
  clear y0 y1 y2 y3
  refine (aw_en S10.out.prof).mono ?_
  rintro e v11 ⟨rfl, hb11⟩
  have S11 := Lib.hid (S10.out.mk' hb11)
  have M11 := Lib.hid (M10.out.below hb11 M10.out.lt)
  obtain ⟨y0, y1, y2, y3, hz11⟩ := S11.out.cells
  have hm11 := M11.out.lt
  clear hb11  S10 M10
  go_wp2_with fail
  clear y0 y1 y2 y3
  refine aw_la.mono ?_
  rintro e v12 ⟨rfl, hb12⟩
  have S12 := Lib.hid (S11.out.mk' hb12)
  have M12 := M11.out.below hb12 M11.out.lt
  have x2 := M12.cell 2; have x3 := M12.cell 3
  simp only [List.getElem?_toArray, List.getElem?_cons_zero, List.getElem?_cons_succ] at x2 x3
  clear hb12 S11 M11 M12
  go_wp2_with fail
  go_ret
  exact ⟨rfl, S12.out.out⟩
end Go.Proofs.Ytnibhdpgjmdkeaa
