/-
  The walks of layer 40 (thermal), part 3: valid, model, comfortable, Step, Ok.
-/
import Derived.Test.YtohgcenfhglfdaaT2
namespace Go.Proofs.Ytohgcenfhglfdaa
open Go.RowKit

/-- What a call that returns a room leaves. -/
def RoomOut (r : Rm) (w : World) (e : Ending) (w' : World) : Prop := ∃ A c B d, e = .returned (r.v A c B d) ∧ RInts w' A r.low ∧ RInts w' B r.high ∧ Below w.heap.size w w'

theorem Rm.chk_of_not {r : Rm} (h : ¬ r.ok = true) : r.chk r.low.length ≠ 0 := by
  intro g; exact h (by simp [Rm.ok, g])
theorem Rm.chk_of_ok {r : Rm} (h : r.ok = true) : r.chk r.low.length = 0 := by simpa [Rm.ok] using h

set_option maxHeartbeats 4000000 in
theorem valid_any (r : Rm) (A B : Option Addr) (c d : Nat) (w : World) (hA : RInts w A r.low) (hB : RInts w B r.high) :
    Calls Try.prog 29 #[r.v A c B d] w (RoomOut r.valid w) := by
  have hch := fun w' hA' hB' => tcheck_any r A B c d r.low.length w' hA' hB'
  by_cases hok : r.ok = true
  · rw [Rm.valid_ok hok]
    rw [Rm.chk_of_ok hok] at hch
    have hA1 : RInts ((w.alloc (.cells #[.int .i64 r.gain, .int .i64 r.loss, .int .i64 r.steps, .int .i64 r.power, .slice A r.low.length c, .slice B r.high.length d] 24)).alloc (.cells #[.int .i64 0, .int .i64 0, .int .i64 0, .int .i64 0, .slice none 0 0, .slice none 0 0] 24)) A r.low := (hA.alloc _).alloc _
    have hB1 : RInts ((w.alloc (.cells #[.int .i64 r.gain, .int .i64 r.loss, .int .i64 r.steps, .int .i64 r.power, .slice A r.low.length c, .slice B r.high.length d] 24)).alloc (.cells #[.int .i64 0, .int .i64 0, .int .i64 0, .int .i64 0, .slice none 0 0, .slice none 0 0] 24)) B r.high := (hB.alloc _).alloc _
    simp only [Rm.v] at hch ⊢
    have HC := Lib.hid hch
    have HA := Lib.hid hA1
    have HB := Lib.hid hB1
    have HA0 := Lib.hid hA
    have HB0 := Lib.hid hB
    clear hch hA hB hok hA1 hB1
    go_enter Try.func29, Try.ntmps29
    go_wp2_with fail
    refine (HC.out _ HA.out HB.out).mono ?_
    rintro e w1 ⟨rfl, hb⟩
    obtain ⟨hc, hf⟩ := bcell hb
    have hz : w.heap.size + 1 < w1.heap.size := by have := hb.size; simp at this; omega
    go_wp2_with fail
    have hW : Below w.heap.size w w1 := (((Below.refl _ _).alloc (Nat.le_refl _) _).alloc (by simp) _).trans (hb.mono (by simp; omega))
    have hW6 := (((((hW.setCell (p := ⟨w.heap.size + 1, 0, none⟩) (by simp) (.int .i64 r.gain)).setCell (p := ⟨w.heap.size + 1, 1, none⟩) (by simp) (.int .i64 r.loss)).setCell (p := ⟨w.heap.size + 1, 2, none⟩) (by simp) (.int .i64 r.steps)).setCell (p := ⟨w.heap.size + 1, 3, none⟩) (by simp) (.int .i64 r.power)).setCell (p := ⟨w.heap.size + 1, 4, none⟩) (by simp) (.slice A r.low.length c)).setCell (p := ⟨w.heap.size + 1, 5, none⟩) (by simp) (.slice B r.high.length d)
    refine bodyPost_ret (v := .agg #[.int .i64 r.gain, .int .i64 r.loss, .int .i64 r.steps, .int .i64 r.power, .slice A r.low.length c, .slice B r.high.length d]) (by simp [results, Try.results29, go_sem, hc]) rfl ?_
    exact ⟨A, c, B, d, rfl, HA0.out.below hW6, HB0.out.below hW6, hW6⟩
  · rw [Rm.valid_not hok]
    have hne := Rm.chk_of_not hok
    have hA1 : RInts ((w.alloc (.cells #[.int .i64 r.gain, .int .i64 r.loss, .int .i64 r.steps, .int .i64 r.power, .slice A r.low.length c, .slice B r.high.length d] 24)).alloc (.cells #[.int .i64 0, .int .i64 0, .int .i64 0, .int .i64 0, .slice none 0 0, .slice none 0 0] 24)) A r.low := (hA.alloc _).alloc _
    have hB1 : RInts ((w.alloc (.cells #[.int .i64 r.gain, .int .i64 r.loss, .int .i64 r.steps, .int .i64 r.power, .slice A r.low.length c, .slice B r.high.length d] 24)).alloc (.cells #[.int .i64 0, .int .i64 0, .int .i64 0, .int .i64 0, .slice none 0 0, .slice none 0 0] 24)) B r.high := (hB.alloc _).alloc _
    simp only [Rm.v] at hch ⊢
    generalize r.chk r.low.length = k at *
    have hne' : (k != 0) = true := by rw [bne_iff_ne]; exact hne
    have HC := Lib.hid hch
    have HA := Lib.hid hA1
    have HB := Lib.hid hB1
    clear hch hA hB hok hA1 hB1 hne
    go_enter Try.func29, Try.ntmps29
    go_wp2_with fail
    refine (HC.out _ HA.out HB.out).mono ?_
    rintro e w1 ⟨rfl, hb⟩
    obtain ⟨hc, hf⟩ := bcell hb
    have hz : w.heap.size + 1 < w1.heap.size := by have := hb.size; simp at this; omega
    go_wp2_with fail
    have hW : Below w.heap.size w w1 := (((Below.refl _ _).alloc (Nat.le_refl _) _).alloc (by simp) _).trans (hb.mono (by simp; omega))
    have hW6 := (((((hW.setCell (p := ⟨w.heap.size + 1, 0, none⟩) (by simp) (.int .i64 0)).setCell (p := ⟨w.heap.size + 1, 1, none⟩) (by simp) (.int .i64 0)).setCell (p := ⟨w.heap.size + 1, 2, none⟩) (by simp) (.int .i64 0)).setCell (p := ⟨w.heap.size + 1, 3, none⟩) (by simp) (.int .i64 0)).setCell (p := ⟨w.heap.size + 1, 4, none⟩) (by simp) (.slice none 0 0)).setCell (p := ⟨w.heap.size + 1, 5, none⟩) (by simp) (.slice none 0 0)
    refine bodyPost_ret (v := .agg #[.int .i64 0, .int .i64 0, .int .i64 0, .int .i64 0, .slice none 0 0, .slice none 0 0]) (by simp [results, Try.results29, go_sem, hc]) rfl ?_
    exact ⟨none, 0, none, 0, rfl, RInts.nil, RInts.nil, hW6⟩

/-- A function value that computes a step: the closure over a block that holds the room's numbers. -/
def StepFn (r : Rm) (w : World) (v : Value) (w' : World) : Prop := ∃ g, v = .func (.func 37) #[] #[.pointer (some ⟨g, 0, none⟩)] ∧ w.heap.size ≤ g ∧ g < w'.heap.size ∧
  w'.cell? ⟨g, 0, none⟩ = some (.int .i64 r.gain) ∧ w'.cell? ⟨g, 1, none⟩ = some (.int .i64 r.loss) ∧ w'.cell? ⟨g, 2, none⟩ = some (.int .i64 r.steps)

set_option maxHeartbeats 1000000 in
theorem model_any (r : Rm) (A B : Option Addr) (c d : Nat) (w : World) :
    Calls Try.prog 30 #[r.v A c B d] w fun e w' => e = .returned (.func (.func 37) #[] #[.pointer (some ⟨w.heap.size, 0, none⟩)]) ∧ w' = w.alloc (.cells #[.int .i64 r.gain, .int .i64 r.loss, .int .i64 r.steps, .int .i64 r.power, .slice A r.low.length c, .slice B r.high.length d] 24) := by
  simp only [Rm.v]
  go_enter Try.func30, Try.ntmps30
  go_wp2_with fail
  go_ret
  exact ⟨rfl, rfl⟩
end Go.Proofs.Ytohgcenfhglfdaa
