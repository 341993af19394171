/-
  The walks of layer 40 (thermal), the reference, part 2: Step, Ok.
-/
import Derived.Test.YtnppngaabfhkpaaFTR1
import Derived.Test.YtnppngaabfhkpaaFT3
namespace Go.Proofs.Ytnppngaabfhkpaa
open Go.RowKit
attribute [local go_sem ↓] Go.wp_at_zero Go.wp_at_succ

/-- The world in which the valid room lies in the variable v. -/
def roomX (s : Rm) (A : Option Addr) (c : Nat) (B : Option Addr) (d : Nat) (w1 : World) : World :=
  w1.alloc (.cells #[.int .i64 s.gain, .int .i64 s.loss, .int .i64 s.steps, .int .i64 s.power, .slice A s.low.length c, .slice B s.high.length d] 28)
/-- Both, and all below, stand. -/
structure RoomX (s : Rm) (A : Option Addr) (c : Nat) (B : Option Addr) (d : Nat) (w1 W : World) : Prop where
  below : Below (w1.heap.size + 1) (roomX s A c B d w1) W
  lo : RInts w1 A s.low
  hi : RInts w1 B s.high
section
variable {s : Rm} {A B : Option Addr} {c d : Nat} {w1 W W' : World}
theorem roomX_size : (roomX s A c B d w1).heap.size = w1.heap.size + 1 := by simp [roomX]
theorem RoomX.size (h : RoomX s A c B d w1 W) : w1.heap.size + 1 ≤ W.heap.size := by have := h.below.size; rw [roomX_size] at this; exact this
theorem RoomX.mk' (h : RoomX s A c B d w1 W) (hb : Below W.heap.size W W') : RoomX s A c B d w1 W' := ⟨h.below.trans (hb.mono h.size), h.lo, h.hi⟩
theorem RoomX.on (h : RoomX s A c B d w1 W) (hb : Below (w1.heap.size + 1) W W') : RoomX s A c B d w1 W' := ⟨h.below.trans hb, h.lo, h.hi⟩
theorem RoomX.drewN (h : RoomX s A c B d w1 W) (n : Nat) : RoomX s A c B d w1 (W.drewN n) := ⟨below_drewN h.below n, h.lo, h.hi⟩
theorem RoomX.drew (h : RoomX s A c B d w1 W) : RoomX s A c B d w1 W.drew := ⟨h.below.drew, h.lo, h.hi⟩
theorem RoomX.from1 (h : RoomX s A c B d w1 W) : Below w1.heap.size w1 W := ((Below.refl _ _).alloc (Nat.le_refl _) _).trans (h.below.mono (by omega))
theorem RoomX.low (h : RoomX s A c B d w1 W) : RInts W A s.low := h.lo.below h.from1
theorem RoomX.high (h : RoomX s A c B d w1 W) : RInts W B s.high := h.hi.below h.from1
theorem RoomX.cells (h : RoomX s A c B d w1 W) : W.cell? ⟨w1.heap.size, 0, none⟩ = some (.int .i64 s.gain) ∧ W.cell? ⟨w1.heap.size, 1, none⟩ = some (.int .i64 s.loss) ∧ W.cell? ⟨w1.heap.size, 2, none⟩ = some (.int .i64 s.steps) ∧
    W.cell? ⟨w1.heap.size, 3, none⟩ = some (.int .i64 s.power) ∧ W.cell? ⟨w1.heap.size, 4, none⟩ = some (.slice A s.low.length c) ∧ W.cell? ⟨w1.heap.size, 5, none⟩ = some (.slice B s.high.length d) := by
  have hc := (bcell' h.below).1
  refine ⟨?_, ?_, ?_, ?_, ?_, ?_⟩ <;> (rw [hc _ _ (by omega)]; simp [roomX])
theorem RoomX.all (h : RoomX s A c B d w1 W) : RoomX s A c B d w1 W ∧ W.cell? ⟨w1.heap.size, 0, none⟩ = some (.int .i64 s.gain) ∧ W.cell? ⟨w1.heap.size, 1, none⟩ = some (.int .i64 s.loss) ∧ W.cell? ⟨w1.heap.size, 2, none⟩ = some (.int .i64 s.steps) ∧
    W.cell? ⟨w1.heap.size, 3, none⟩ = some (.int .i64 s.power) ∧ W.cell? ⟨w1.heap.size, 4, none⟩ = some (.slice A s.low.length c) ∧ W.cell? ⟨w1.heap.size, 5, none⟩ = some (.slice B s.high.length d) := ⟨h, h.cells⟩
theorem RoomX.held (h : RoomX s A c B d w1 W) (hb : Below W.heap.size W W') : Below W.heap.size W W' ∧ W'.cell? ⟨w1.heap.size, 0, none⟩ = some (.int .i64 s.gain) ∧ W'.cell? ⟨w1.heap.size, 1, none⟩ = some (.int .i64 s.loss) ∧ W'.cell? ⟨w1.heap.size, 2, none⟩ = some (.int .i64 s.steps) ∧
    W'.cell? ⟨w1.heap.size, 3, none⟩ = some (.int .i64 s.power) ∧ W'.cell? ⟨w1.heap.size, 4, none⟩ = some (.slice A s.low.length c) ∧ W'.cell? ⟨w1.heap.size, 5, none⟩ = some (.slice B s.high.length d) := ⟨hb, (h.mk' hb).cells⟩
end


end Go.Proofs.Ytnppngaabfhkpaa
