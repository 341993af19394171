/-
  The walks of layer 42 (plan), part 9: Run whole, Value of both, SameTrace, SamePlan.
-/
import Derived.Test.YtnppngaabfhkpaaJP12
import Derived.Test.YtnppngaabfhkpaaJL16
import Derived.Test.YtnppngaabfhkpaaJBR1
namespace Go.Proofs.Ytnppngaabfhkpaa
open Go.RowKit
attribute [local go_sem ↓] Go.wp_at_zero Go.wp_at_succ
end Go.Proofs.Ytnppngaabfhkpaa
namespace Go.Proofs.Ytnppngaabfhkpaa
open Go.RowKit
attribute [local go_sem ↓] Go.wp_at_zero Go.wp_at_succ
def Pn.zero : Pn := ⟨[], [], []⟩
def PnM.zero : PnM := ⟨⟨none, 0, []⟩, ⟨none, 0, []⟩, ⟨none, 0, []⟩⟩
theorem RPn.zero (W : World) : RPn W PnM.zero := ⟨RInts.nil, RInts.nil, RInts.nil⟩
theorem RInts.drew {w : World} {A : Option Addr} {l : List Int} (h : RInts w A l) : RInts w.drew A l := h
end Go.Proofs.Ytnppngaabfhkpaa
namespace Go.Proofs.Ytnppngaabfhkpaa
open Go.RowKit
attribute [local go_sem ↓] Go.wp_at_zero Go.wp_at_succ
theorem rrows_lit (w : World) (l : List IntsM) (t : TypeId) (h : ∀ x ∈ l, RInts w x.A x.l) : RRows (w.alloc (.cells (rowCells l).toArray t)) (some ⟨w.heap.size, 0, none⟩) l := by
  refine ⟨⟨by rw [rowCells_length, Nat.mul_one], fun _ => ⟨_, rfl, by simp, fun j u hu => ?_⟩⟩, fun x hx => (h x hx).alloc _⟩
  have hadd : (⟨w.heap.size, 0, none⟩ : Addr).add j = ⟨w.heap.size, j, none⟩ := by unfold Addr.add; split <;> simp_all
  rw [hadd, (Blk.new w t _).cell j, ← hu]
  simp
end Go.Proofs.Ytnppngaabfhkpaa
