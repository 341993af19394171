/-
  The walks of layer 42 (plan), part 9: Run whole, Value of both, SameTrace, SamePlan.
-/
import Derived.Test.YtnppngaabfhkpaaGreatDP11
import Derived.Test.YtnppngaabfhkpaaGreatDL16
import Derived.Test.YtnppngaabfhkpaaGreatDBR1
namespace Go.Proofs.YtnppngaabfhkpaaGreat
open Go.RowKit
attribute [local go_sem ↓] Go.wp_at_zero Go.wp_at_succ
theorem rrun_any (x : PbM) (y : PnM) (w : World) (hP : RPb w x) (hQ : RPn w y) (hF : x.Fit) (hG : y.Fit) : Calls Tryz.prog 94 #[x.v, y.v] w (RunOut (x.p.trace y.x) (x.p.err y.x) w) := by
 by_cases h : x.p.chk = 0
 ·by_cases h2 : x.p.form y.x = 0
  ·exact rrun_loop x y w hP hQ hF hG h h2
  ·rw [(Pb.err_form h h2).1, (Pb.err_form h h2).2]; exact rrun_form x y w hP hQ hF hG h h2
 ·rw [(Pb.err_chk (x := y.x) h).1, (Pb.err_chk (x := y.x) h).2]; exact rrun_chk x y w hP hQ hF hG h
end Go.Proofs.YtnppngaabfhkpaaGreat
namespace Go.Proofs.YtnppngaabfhkpaaGreat
open Go.RowKit
attribute [local go_sem ↓] Go.wp_at_zero Go.wp_at_succ
def Pn.zero : Pn := ⟨[], [], []⟩
def PnM.zero : PnM := ⟨⟨none, 0, []⟩, ⟨none, 0, []⟩, ⟨none, 0, []⟩⟩
theorem RPn.zero (W : World) : RPn W PnM.zero := ⟨RInts.nil, RInts.nil, RInts.nil⟩
end Go.Proofs.YtnppngaabfhkpaaGreat
namespace Go.Proofs.YtnppngaabfhkpaaGreat
open Go.RowKit
attribute [local go_sem ↓] Go.wp_at_zero Go.wp_at_succ
theorem rrows_lit (w : World) (l : List IntsM) (t : TypeId) (h : ∀ x ∈ l, RInts w x.A x.l) : RRows (w.alloc (.cells (rowCells l).toArray t)) (some ⟨w.heap.size, 0, none⟩) l := by
 refine ⟨⟨by rw [rowCells_length, Nat.mul_one], fun _ => ⟨_, rfl, by simp, fun j u hu => ?_⟩⟩, fun x hx => (h x hx).alloc _⟩
 have hadd : (⟨w.heap.size, 0, none⟩ : Addr).add j = ⟨w.heap.size, j, none⟩ := by unfold Addr.add; split <;> simp_all
 rw [hadd, (Blk.new w t _).cell j, ← hu]
 simp
end Go.Proofs.YtnppngaabfhkpaaGreat
