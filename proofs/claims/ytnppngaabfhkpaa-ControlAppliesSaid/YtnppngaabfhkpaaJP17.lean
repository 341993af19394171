/-
  The walks of layer 42 (plan), part 13: awake of the laws.
-/
import Derived.Test.YtnppngaabfhkpaaJPW
import Derived.Deep.RegionHeld3
namespace Go.Proofs.Ytnppngaabfhkpaa
open Go.RowKit
attribute [local go_sem ↓] Go.wp_at_zero Go.wp_at_succ
structure AX (m : PbM) (y : PnM) (p1 x1 : Nat) (w wr : World) : Prop where
  p : Blk wr p1 31 m.cs
  q : Blk wr x1 33 y.cs
  rp : RPb wr m
  rq : RPn wr y
  bel : Below w.heap.size w wr
section
variable {m : PbM} {y : PnM} {p1 x1 : Nat} {w wr w1 : World}
theorem AX.below (h : AX m y p1 x1 w wr) (hb : Below wr.heap.size wr w1) : AX m y p1 x1 w w1 :=
  ⟨h.p.below hb h.p.lt, h.q.below hb h.q.lt, h.rp.below hb, h.rq.below hb, h.bel.trans (hb.mono h.bel.size)⟩
theorem AX.alloc (h : AX m y p1 x1 w wr) (o : Obj) : AX m y p1 x1 w (wr.alloc o) := h.below ((Below.refl _ _).alloc (Nat.le_refl _) _)
end
theorem yieldsIf_load_blk {P : Program} {ops : Array Oper} {S : World → Prop} {op : Oper} {a : Act} (hw : Region.wanted op (yielded ops a.tmps) = true) (ty : TypeId) {cs : Array Value} (hu : (P.underlying ty).map (fun d => match d with | .struct _ | .array _ _ => true | _ => false) = some true) (hi : (P.info? ty).map (·.size) = some cs.size)
    (x : Operand) (ho : op.op = .load ty x) (g : Nat) (hx : a.eval x = .pointer (some ⟨g, 0, none⟩)) {t : TypeId} (hS : ∀ w, S w → Blk w g t cs) : YieldsIf P ops S op (.agg cs) a :=
  .inl ⟨hw, fun w hw' => by
    have h := run_load_blk hu hi (hS w hw')
    unfold execOp
    simp only [ho, hx, Instr.loadAt, Instr.sureAddr, Sem.run_bind, Sem.run_pure, Result.andThen_ok, h]⟩
theorem below_al {W w' : World} {o : Obj} (h : Below W.heap.size W w') : Below W.heap.size W (w'.alloc o) := h.alloc h.size o
theorem below_tr {W w' w'' : World} (h : Below W.heap.size W w') (h2 : Below w'.heap.size w' w'') : Below W.heap.size W w'' := h.trans (h2.mono h.size)
end Go.Proofs.Ytnppngaabfhkpaa
