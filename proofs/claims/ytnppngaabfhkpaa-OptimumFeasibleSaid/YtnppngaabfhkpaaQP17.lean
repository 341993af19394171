/-
  The walks of layer 42 (plan), part 13: awake of the laws.
-/
import Derived.Test.YtnppngaabfhkpaaQPW
import Derived.Deep.RegionHeld3
namespace Go.Proofs.Ytnppngaabfhkpaa
open Go.RowKit
attribute [local go_sem ↓] Go.wp_at_zero Go.wp_at_succ

/-- A problem and a plan in the blocks p1 and x1. -/
structure AX (m : PbM) (y : PnM) (p1 x1 : Nat) (w wr : World) : Prop where
  p : Blk wr p1 31 m.cs
  q : Blk wr x1 33 y.cs
  rp : RPb wr m
  rq : RPn wr y
  bel : Below w.heap.size w wr
section
variable {m : PbM} {y : PnM} {p1 x1 : Nat} {w wr w1 : World}
theorem AX.below (h : AX m y p1 x1 w wr) (hb : Below wr.heap.size wr w1) : AX m y p1 x1 w w1 :=
  ⟨h.p.below hb h.p.lt, h.q.below hb h.q.lt, h.rp.below hb, h.rq.below hb, h.bel.trans (hb.mono h.bel.size)⟩
theorem AX.alloc (h : AX m y p1 x1 w wr) (o : Obj) : AX m y p1 x1 w (wr.alloc o) := h.below ((Below.refl _ _).alloc (Nat.le_refl _) _)
end
theorem yieldsIf_load_blk {P : Program} {ops : Array Oper} {S : World → Prop} {op : Oper} {a : Act} (hw : Region.wanted op (yielded ops a.tmps) = true) (ty : TypeId) {cs : Array Value} (hu : (P.underlying ty).map (fun d => match d with | .struct _ | .array _ _ => true | _ => false) = some true) (hi : (P.info? ty).map (·.size) = some cs.size)
    (x : Operand) (ho : op.op = .load ty x) (g : Nat) (hx : a.eval x = .pointer (some ⟨g, 0, none⟩)) {t : TypeId} (hS : ∀ w, S w → Blk w g t cs) : YieldsIf P ops S op (.agg cs) a :=
  .inl ⟨hw, fun w hw' => by
    have h := run_load_blk hu hi (hS w hw')
    unfold execOp
    simp only [ho, hx, Instr.loadAt, Instr.sureAddr, Sem.run_bind, Sem.run_pure, Result.andThen_ok, h]⟩
theorem below_al {W w' : World} {o : Obj} (h : Below W.heap.size W w') : Below W.heap.size W (w'.alloc o) := h.alloc h.size o
theorem below_tr {W w' w'' : World} (h : Below W.heap.size W w') (h2 : Below w'.heap.size w' w'') : Below W.heap.size W w'' := h.trans (h2.mono h.size)
theorem lit3_0 (W : World) (a : Int) (t : TypeId) (o2 o3 : Obj) : RInts (((W.drew.alloc (.cells #[.int .i64 a] t)).alloc o2).alloc o3) (some ⟨W.heap.size, 0, none⟩) [a] := ((rints_lit W.drew _ t rfl).alloc o2).alloc o3
theorem rints_lit' {w : World} {n : Nat} (h : w.heap.size = n) (cs : Array Value) (t : TypeId) {l : List Int} (hl : cs.toList = ints l) : RInts (w.alloc (.cells cs t)) (some ⟨n, 0, none⟩) l := h ▸ rints_lit w cs t hl
theorem lit3_1 (W : World) (a : Int) (t : TypeId) (o1 o3 : Obj) : RInts (((W.drew.alloc o1).alloc (.cells #[.int .i64 a] t)).alloc o3) (some ⟨W.heap.size + 1, 0, none⟩) [a] := (rints_lit' (w := W.drew.alloc o1) (by rw [World.size_alloc]; rfl) _ t rfl).alloc o3
theorem lit3_2 (W : World) (a : Int) (t : TypeId) (o1 o2 : Obj) : RInts (((W.drew.alloc o1).alloc o2).alloc (.cells #[.int .i64 a] t)) (some ⟨W.heap.size + 1 + 1, 0, none⟩) [a] := rints_lit' (w := (W.drew.alloc o1).alloc o2) (by rw [World.size_alloc, World.size_alloc]; rfl) _ t rfl

def exX : Pn := ⟨[0], [0], []⟩
theorem ex_run : exP.err exX = 0 ∧ exP.trace exX = ⟨[3], [0], [150], 90⟩ := by
  have h : exP.err exX = 0 := by decide +kernel
  refine ⟨h, ?_⟩
  rw [Pb.trace_ok h]
  have h1 : exP.nets exX exP.n = [3] := by decide +kernel
  have h2 : exP.levels exX exP.n = [0] := by decide +kernel
  have h3 : exP.temps exX exP.n = [150] := by decide +kernel
  have h4 : exP.t.total [3] = 90 := by decide +kernel
  rw [h1, h2, h3, h4]
theorem ex_run2 : exP.err ⟨[0, 0], [0], []⟩ = 3 ∧ exP.err ⟨[0], [1], []⟩ = 2 := by
  constructor <;> decide +kernel
theorem ex_run3 : ({ exP with t := { exP.t with fuse := 2 } } : Pb).err exX = 20 := by decide +kernel
theorem ex_idle : exP.idle = exX := by
  have h : exP.chk = 0 := by decide +kernel
  unfold Pb.idle
  rw [if_neg (by simp [h])]
  rfl

end Go.Proofs.Ytnppngaabfhkpaa
