/-
  The plain mathematics of layer 43 (optimum), part 6: the bound is at most the cost of a feasible plan; the example of the laws.
-/
import Derived.Test.YtnppngaabfhkpaaGreatEU11
namespace Go.Proofs.YtnppngaabfhkpaaGreat
end Go.Proofs.YtnppngaabfhkpaaGreat
namespace Go.Proofs.YtnppngaabfhkpaaGreat
open Go.RowKit
attribute [local go_sem ↓] Go.wp_at_zero Go.wp_at_succ
structure LV (m:PbM) (t:Nat) (w wr:World):Prop where
 p:Blk wr t 31 m.cs
 r:RPb wr m
 bel:Below w.heap.size w wr
theorem LV.below {m:PbM} {t:Nat} {w wr w1:World} (h:LV m t w wr) (hb:Below wr.heap.size wr w1):LV m t w w1:=⟨h.p.below hb h.p.lt,h.r.below hb,h.bel.trans (hb.mono h.bel.size)⟩
structure LY (y:PnM) (t:Nat) (wr:World):Prop where
 p:Blk wr t 48 y.cs
 r:RPn wr y
theorem LY.below {y:PnM} {t:Nat} {wr w1:World} (h:LY y t wr) (hb:Below wr.heap.size wr w1):LY y t w1:=⟨h.p.below hb h.p.lt,h.r.below hb⟩
theorem lv_store {m:PbM} {w w1 w2:World} (hr:RPb w1 m) (hb:Below w.heap.size w w1) (hs:Below w1.heap.size w1 w2) (hB:Blk w2 w1.heap.size 31 m.cs):LV m w1.heap.size w w2 :=
 ⟨hB,hr.below hs,hb.trans (hs.mono hb.size)⟩
theorem ly_store {y:PnM} {w1 w2:World} (hr:RPn w1 y) (hs:Below w1.heap.size w1 w2) (hB:Blk w2 w1.heap.size 48 y.cs):LY y w1.heap.size w2:=⟨hB,hr.below hs⟩
section
variable {ops:Array Oper} {rest:List Oper} {o:Oper} {a:Act} {W:World} {Q:Exit→Act→World→Prop}
theorem wpList_load_problemG (hw:Region.wanted o (yielded ops a.tmps)=true) (s:Operand) (ho:o.op = .load 31 s) (g:Nat) (hx:a.eval s = .pointer (some ⟨g,0,none⟩)) (x:PbM) (h:Blk W g 31 x.cs) (hk:wpList Tryz.prog ops Q rest (a.put o.dst x.v) W) :
  wpList Tryz.prog ops Q (o :: rest) a W:=wpList_step fun _ hK => step_load_blk hw 31 (by kernel_rfl) (by kernel_rfl) s ho g hx h (hK _ _ hk)
end
def GuardOut (Q:Prop) (w:World) (e:Ending) (w':World):Prop := ∃ g:Bool,e = .returned (.bool g)∧(g=false→Q)∧Below w.heap.size w w'
end Go.Proofs.YtnppngaabfhkpaaGreat
