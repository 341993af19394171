/-
  The walks of layer 42 (plan), part 9: Run whole, Value of both, SameTrace, SamePlan.
-/
import Derived.Test.YtnppngaabfhkpaaGreatEP11
import Derived.Test.YtnppngaabfhkpaaGreatEL16
import Derived.Test.YtnppngaabfhkpaaGreatEBR1
namespace Go.Proofs.YtnppngaabfhkpaaGreat
open Go.RowKit
attribute [local go_sem ↓] Go.wp_at_zero Go.wp_at_succ
theorem rrun_any (x:PbM) (y:PnM) (w:World) (hP:RPb w x) (hQ:RPn w y) (hF:x.Fit) (hG:y.Fit):Calls Tryz.prog 94 #[x.v,y.v] w (RunOut (x.p.trace y.x) (x.p.err y.x) w):=by
 by_cases h:x.p.chk=0
 ·by_cases h2:x.p.form y.x=0
  ·exact rrun_loop x y w hP hQ hF hG h h2
  ·rw [(Pb.err_form h h2).1,(Pb.err_form h h2).2]; exact rrun_form x y w hP hQ hF hG h h2
 ·rw [(Pb.err_chk (x:=y.x) h).1,(Pb.err_chk (x:=y.x) h).2]; exact rrun_chk x y w hP hQ hF hG h
set_option maxRecDepth 100000 in
set_option maxHeartbeats 16000000 in
theorem sameplan_true (m m2:PnM) (w:World) (hA0:RPn w m) (hB0:RPn w m2) (hx:m.x=m2.x) (h1:m.charge.l.length < 1000000000) (h2:m.heat.l.length < 1000000000) (h3:m.start.l.length < 1000000000) :
  Calls Tryz.prog 15 #[m.v,m2.v] w fun e w' => e = .returned (.bool true)∧Below w.heap.size w w':=by
 have hA:=Lib.hid hA0
 have hB:=Lib.hid hB0
 have e1:m.charge.l=m2.charge.l:=congrArg Pn.charge hx
 have e2:m.heat.l=m2.heat.l:=congrArg Pn.heat hx
 have e3:m.start.l=m2.start.l:=congrArg Pn.start hx
 have k1:=fun W h h' => same_any m.charge.A m2.charge.A m.charge.c m2.charge.c m.charge.l m2.charge.l W h h' h1
 have k2:=fun W h h' => same_any m.heat.A m2.heat.A m.heat.c m2.heat.c m.heat.l m2.heat.l W h h' h2
 have k3:=fun W h h' => same_any m.start.A m2.start.A m.start.c m2.start.c m.start.l m2.start.l W h h' h3
 rw [decide_eq_true e1] at k1
 rw [decide_eq_true e2] at k2
 rw [decide_eq_true e3] at k3
 have K1:=Lib.hid k1
 have K2:=Lib.hid k2
 have K3:=Lib.hid k3
 simp only [PnM.v]
 clear hA0 hB0 hx e1 e2 e3 k1 k2 k3 h1 h2 h3
 go_enter Tryz.func15,Tryz.ntmps15
 go_wp2_with fail
 have hO:Below w.heap.size w _:=((Below.refl _ _).alloc (Nat.le_refl _) (.cells m.cs 48)).alloc (by simp) (.cells m2.cs 48)
 refine (K1.out _ (hA.out.charge.below hO) (hB.out.charge.below hO)).mono ?_
 rintro e w1 ⟨rfl,hb1⟩
 obtain ⟨q1,q2,q3,q4⟩:=two_boxes hb1
 obtain ⟨-,z1,z2⟩:=PnC.of_blk q1
 obtain ⟨-,y1,y2⟩:=PnC.of_blk q2
 have HO1:=Lib.hid q4
 clear hO hb1 q1 q2 q3 q4
 go_wp2_with fail
 refine (K2.out _ (hA.out.heat.below HO1.out) (hB.out.heat.below HO1.out)).mono ?_
 rintro e w2 ⟨rfl,hb2⟩
 have HO2:=Lib.hid (HO1.out.trans (hb2.mono HO1.out.size))
 replace z2:=cell_below z2 hb2
 replace y2:=cell_below y2 hb2
 clear hb2 z1 y1
 go_wp2_with fail
 refine (K3.out _ (hA.out.start.below HO2.out) (hB.out.start.below HO2.out)).mono ?_
 rintro e w3 ⟨rfl,hb3⟩
 have HO3:=Lib.hid (HO2.out.trans (hb3.mono HO2.out.size))
 clear hb3 z2 y2
 go_wp2_with fail
 go_ret
 exact ⟨rfl,HO3.out⟩
def Pn.zero:Pn:=⟨[], [], []⟩
def PnM.zero:PnM:=⟨⟨none,0, []⟩,⟨none,0, []⟩,⟨none,0, []⟩⟩
theorem RPn.zero (W:World):RPn W PnM.zero:=⟨RInts.nil,RInts.nil,RInts.nil⟩
theorem rrows_lit (w:World) (l:List IntsM) (t:TypeId) (h:∀ x ∈ l,RInts w x.A x.l):RRows (w.alloc (.cells (rowCells l).toArray t)) (some ⟨w.heap.size,0,none⟩) l:=by
 refine ⟨⟨by rw [rowCells_length,Nat.mul_one],fun _ => ⟨_,rfl,by simp,fun j u hu => ?_⟩⟩,fun x hx => (h x hx).alloc _⟩
 have hadd:(⟨w.heap.size,0,none⟩:Addr).add j=⟨w.heap.size,j,none⟩:=by unfold Addr.add; split <;> simp_all
 rw [hadd,(Blk.new w t _).cell j, ← hu]
 simp
end Go.Proofs.YtnppngaabfhkpaaGreat
