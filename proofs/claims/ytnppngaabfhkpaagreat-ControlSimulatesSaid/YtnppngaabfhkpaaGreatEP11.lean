/-
  The walks of layer 42 (plan), part 7: Run of the program, where the problem is valid.
-/
import Derived.Test.YtnppngaabfhkpaaGreatEP7
import Derived.Test.YtnppngaabfhkpaaGreatEL16
namespace Go.Proofs.YtnppngaabfhkpaaGreat
open Go.RowKit
attribute [local go_sem ↓] Go.wp_at_zero Go.wp_at_succ
structure RY (x:PbM) (y:PnM) (w wr:World) (cs:Array Value):Prop where
 px:PX x y w wr
 t:Blk wr (w.heap.size+2) 128 cs
section
variable {x:PbM} {y:PnM} {w wr w1:World} {cs:Array Value}
theorem RY.lt (h:RY x y w wr cs):w.heap.size+3 ≤ wr.heap.size:=h.t.lt
theorem RY.above {B:Nat} (h:RY x y w wr cs) (hb:Below B wr w1) (hB:w.heap.size+3 ≤ B):RY x y w w1 cs :=
 ⟨h.px.above hb (by omega),h.t.below hb (by omega)⟩
theorem RY.below (h:RY x y w wr cs) (hb:Below wr.heap.size wr w1):RY x y w w1 cs:=h.above hb h.lt
theorem RY.drewN (h:RY x y w wr cs) (n:Nat):RY x y w (wr.drewN n) cs:=h.below (below_drewN (Below.refl _ _) n)
theorem RY.alloc (h:RY x y w wr cs) (o:Obj):RY x y w (wr.alloc o) cs:=h.below ((Below.refl _ _).alloc (Nat.le_refl _) _)
theorem RY.setT (h:RY x y w wr cs) (i:Nat) (v:Value):RY x y w (wr.setCell ⟨w.heap.size+2,i,none⟩ v) (cs.setIfInBounds i v) :=
 ⟨h.px.above ((Below.refl (w.heap.size+2) wr).setCell (by simp) _) (Nat.le_refl _),h.t.set_ i v⟩
theorem RY.setFar (h:RY x y w wr cs) {p:Addr} (hp:w.heap.size+3 ≤ p.block) (v:Value):RY x y w (wr.setCell p v) cs :=
 ⟨h.px.above ((Below.refl (w.heap.size+2) wr).setCell (by omega) _) (Nat.le_refl _),h.t.far (by omega) _⟩
theorem RY.frozen (h:RY x y w wr cs):wr.frozen? ⟨w.heap.size+2,0,none⟩=false∧wr.frozen? ⟨w.heap.size+2,1,none⟩=false∧wr.frozen? ⟨w.heap.size+2,2,none⟩=false∧wr.frozen? ⟨w.heap.size+2,3,none⟩=false :=
 ⟨h.t.frozen 0,h.t.frozen 1,h.t.frozen 2,h.t.frozen 3⟩
theorem RY.cells {a b c d:Value} (h:RY x y w wr #[a,b,c,d]):wr.cell? ⟨w.heap.size+2,0,none⟩=some a∧wr.cell? ⟨w.heap.size+2,1,none⟩=some b∧wr.cell? ⟨w.heap.size+2,2,none⟩=some c∧wr.cell? ⟨w.heap.size+2,3,none⟩=some d :=
 ⟨h.t.cell 0,h.t.cell 1,h.t.cell 2,h.t.cell 3⟩
end
theorem RY.start (x:PbM) (y:PnM) (w:World) (cs:Array Value):RY x y w (((w.alloc (.cells x.cs 31)).alloc (.cells y.cs 48)).alloc (.cells cs 128)) cs:=by
 have hp:=PX.start x y w
 generalize hW:(w.alloc (.cells x.cs 31)).alloc (.cells y.cs 48)=W at *
 have hs:W.heap.size=w.heap.size+2:=by rw [← hW]; simp
 have h1:=Blk.new W 128 cs
 rw [hs] at h1
 exact ⟨hp.alloc _,h1⟩
theorem rrun_ret {tmps:Array Value} {x:PbM} {y:PnM} {w W:World} {m:TrM} {ev:Int} (h:RY x y w W m.v.cells) (hm:RTr W m)
  (h4:tmps[4]? = some (.pointer (some ⟨w.heap.size+2,0,none⟩))) (h5:tmps[5]? = some (.int .i64 ev)) :
  bodyPost Tryz.prog Tryz.f94 (RunOut m.x ev w) .ret { tmps:=tmps,defers := [] } W:=by
 obtain ⟨z0,z1,z2,z3⟩:=RY.cells h
 refine bodyPost_ret (v := .tuple #[m.v,.int .i64 ev]) (by simp [results,Tryz.results94,go_sem,h4,h5,z0,z1,z2,z3,TrM.v]) rfl ?_
 exact ⟨m,rfl,rfl,hm,h.px.bel⟩
theorem rrun_bad {tmps:Array Value} {x:PbM} {y:PnM} {w W:World} {ev:Int} (h:RY x y w W #[.slice none 0 0,.slice none 0 0,.slice none 0 0,.int .i64 0])
  (h4:tmps[4]? = some (.pointer (some ⟨w.heap.size+2,0,none⟩))) (h5:tmps[5]? = some (.int .i64 ev)) :
  bodyPost Tryz.prog Tryz.f94 (RunOut Tr.zero ev w) .ret { tmps:=tmps,defers := [] } W:=rrun_ret (m:=TrM.zero) h (RTr.zero _) h4 h5
set_option maxRecDepth 100000 in
set_option maxHeartbeats 64000000 in
theorem rrun_chk (x:PbM) (y:PnM) (w:World) (hP0:RPb w x) (hQ0:RPn w y) (hF0:x.Fit) (hG0:y.Fit) (hne:x.p.chk ≠ 0) :
  Calls Tryz.prog 94 #[x.v,y.v] w (RunOut Tr.zero x.p.chk w):=by
 have hP:=Lib.hid hP0
 have hQ:=Lib.hid hQ0
 have hF:=Lib.hid hF0
 have hG:=Lib.hid hG0
 have hc:=Lib.hid (fun W (h:RPb W x) => rpcheck_any x W h hF0)
 have hst0:=RY.start x y w #[.slice none 0 0,.slice none 0 0,.slice none 0 0,.int .i64 0]
 have hn:(x.p.chk != 0)=true:=by simpa using hne
 generalize x.p.chk=ck at *
 simp only [PbM.v,PnM.v]
 clear hP0 hF0 hQ0 hG0
 obtain ⟨W,hW⟩:∃ W,W=((w.alloc (.cells x.cs 31)).alloc (.cells #[.slice y.charge.A y.charge.l.length y.charge.c,.slice y.heat.A y.heat.l.length y.heat.c,.slice y.start.A y.start.l.length y.start.c] 48)).alloc (.cells #[.slice none 0 0,.slice none 0 0,.slice none 0 0,.int .i64 0] 128):=⟨_,rfl⟩
 simp only [PbM.cs] at hW
 rw [show ((w.alloc (.cells x.cs 31)).alloc (.cells y.cs 48)).alloc (.cells #[.slice none 0 0,.slice none 0 0,.slice none 0 0,.int .i64 0] 128)=W from hW.symm] at hst0
 have hst:=Lib.hid hst0
 have hWH:=Lib.hid hW
 clear hst0 hW
 go_enter Tryz.func94,Tryz.ntmps94
 go_upto_region 1 with fail
 rw [← hWH.out]
 clear hWH
 go_wp2_with (refine wpList_load_problem rfl _ rfl w.heap.size rfl x hst.out.px.p ?_)
 refine (hc.out _ (hst.out.px.pr hP.out)).mono ?_
 rintro e w1 ⟨rfl,hb1⟩
 have HR1:=Lib.hid (hst.out.below hb1)
 clear hb1 hst
 obtain ⟨z0,z1,z2,z3⟩:=HR1.out.cells
 obtain ⟨f0,f1,f2,f3⟩:=HR1.out.frozen
 go_wp2_with fail
 have HR':=(((HR1.out.setT 0 (.slice none 0 0)).setT 1 (.slice none 0 0)).setT 2 (.slice none 0 0)).setT 3 (.int .i64 0)
 exact rrun_bad (by simpa using HR') rfl rfl
set_option maxRecDepth 100000 in
set_option maxHeartbeats 64000000 in
theorem rrun_form (x:PbM) (y:PnM) (w:World) (hP0:RPb w x) (hQ0:RPn w y) (hF0:x.Fit) (hG0:y.Fit) (hck:x.p.chk=0) (hfo:x.p.form y.x ≠ 0) :
  Calls Tryz.prog 94 #[x.v,y.v] w (RunOut Tr.zero (x.p.form y.x) w):=by
 have hP:=Lib.hid hP0
 have hQ:=Lib.hid hQ0
 have hF:=Lib.hid hF0
 have hG:=Lib.hid hG0
 have hgood:=Pb.good hck
 have hnbd:=Pb.nbd hgood
 have hld4:=Pb.loads4 hgood
 have hen:x.p.n=x.buy.l.length:=rfl
 have hel:x.p.loads.length=x.loads.length:=by simp [PbM.p]
 have hc0:=fun W (h:RPb W x) => rpcheck_any x W h hF0
 rw [hck] at hc0
 have hc:=Lib.hid hc0
 have hs0:=fun W (h:RPb W x) (h2:RPn W y) => rform_any x y W h h2 hF0 (by omega) (by omega)
 have hst0:=RY.start x y w #[.slice none 0 0,.slice none 0 0,.slice none 0 0,.int .i64 0]
 have hn:(x.p.form y.x != 0)=true:=by simpa using hfo
 generalize x.p.form y.x=ck at *
 have hs:=Lib.hid hs0
 clear hs0
 simp only [PbM.v,PnM.v]
 clear hP0 hF0 hQ0 hG0 hc0 hgood hnbd hld4 hen hel
 obtain ⟨W,hW⟩:∃ W,W=((w.alloc (.cells x.cs 31)).alloc (.cells #[.slice y.charge.A y.charge.l.length y.charge.c,.slice y.heat.A y.heat.l.length y.heat.c,.slice y.start.A y.start.l.length y.start.c] 48)).alloc (.cells #[.slice none 0 0,.slice none 0 0,.slice none 0 0,.int .i64 0] 128):=⟨_,rfl⟩
 simp only [PbM.cs] at hW
 rw [show ((w.alloc (.cells x.cs 31)).alloc (.cells y.cs 48)).alloc (.cells #[.slice none 0 0,.slice none 0 0,.slice none 0 0,.int .i64 0] 128)=W from hW.symm] at hst0
 have hst:=Lib.hid hst0
 have hWH:=Lib.hid hW
 clear hst0 hW
 go_enter Tryz.func94,Tryz.ntmps94
 go_upto_region 1 with fail
 rw [← hWH.out]
 clear hWH
 go_wp2_with (refine wpList_load_problem rfl _ rfl w.heap.size rfl x hst.out.px.p ?_)
 refine (hc.out _ (hst.out.px.pr hP.out)).mono ?_
 rintro e w1 ⟨rfl,hb1⟩
 have HR1:=Lib.hid (hst.out.below hb1)
 clear hb1 hst
 go_wp2_with (first | refine wpList_load_problem rfl _ rfl w.heap.size rfl x (HR1.out).px.p ?_ | refine wpList_load_plan rfl _ rfl (w.heap.size+1) rfl y (HR1.out).px.q ?_)
 refine (hs.out _ (HR1.out.px.pr hP.out) (HR1.out.px.qr hQ.out)).mono ?_
 rintro e w2 ⟨rfl,hb2⟩
 have HR2:=Lib.hid (HR1.out.below hb2)
 clear hb2 HR1
 obtain ⟨z0,z1,z2,z3⟩:=HR2.out.cells
 obtain ⟨f0,f1,f2,f3⟩:=HR2.out.frozen
 go_wp2_with fail
 have HR':=(((HR2.out.setT 0 (.slice none 0 0)).setT 1 (.slice none 0 0)).setT 2 (.slice none 0 0)).setT 3 (.int .i64 0)
 exact rrun_bad (by simpa using HR') rfl rfl
set_option maxRecDepth 100000 in
set_option maxHeartbeats 64000000 in
theorem rrun_loop (x:PbM) (y:PnM) (w:World) (hP0:RPb w x) (hQ0:RPn w y) (hF0:x.Fit) (hG0:y.Fit) (hck:x.p.chk=0) (hfo:x.p.form y.x=0) :
  Calls Tryz.prog 94 #[x.v,y.v] w (RunOut (x.p.trace y.x) (x.p.err y.x) w):=by
 have hP:=Lib.hid hP0
 have hQ:=Lib.hid hQ0
 have hF:=Lib.hid hF0
 have hG:=Lib.hid hG0
 have hgood:=Pb.good hck
 have hnbd:=Pb.nbd hgood
 have hld4:=Pb.loads4 hgood
 have hen:x.p.n=x.buy.l.length:=rfl
 have hel:x.p.loads.length=x.loads.length:=by simp [PbM.p]
 have hc0:=fun W (h:RPb W x) => rpcheck_any x W h hF0
 rw [hck] at hc0
 have hc:=Lib.hid hc0
 have hs0:=fun W (h:RPb W x) (h2:RPn W y) => rform_any x y W h h2 hF0 (by omega) (by omega)
 have hst0:=RY.start x y w #[.slice none 0 0,.slice none 0 0,.slice none 0 0,.int .i64 0]
 rw [hfo] at hs0
 have hs:=Lib.hid hs0
 obtain ⟨hsz0, -, -⟩:=Pb.form_good hfo
 obtain ⟨e1,e2,e3⟩:=Pb.sized_yes hsz0
 have e1:y.charge.l.length=x.buy.l.length:=e1
 have e2:y.heat.l.length=x.buy.l.length:=e2
 have e3:y.start.l.length=x.loads.length:=e3.trans hel
 obtain ⟨e4,e5,e6⟩:=hgood.lens
 have e4:x.solar.l.length=x.buy.l.length:=e4
 have e5:x.demand.l.length=x.buy.l.length:=e5
 have e6:x.outside.l.length=x.buy.l.length:=e6
 have hU0:(x.p.uses y.x).length=x.buy.l.length:=Pb.uses_len hgood y.x
 have hus0:=fun W (h:RPb W x) (h2:RPn W y) => rluses_any x.LA y.start.A x.lc y.start.c x.loads y.start.l x.buy.l.length W h.loads h2.start (PbM.prof_short hgood) hG0.ss (by omega)
 have hU1:usesL (x.loads.map LdM.r) y.start.l x.buy.l.length=x.p.uses y.x:=rfl
 rw [hU1] at hus0
 have hSL:=Lib.hid (fun k => Pb.slot hgood hfo k)
 have hES:=Lib.hid (fun k e (h3:x.p.errTo y.x k=0) (h4:x.p.slotErr y.x k=e) (he:e ≠ 0) (hk:k < x.buy.l.length) => Pb.err_slot hck hfo h3 h4 he hk)
 have hER:=Lib.hid (Pb.err_run hck hfo)
 have hgd:=Lib.hid hgood
 obtain ⟨U,hU⟩:∃ U,U=x.p.uses y.x:=⟨_,rfl⟩
 have HU:=Lib.hid hU
 rw [← hU] at hus0 hU0
 have hus:=Lib.hid hus0
 have E1:=Lib.hid e1
 have E2:=Lib.hid e2
 have E4:=Lib.hid e4
 have E5:=Lib.hid e5
 have E6:=Lib.hid e6
 have EU:=Lib.hid hU0
 have HN:=Lib.hid hnbd
 clear hs0 hsz0 e1 e2 e3 e4 e5 e6 hus0 hU1 hU hU0 hck hfo
 simp only [PbM.v,PnM.v]
 clear hP0 hF0 hQ0 hG0 hc0 hgood hnbd hld4 hen hel
 obtain ⟨W,hW⟩:∃ W,W=((w.alloc (.cells x.cs 31)).alloc (.cells #[.slice y.charge.A y.charge.l.length y.charge.c,.slice y.heat.A y.heat.l.length y.heat.c,.slice y.start.A y.start.l.length y.start.c] 48)).alloc (.cells #[.slice none 0 0,.slice none 0 0,.slice none 0 0,.int .i64 0] 128):=⟨_,rfl⟩
 simp only [PbM.cs] at hW
 rw [show ((w.alloc (.cells x.cs 31)).alloc (.cells y.cs 48)).alloc (.cells #[.slice none 0 0,.slice none 0 0,.slice none 0 0,.int .i64 0] 128)=W from hW.symm] at hst0
 have hst:=Lib.hid hst0
 have hWH:=Lib.hid hW
 clear hst0 hW
 go_enter Tryz.func94,Tryz.ntmps94
 go_upto_region 1 with fail
 rw [← hWH.out]
 clear hWH
 go_wp2_with (refine wpList_load_problem rfl _ rfl w.heap.size rfl x hst.out.px.p ?_)
 refine (hc.out _ (hst.out.px.pr hP.out)).mono ?_
 rintro e w1 ⟨rfl,hb1⟩
 have HR1:=Lib.hid (hst.out.below hb1)
 clear hb1 hst
 go_wp2_with (first | refine wpList_load_problem rfl _ rfl w.heap.size rfl x (HR1.out).px.p ?_ | refine wpList_load_plan rfl _ rfl (w.heap.size+1) rfl y (HR1.out).px.q ?_)
 refine (hs.out _ (HR1.out.px.pr hP.out) (HR1.out.px.qr hQ.out)).mono ?_
 rintro e w2 ⟨rfl,hb2⟩
 have HR2:=Lib.hid (HR1.out.below hb2)
 clear hb2 HR1
 have d0:=HR2.out.px.pc
 obtain ⟨c0, -, -, -, -, -, -, -, -, -, -, -, -, -, -, -, -,c17,c18,c19⟩:=d0
 obtain ⟨-, -,d2⟩:=HR2.out.px.qc
 go_wp2_with fail
 refine (hus.out _ (HR2.out.px.pr hP.out) (HR2.out.px.qr hQ.out)).mono ?_
 rintro e w6 ⟨AU,cU,rfl,hRU,hfU,hb6⟩
 have HR6:=Lib.hid (HR2.out.below hb6)
 have HRU6:=Lib.hid hRU
 have hAB:=hRU.lt (by intro e; have h1:=EU.out; have h2:1 ≤ x.buy.l.length:=HN.out.1; rw [e] at h1; simp at h1; omega)
 have k18:=cell_below c18 hb6
 have k19:=cell_below c19 hb6
 clear c0 c17 c18 c19 d2 hb6 hfU hRU HR2
 go_wp2_with fail
 go_quiet (fail)
 go_upto_region 11 with fail
 obtain ⟨v6,hv6⟩:∃ v6,v6=(w6.drewN nq).alloc (.cells #[.slice none 0 0,.slice none 0 0,.slice none 0 0,.int .i64 0] 128):=⟨_,rfl⟩
 rw [← hv6]
 obtain ⟨g,hg⟩:∃ g,g=w6.heap.size:=⟨_,rfl⟩
 rw [← hg]
 have HRv:Hid (RY x y w v6 #[.slice none 0 0,.slice none 0 0,.slice none 0 0,.int .i64 0]):=by show RY _ _ _ _ _; rw [hv6]; exact (HR6.out.drewN _).alloc _
 have HOv:Hid (Blk v6 g 128 #[.slice none 0 0,.slice none 0 0,.slice none 0 0,.int .i64 0]):=by show Blk _ _ _ _; rw [hv6,hg]; exact Blk.new (w6.drewN nq) _ _
 have HRUv:Hid (RInts v6 AU U):=by show RInts _ _ _; rw [hv6]; exact (HRU6.out.drewN _).alloc _
 have HG:Hid (w.heap.size+3 ≤ g):=by show _ ≤ _; rw [hg]; exact HR6.out.lt
 rw [← hg] at hAB
 have HAB:=Lib.hid hAB
 obtain ⟨B,hB⟩:∃ B,B=g+1:=⟨_,rfl⟩
 have HGB:Hid (g < B):=by show _ < _; omega
 have HB3:Hid (w.heap.size+3 ≤ B):=by show _ ≤ _; have:=HG.out; omega
 have HAB2:Hid (∀ ad,AU=some ad→ad.block < B):=fun ad e => Nat.lt_trans (HAB.out ad e) HGB.out
 have HBwv:Hid (B ≤ v6.heap.size):=by show _ ≤ _; rw [hv6,hB,hg]; simp
 clear hv6 hg hB hAB k18 k19 HR6 HRU6
 go_wp2_with fail
 go_loopw [9,10,12] (fun s9 s10 s12 wr => ∃ (k:Nat) (v1 v2 v3:Value),k ≤ x.buy.l.length∧s9 = .int .i64 (x.p.lv y.x k)∧s10 = .int .i64 (x.p.tm y.x k)∧s12 = .int .i64 k∧Hid (x.p.errTo y.x k=0) ∧
   Hid (RY x y w wr #[.slice none 0 0,.slice none 0 0,.slice none 0 0,.int .i64 0])∧Hid (Blk wr g 128 #[v1,v2,v3,.int .i64 0])∧Hid (Rows3 wr B v1 v2 v3 (x.p.nets y.x k) (x.p.levels y.x k) (x.p.temps y.x k))∧Hid (RInts wr AU U)∧Hid (B ≤ wr.heap.size))
  (fun _ _ s12 _ => x.buy.l.length - (intOf s12).toNat)
 case atStart => exact ⟨0,_,_,_,by omega,rfl,rfl,rfl,rfl,HRv.out,HOv.out,Rows3.nil _ _,HRUv.out,HBwv.out⟩
 case round =>
  obtain ⟨k,v1,v2,v3,hk,rfl,rfl,rfl,herr,hRX,hO,hR3,hRU,hBw⟩:=hrel
  obtain ⟨wo,hwo⟩:∃ wo:World,wo=wr:=⟨_,rfl⟩
  subst hwo
  obtain ⟨A1,c1,rfl⟩:=own_form hR3.out.o1
  obtain ⟨A2,c2,rfl⟩:=own_form hR3.out.o2
  obtain ⟨A3,c3,rfl⟩:=own_form hR3.out.o3
  by_cases hlt:k < x.buy.l.length
  ·have hkc:k < y.charge.l.length:=by have:=E1.out; omega
   have hkh:k < y.heat.l.length:=by have:=E2.out; omega
   have hks:k < x.solar.l.length:=by have:=E4.out; omega
   have hkd:k < x.demand.l.length:=by have:=E5.out; omega
   have hko:k < x.outside.l.length:=by have:=E6.out; omega
   have hku:k < U.length:=by have:=EU.out; omega
   have hsl:=hSL.out k
   obtain ⟨bc,oc,hCe,_,x0⟩:=(hRX.out.px.qr hQ.out).charge.at' hkc
   obtain ⟨bu,ou,hUe,_,_⟩:=hRU.out.at' hku
   rw [show y.x.charge.getD k 0=y.charge.l[k] from (getD_eq hkc).symm,show y.x.heat.getD k 0=y.heat.l[k] from (getD_eq hkh).symm,show x.p.solar.getD k 0=x.solar.l[k] from (getD_eq hks).symm,
    show x.p.demand.getD k 0=x.demand.l[k] from (getD_eq hkd).symm,show x.p.outside.getD k 0=x.outside.l[k] from (getD_eq hko).symm, ← HU.out, ← getD_eq hku] at hsl
   have HSL0:=Lib.hid hsl
   clear hsl
   subst hUe
   have hst0:=fun W => rstep_any x.bat (x.p.lv y.x k) y.charge.l[k] W
   obtain ⟨-, -, -, -, -, -,c6,c7,c8,c9,c10, -, -, -, -, -, -, -, -, -⟩:=hRX.out.px.pc
   obtain ⟨d0, -, -⟩:=hRX.out.px.qc
   rw [hCe] at d0
   clear hCe
   generalize y.charge.l[k]=c at *
   generalize x.p.lv y.x k=lv at *
   obtain ⟨st,hst⟩:∃ st,st=stepZ x.bat lv c:=⟨_,rfl⟩
   rw [← hst] at hst0
   have HST:=Lib.hid hst
   obtain ⟨l1,dr,er⟩:=st
   have hst1:∀ W,Calls Tryz.prog 79 #[.agg #[.int .i64 x.bat.cap,.int .i64 x.bat.reserve,.int .i64 x.bat.charge,.int .i64 x.bat.discharge,.int .i64 x.bat.eff],.int .i64 lv,.int .i64 c] W (fun e w' => e = .returned (.tuple #[.int .i64 l1,.int .i64 dr,.int .i64 er])∧Below W.heap.size W w'):=fun W => hst0 W
   have hstep:=Lib.hid hst1
   have i1:(0:Int) ≤ (k:Int):=by omega
   have i2:(k:Int) < (y.charge.l.length:Int):=by omega
   have HK:Hid (∀ W,Below wo.heap.size wo W→Below wo.heap.size wo W∧W.cell? ⟨w.heap.size,6,none⟩=some (.int .i64 x.bat.cap)∧W.cell? ⟨w.heap.size,7,none⟩=some (.int .i64 x.bat.reserve)∧W.cell? ⟨w.heap.size,8,none⟩=some (.int .i64 x.bat.charge)∧W.cell? ⟨w.heap.size,9,none⟩=some (.int .i64 x.bat.discharge)∧W.cell? ⟨w.heap.size,10,none⟩=some (.int .i64 x.bat.eff)∧W.cell? ⟨w.heap.size+1,0,none⟩=some (.slice (some ⟨bc,oc,none⟩) y.charge.l.length y.charge.c)∧W.cell? ⟨bc,oc+k,none⟩=some (.int .i64 c)):=fun W hb => ⟨hb,cell_below c6 hb,cell_below c7 hb,cell_below c8 hb,cell_below c9 hb,cell_below c10 hb,cell_below d0 hb,cell_below x0 hb⟩
   clear hst hst0 hst1 c6 c7 c8 c9 c10 d0 x0
   go_wp2_with fail
   go_region_held3 (fun w' => Below wo.heap.size wo w'∧w'.cell? ⟨w.heap.size,6,none⟩=some (.int .i64 x.bat.cap)∧w'.cell? ⟨w.heap.size,7,none⟩=some (.int .i64 x.bat.reserve)∧w'.cell? ⟨w.heap.size,8,none⟩=some (.int .i64 x.bat.charge)∧w'.cell? ⟨w.heap.size,9,none⟩=some (.int .i64 x.bat.discharge)∧w'.cell? ⟨w.heap.size,10,none⟩=some (.int .i64 x.bat.eff)∧w'.cell? ⟨w.heap.size+1,0,none⟩=some (.slice (some ⟨bc,oc,none⟩) y.charge.l.length y.charge.c)∧w'.cell? ⟨bc,oc+k,none⟩=some (.int .i64 c))
    (first | exact HK.out _ (Below.refl _ _) | exact HK.out _ (Below.drew (Below.refl _ _)) | exact HK.out _ (Below.drew (by assumption)) | exact HK.out _ (Below.drew (And.left (by assumption))) | exact HK.out _ (Below.trans (by first | assumption | exact And.left (by assumption) | exact Below.refl _ _ | exact Below.drew (Below.refl _ _) | exact Below.drew (by assumption) | exact Below.drew (And.left (by assumption))) (Below.mono (by assumption) (Below.size (by first | assumption | exact And.left (by assumption) | exact Below.refl _ _ | exact Below.drew (Below.refl _ _) | exact Below.drew (by assumption) | exact Below.drew (And.left (by assumption)))))))
    (first | (go_at_call 79; refine (hstep.out _).mono ?_; rintro e' w7 ⟨rfl,hb7⟩))
   rename_i hHeld
   have hb7':=hHeld.1
   have HGWo:Hid (g < wo.heap.size):=Nat.lt_of_lt_of_le HGB.out hBw.out
   have HR7:=Lib.hid (hRX.out.below hb7')
   have HO7:=Lib.hid (hO.out.below hb7' HGWo.out)
   have HR37:=Lib.hid (hR3.out.below hb7')
   have HRU7:=Lib.hid (hRU.out.below hb7')
   have HBw7:=Lib.hid (Nat.le_trans hBw.out hb7'.size)
   have HGW7:=Lib.hid (Nat.lt_of_lt_of_le HGWo.out hb7'.size)
   clear hb7 hb7' hHeld hstep i2 HK hRX hR3 hRU hBw hO HGWo
   have HSL:Hid (Pb.Slot x.p y.x k c _ _ _ _ _ lv (x.p.tm y.x k)):=HSL0
   by_cases her:er=0
   ·subst her
    obtain ⟨bo,oo,hOe,_,o0⟩:=(HR7.out.px.pr hP.out).outside.at' hko
    obtain ⟨bh,oh,hHe,_,h0⟩:=(HR7.out.px.qr hQ.out).heat.at' hkh
    obtain ⟨-, -, -, -, -,c5, -, -, -, -, -,c11,c12,c13,c14,c15,c16, -, -, -⟩:=HR7.out.px.pc
    obtain ⟨-,d1, -⟩:=HR7.out.px.qc
    rw [hOe] at c5
    rw [hHe] at d1
    have HOE:=Lib.hid hOe
    have HHE:=Lib.hid hHe
    clear hOe hHe
    generalize x.outside.l[k]=o at *
    generalize y.heat.l[k]=h at *
    obtain ⟨tz,htz⟩:∃ tz,tz=x.room.valid.step (x.p.tm y.x k) o h:=⟨_,rfl⟩
    have HTZ:=Lib.hid htz
    have ht1:∀ W,RPb W x→Calls Tryz.prog 51 #[.agg #[.int .i64 x.gain,.int .i64 x.loss,.int .i64 x.steps,.int .i64 x.power,.slice x.low.A x.low.l.length x.low.c,.slice x.high.A x.high.l.length x.high.c],.int .i64 (x.p.tm y.x k),.int .i64 o,.int .i64 h] W (fun e w' => e = .returned (.int .i64 tz)∧Below W.heap.size W w'):=fun W hp => by
     rw [htz]; exact rtstep_any x.room x.low.A x.high.A x.low.c x.high.c (x.p.tm y.x k) o h W hp.low hp.high
    have HT:=Lib.hid ht1
    clear htz ht1
    generalize x.p.tm y.x k=tm at *
    have i3:(k:Int) < (x.outside.l.length:Int):=by omega
    have i4:(k:Int) < (y.heat.l.length:Int):=by omega
    have HK:Hid (∀ W,Below w7.heap.size w7 W→Below w7.heap.size w7 W∧W.cell? ⟨w.heap.size,11,none⟩=some (.int .i64 x.gain)∧W.cell? ⟨w.heap.size,12,none⟩=some (.int .i64 x.loss)∧W.cell? ⟨w.heap.size,13,none⟩=some (.int .i64 x.steps)∧W.cell? ⟨w.heap.size,14,none⟩=some (.int .i64 x.power)∧W.cell? ⟨w.heap.size,15,none⟩=some (.slice x.low.A x.low.l.length x.low.c)∧W.cell? ⟨w.heap.size,16,none⟩=some (.slice x.high.A x.high.l.length x.high.c)∧W.cell? ⟨w.heap.size,5,none⟩=some (.slice (some ⟨bo,oo,none⟩) x.outside.l.length x.outside.c)∧W.cell? ⟨w.heap.size+1,1,none⟩=some (.slice (some ⟨bh,oh,none⟩) y.heat.l.length y.heat.c)∧W.cell? ⟨bo,oo+k,none⟩=some (.int .i64 o)∧W.cell? ⟨bh,oh+k,none⟩=some (.int .i64 h)):=fun W hb => ⟨hb,cell_below c11 hb,cell_below c12 hb,cell_below c13 hb,cell_below c14 hb,cell_below c15 hb,cell_below c16 hb,cell_below c5 hb,cell_below d1 hb,cell_below o0 hb,cell_below h0 hb⟩
    clear c5 c11 c12 c13 c14 c15 c16 d1 o0 h0
    go_wp2_with fail
    go_region_held3 (fun w' => Below w7.heap.size w7 w'∧w'.cell? ⟨w.heap.size,11,none⟩=some (.int .i64 x.gain)∧w'.cell? ⟨w.heap.size,12,none⟩=some (.int .i64 x.loss)∧w'.cell? ⟨w.heap.size,13,none⟩=some (.int .i64 x.steps)∧w'.cell? ⟨w.heap.size,14,none⟩=some (.int .i64 x.power)∧w'.cell? ⟨w.heap.size,15,none⟩=some (.slice x.low.A x.low.l.length x.low.c)∧w'.cell? ⟨w.heap.size,16,none⟩=some (.slice x.high.A x.high.l.length x.high.c)∧w'.cell? ⟨w.heap.size,5,none⟩=some (.slice (some ⟨bo,oo,none⟩) x.outside.l.length x.outside.c)∧w'.cell? ⟨w.heap.size+1,1,none⟩=some (.slice (some ⟨bh,oh,none⟩) y.heat.l.length y.heat.c)∧w'.cell? ⟨bo,oo+k,none⟩=some (.int .i64 o)∧w'.cell? ⟨bh,oh+k,none⟩=some (.int .i64 h))
     (first | exact HK.out _ (Below.refl _ _) | exact HK.out _ (Below.drew (Below.refl _ _)) | exact HK.out _ (Below.drew (by assumption)) | exact HK.out _ (Below.drew (And.left (by assumption))) | exact HK.out _ (Below.trans (by first | assumption | exact And.left (by assumption) | exact Below.refl _ _ | exact Below.drew (Below.refl _ _) | exact Below.drew (by assumption) | exact Below.drew (And.left (by assumption))) (Below.mono (by assumption) (Below.size (by first | assumption | exact And.left (by assumption) | exact Below.refl _ _ | exact Below.drew (Below.refl _ _) | exact Below.drew (by assumption) | exact Below.drew (And.left (by assumption)))))))
     (first | (go_at_call 51; refine (HT.out _ ((HR7.out.below (by first | assumption | exact And.left (by assumption) | exact Below.refl _ _ | exact Below.drew (Below.refl _ _) | exact Below.drew (by assumption) | exact Below.drew (And.left (by assumption)))).px.pr hP.out)).mono ?_; rintro e' w8 ⟨rfl,hb8⟩))
    rename_i hHeld
    obtain ⟨hb8',c11,c12,c13,c14,c15,c16, -,d1, -,h0⟩:=hHeld
    have HR8:=Lib.hid (HR7.out.below hb8')
    have HO8:=Lib.hid (HO7.out.below hb8' HGW7.out)
    have HGW8:=Lib.hid (Nat.lt_of_lt_of_le HGW7.out hb8'.size)
    have HR38:=Lib.hid (HR37.out.below hb8')
    have HRU8:=Lib.hid (HRU7.out.below hb8')
    have HBw8:=Lib.hid (Nat.le_trans HBw7.out hb8'.size)
    clear hb8 hb8' HK HT i3 HR7 HR37 HRU7 HBw7 HO7 HGW7
    obtain ⟨bd,od,hDe,_,e0⟩:=(HR8.out.px.pr hP.out).demand.at' hkd
    obtain ⟨bs,os,hSe,_,s0⟩:=(HR8.out.px.pr hP.out).solar.at' hks
    obtain ⟨bu',ou',hUe,_,u0⟩:=HRU8.out.at' hku
    cases hUe
    obtain ⟨-, -,f2,s3,c4, -, -, -, -, -, -, -, -, -, -, -, -, -, -, -⟩:=HR8.out.px.pc
    rw [hDe] at c4
    rw [hSe] at s3
    have F2:=Lib.hid f2
    clear f2 hDe hSe
    generalize x.demand.l[k]=dd at *
    generalize x.solar.l[k]=so at *
    generalize U[k]=uu at *
    have hsl2:=HSL.out
    have hd0:=hsl2.d0; have hd1:=hsl2.d1; have hs0:=hsl2.s0; have hs1:=hsl2.s1; have hr0:=hsl2.r0; have hr1:=hsl2.r1; have hm0:=hsl2.m0; have hm1:=hsl2.m1; have hu0:=hsl2.u0; have hu1:=hsl2.u1
    have hnet:=hsl2.net
    have HTM:Hid (x.p.tm y.x (k+1)=tz):=by show _=_; rw [hsl2.tm',HTZ.out]; rfl
    have HLV:Hid (x.p.lv y.x (k+1)=l1):=by show _=_; rw [hsl2.lv',show stepZ x.p.bat lv c=(l1,dr,0) from HST.out.symm]
    rw [show stepZ x.p.bat lv c=(l1,dr,0) from HST.out.symm] at hr0 hr1 hnet
    have hm0:0 ≤ h * x.power:=hm0
    have hm1:h * x.power ≤ 40000:=hm1
    have hnet:x.p.net y.x k=dd+dr+h * x.power+uu - so:=hnet
    simp only [] at hr0 hr1
    have a1:IntKind.i64.wrap (dd+dr)=dd+dr:=IntWalk.i64_in _ (by omega)
    have a2:IntKind.i64.wrap (h * x.power)=h * x.power:=IntWalk.i64_in _ (by omega)
    have a3:IntKind.i64.wrap (dd+dr+h * x.power)=dd+dr+h * x.power:=IntWalk.i64_in _ (by omega)
    have a4:IntKind.i64.wrap (dd+dr+h * x.power+uu)=dd+dr+h * x.power+uu:=IntWalk.i64_in _ (by omega)
    have hfb:=Pb.fuse_bd hgd.out
    have hfb:1 ≤ x.fuse∧x.fuse ≤ 1000:=hfb
    have a6:IntKind.i64.wrap (-x.fuse) = -x.fuse:=IntWalk.i64_in _ (by omega)
    have A6:=Lib.hid a6
    have i3:(k:Int) < (x.demand.l.length:Int):=by omega
    have i5:(k:Int) < (x.solar.l.length:Int):=by omega
    have i6:(k:Int) < (U.length:Int):=by omega
    obtain ⟨nz,hnz⟩:∃ nz,nz=dd+dr+h * x.power+uu - so:=⟨_,rfl⟩
    have HNZ:Hid (x.p.net y.x k=nz):=by show _=_; rw [hnz]; exact hnet
    have a5:IntKind.i64.wrap (dd+dr+h * x.power+uu - so)=nz:=by rw [hnz]; exact IntWalk.i64_in _ (by omega)
    clear hsl2 hd0 hd1 hs0 hs1 hr0 hr1 hm0 hm1 hu0 hu1 hnet hfb a6 hnz
    have C16:=Lib.hid (And.intro c11 (And.intro c12 (And.intro c13 (And.intro c15 c16))))
    clear c11 c12 c13 c15 c16
    go_wp2_with fail
    go_quiet (fail)
    clear a1 a2 a3 a4 a5 s3 c4 d1 h0 e0 s0 u0 i3 i4 i5 i6
    have ho1:∀ W,RPb W x→Calls Tryz.prog 106 #[.agg #[.int .i64 x.gain,.int .i64 x.loss,.int .i64 x.steps,.int .i64 x.power,.slice x.low.A x.low.l.length x.low.c,.slice x.high.A x.high.l.length x.high.c],.int .i64 k,.int .i64 tz] W (fun e w' => e = .returned (.bool (x.room.valid.okAt k tz))∧Below W.heap.size W w'):=fun W hp =>
     rtok_any x.room x.low.A x.high.A x.low.c x.high.c k tz W hp.low hp.high
    obtain ⟨c11,c12,c13,c15,c16⟩:=C16.out
    have hor:x.p.room.valid.okAt k tz=x.room.valid.okAt k tz:=rfl
    cases hok:x.room.valid.okAt k tz
    all_goals
     rw [hok] at ho1
     have HO:=Lib.hid ho1
     clear ho1
     go_wp2_with fail
     refine (HO.out _ ((HR8.out.drewN _).px.pr hP.out)).mono ?_
     rintro e wa ⟨rfl,hba⟩
     have HRa:=Lib.hid ((HR8.out.drewN _).below hba)
     have HOa:=Lib.hid ((HO8.out.drewN _).below hba HGW8.out)
     have HR3a:=Lib.hid ((HR38.out.below (below_drewN (Below.refl _ _) _)).below hba)
     have HRUa:=Lib.hid ((HRU8.out.drewN _).below hba)
     have HBwa:=Lib.hid (Nat.le_trans HBw8.out hba.size)
     clear hba c11 c12 c13 c14 c15 c16
    ·clear hor
     have hfin:=Lib.hid (hES.out k 20 herr.out (by rw [HSL.out.err,show stepZ x.p.bat lv c=(l1,dr,0) from HST.out.symm,HTM.out,HNZ.out]; simp only []; rw [if_neg (by simp),if_neg (by show ¬ (x.room.valid.okAt k tz && wB nz (-x.fuse) x.fuse)=true; rw [hok]; simp)]) (by omega) hlt)
     obtain ⟨z0,z1,z2,z3⟩:=HRa.out.cells
     obtain ⟨f0,f1,f2,f3⟩:=HRa.out.frozen
     go_wp2_with fail
     rw [hfin.out.1,hfin.out.2]
     have HR':=(((HRa.out.setT 0 (.slice none 0 0)).setT 1 (.slice none 0 0)).setT 2 (.slice none 0 0)).setT 3 (.int .i64 0)
     exact rrun_bad (by simpa using HR') rfl rfl
    ·have hfb:=Pb.fuse_bd hgd.out
     have hfb:1 ≤ x.fuse∧x.fuse ≤ 1000:=hfb
     have f2c:=HRa.out.px.pc.2.2.1
     have a6:=A6.out
     rcases (show (nz < -x.fuse) ∨ (¬ nz < -x.fuse∧x.fuse < nz) ∨ (¬ nz < -x.fuse∧¬ x.fuse < nz) by omega) with g1 | ⟨g1,g2⟩ | ⟨g1,g2⟩
     ·clear hor
      have hfin:=Lib.hid (hES.out k 20 herr.out (by rw [HSL.out.err,show stepZ x.p.bat lv c=(l1,dr,0) from HST.out.symm,HTM.out,HNZ.out]; simp only []; rw [if_neg (by simp),if_neg (by show ¬ (x.room.valid.okAt k tz && wB nz (-x.fuse) x.fuse)=true; rw [wB_false.2 (by omega)]; simp)]) (by omega) hlt)
      obtain ⟨z0,z1,z2,z3⟩:=HRa.out.cells
      obtain ⟨f0,f1,f2,f3⟩:=HRa.out.frozen
      go_wp2_with fail
      rw [hfin.out.1,hfin.out.2]
      have HR':=(((HRa.out.setT 0 (.slice none 0 0)).setT 1 (.slice none 0 0)).setT 2 (.slice none 0 0)).setT 3 (.int .i64 0)
      exact rrun_bad (by simpa using HR') rfl rfl
     ·clear hor
      have hfin:=Lib.hid (hES.out k 20 herr.out (by rw [HSL.out.err,show stepZ x.p.bat lv c=(l1,dr,0) from HST.out.symm,HTM.out,HNZ.out]; simp only []; rw [if_neg (by simp),if_neg (by show ¬ (x.room.valid.okAt k tz && wB nz (-x.fuse) x.fuse)=true; rw [wB_false.2 (by omega)]; simp)]) (by omega) hlt)
      obtain ⟨z0,z1,z2,z3⟩:=HRa.out.cells
      obtain ⟨f0,f1,f2,f3⟩:=HRa.out.frozen
      go_wp2_with fail
      rw [hfin.out.1,hfin.out.2]
      have HR':=(((HRa.out.setT 0 (.slice none 0 0)).setT 1 (.slice none 0 0)).setT 2 (.slice none 0 0)).setT 3 (.int .i64 0)
      exact rrun_bad (by simpa using HR') rfl rfl
     ·have hk9:k ≤ 96:=by
       have h2:x.buy.l.length ≤ 96:=HN.out.2
       omega
      obtain ⟨i0,hi,hz0,hz1,hz2⟩:=info_parts Tryz.infoInt
      have HSE:=Lib.hid (Pb.errTo_go herr.out (by rw [HSL.out.err,show stepZ x.p.bat lv c=(l1,dr,0) from HST.out.symm,HTM.out,HNZ.out]; simp only []; rw [if_neg (by simp),if_pos (by show (x.room.valid.okAt k tz && wB nz (-x.fuse) x.fuse)=true; rw [hok,wB_true.2 ⟨by omega,by omega⟩]; rfl)]))
      clear hor hok
      have z0:=HOa.out.cell 0
      have z1:=HOa.out.cell 1
      have z2:=HOa.out.cell 2
      have z3:=HOa.out.cell 3
      have f0:=HOa.out.frozen 0
      have f1:=HOa.out.frozen 1
      have f2:=HOa.out.frozen 2
      have f3:=HOa.out.frozen 3
      simp at z0 z1 z2 z3
      go_wp2_with (at_builtin; refine wpList_append_newGH _ (wa) (wa.heap.size) rfl rfl _ _ 22 rfl B 3 i0 (.int .i64 0) 1 8 Tryz.underlying22 hi hz0 hz1 hz2 rfl (by decide) (by decide) _ (x.p.nets y.x k).length (ints (x.p.nets y.x k)) rfl HR3a.out.o1 #[.int .i64 nz] rfl (one_int _ _) rfl rfl (by rw [Pb.nets_len]; omega) HBwa.out ?_)
      intro v' wb hob hgb hvb
      have HR3b:=Lib.hid (HR3a.out.push rfl hob hgb hvb)
      have hBb:=HR3a.out.grown HBwa.out hgb
      have HRb:=Lib.hid (HRa.out.above hBb HB3.out)
      have HOb:=Lib.hid (HOa.out.below hBb HGB.out)
      have HRUb:=Lib.hid (HRUa.out.under hBb HAB2.out)
      have HBwb:=Lib.hid (Nat.le_trans HBwa.out hBb.size)
      obtain ⟨A1',c1',rfl⟩:=own_form hob
      clear hob hgb hvb hBb z0 z1 z2 z3 f0 f1 f2 f3
      have z0:=HOb.out.cell 0
      have z1:=HOb.out.cell 1
      have z2:=HOb.out.cell 2
      have z3:=HOb.out.cell 3
      have f0:=HOb.out.frozen 0
      have f1:=HOb.out.frozen 1
      have f2:=HOb.out.frozen 2
      have f3:=HOb.out.frozen 3
      simp at z0 z1 z2 z3
      obtain ⟨wc,hwwc⟩:∃ wc,wc=wb.setCell ⟨g,0,none⟩ (.slice A1' ((x.p.nets y.x k).length+1) c1'):=⟨_,rfl⟩
      have HRc:Hid (RY x y w wc #[.slice none 0 0,.slice none 0 0,.slice none 0 0,.int .i64 0]):=by
       show RY _ _ _ _ _
       rw [hwwc]
       exact HRb.out.setFar (p:=⟨g,0,none⟩) HG.out (.slice A1' ((x.p.nets y.x k).length+1) c1')
      have HOc:Hid (Blk wc g 128 #[.slice A1' ((x.p.nets y.x k).length+1) c1',.slice A2 (x.p.levels y.x k).length c2,.slice A3 (x.p.temps y.x k).length c3,.int .i64 0]):=by
       show Blk _ _ _ _
       rw [hwwc]
       simpa using HOb.out.set_ 0 (.slice A1' ((x.p.nets y.x k).length+1) c1')
      have HR3c:=Lib.hid ((HR3b.out.set (p:=⟨g,0,none⟩) HGB.out (.slice A1' ((x.p.nets y.x k).length+1) c1')).rot)
      have HRUc:=Lib.hid (HRUb.out.setFar (p:=⟨g,0,none⟩) (fun ad e => Nat.ne_of_lt (HAB.out ad e)) (.slice A1' ((x.p.nets y.x k).length+1) c1'))
      rw [show wb.setCell ⟨g,0,none⟩ (.slice A1' ((x.p.nets y.x k).length+1) c1')=wc from hwwc.symm] at HR3c HRUc
      have HBwc:Hid (B ≤ wc.heap.size):=by show _ ≤ _; rw [hwwc]; simpa [World.setCell] using HBwb.out
      go_upto_region 23 with fail
      rw [← hwwc]
      clear hwwc z0 z1 z2 z3 f0 f1 f2 f3 HRa HR3a HRUa HBwa HOa HRb HR3b HRUb HBwb HOb
      have z0:=HOc.out.cell 0
      have z1:=HOc.out.cell 1
      have z2:=HOc.out.cell 2
      have z3:=HOc.out.cell 3
      have f0:=HOc.out.frozen 0
      have f1:=HOc.out.frozen 1
      have f2:=HOc.out.frozen 2
      have f3:=HOc.out.frozen 3
      simp at z0 z1 z2 z3
      go_wp2_with (at_builtin; refine wpList_append_newGH _ (wc) (wc.heap.size) rfl rfl _ _ 22 rfl B 3 i0 (.int .i64 0) 1 8 Tryz.underlying22 hi hz0 hz1 hz2 rfl (by decide) (by decide) _ (x.p.levels y.x k).length (ints (x.p.levels y.x k)) rfl HR3c.out.o1 #[.int .i64 l1] rfl (one_int _ _) rfl rfl (by rw [Pb.levels_len]; omega) HBwc.out ?_)
      intro v' wd hob hgb hvb
      have HR3d:=Lib.hid (HR3c.out.push rfl hob hgb hvb)
      have hBb:=HR3c.out.grown HBwc.out hgb
      have HRd:=Lib.hid (HRc.out.above hBb HB3.out)
      have HOd:=Lib.hid (HOc.out.below hBb HGB.out)
      have HRUd:=Lib.hid (HRUc.out.under hBb HAB2.out)
      have HBwd:=Lib.hid (Nat.le_trans HBwc.out hBb.size)
      obtain ⟨A2',c2',rfl⟩:=own_form hob
      clear hob hgb hvb hBb z0 z1 z2 z3 f0 f1 f2 f3
      have z0:=HOd.out.cell 0
      have z1:=HOd.out.cell 1
      have z2:=HOd.out.cell 2
      have z3:=HOd.out.cell 3
      have f0:=HOd.out.frozen 0
      have f1:=HOd.out.frozen 1
      have f2:=HOd.out.frozen 2
      have f3:=HOd.out.frozen 3
      simp at z0 z1 z2 z3
      obtain ⟨we,hwwe⟩:∃ we,we=wd.setCell ⟨g,1,none⟩ (.slice A2' ((x.p.levels y.x k).length+1) c2'):=⟨_,rfl⟩
      have HRe:Hid (RY x y w we #[.slice none 0 0,.slice none 0 0,.slice none 0 0,.int .i64 0]):=by
       show RY _ _ _ _ _
       rw [hwwe]
       exact HRd.out.setFar (p:=⟨g,1,none⟩) HG.out (.slice A2' ((x.p.levels y.x k).length+1) c2')
      have HOe:Hid (Blk we g 128 #[.slice A1' ((x.p.nets y.x k).length+1) c1',.slice A2' ((x.p.levels y.x k).length+1) c2',.slice A3 (x.p.temps y.x k).length c3,.int .i64 0]):=by
       show Blk _ _ _ _
       rw [hwwe]
       simpa using HOd.out.set_ 1 (.slice A2' ((x.p.levels y.x k).length+1) c2')
      have HR3e:=Lib.hid ((HR3d.out.set (p:=⟨g,1,none⟩) HGB.out (.slice A2' ((x.p.levels y.x k).length+1) c2')).rot)
      have HRUe:=Lib.hid (HRUd.out.setFar (p:=⟨g,1,none⟩) (fun ad e => Nat.ne_of_lt (HAB.out ad e)) (.slice A2' ((x.p.levels y.x k).length+1) c2'))
      rw [show wd.setCell ⟨g,1,none⟩ (.slice A2' ((x.p.levels y.x k).length+1) c2')=we from hwwe.symm] at HR3e HRUe
      have HBwe:Hid (B ≤ we.heap.size):=by show _ ≤ _; rw [hwwe]; simpa [World.setCell] using HBwd.out
      go_upto_region 24 with fail
      rw [← hwwe]
      clear hwwe z0 z1 z2 z3 f0 f1 f2 f3 HRc HR3c HRUc HBwc HOc HRd HR3d HRUd HBwd HOd
      have z0:=HOe.out.cell 0
      have z1:=HOe.out.cell 1
      have z2:=HOe.out.cell 2
      have z3:=HOe.out.cell 3
      have f0:=HOe.out.frozen 0
      have f1:=HOe.out.frozen 1
      have f2:=HOe.out.frozen 2
      have f3:=HOe.out.frozen 3
      simp at z0 z1 z2 z3
      go_wp2_with (at_builtin; refine wpList_append_newGH _ (we) (we.heap.size) rfl rfl _ _ 22 rfl B 3 i0 (.int .i64 0) 1 8 Tryz.underlying22 hi hz0 hz1 hz2 rfl (by decide) (by decide) _ (x.p.temps y.x k).length (ints (x.p.temps y.x k)) rfl HR3e.out.o1 #[.int .i64 tz] rfl (one_int _ _) rfl rfl (by rw [Pb.temps_len]; omega) HBwe.out ?_)
      intro v' wf hob hgb hvb
      have HR3f:=Lib.hid (HR3e.out.push rfl hob hgb hvb)
      have hBb:=HR3e.out.grown HBwe.out hgb
      have HRf:=Lib.hid (HRe.out.above hBb HB3.out)
      have HOf:=Lib.hid (HOe.out.below hBb HGB.out)
      have HRUf:=Lib.hid (HRUe.out.under hBb HAB2.out)
      have HBwf:=Lib.hid (Nat.le_trans HBwe.out hBb.size)
      obtain ⟨A3',c3',rfl⟩:=own_form hob
      clear hob hgb hvb hBb z0 z1 z2 z3 f0 f1 f2 f3
      have z0:=HOf.out.cell 0
      have z1:=HOf.out.cell 1
      have z2:=HOf.out.cell 2
      have z3:=HOf.out.cell 3
      have f0:=HOf.out.frozen 0
      have f1:=HOf.out.frozen 1
      have f2:=HOf.out.frozen 2
      have f3:=HOf.out.frozen 3
      simp at z0 z1 z2 z3
      obtain ⟨wg,hwwg⟩:∃ wg,wg=wf.setCell ⟨g,2,none⟩ (.slice A3' ((x.p.temps y.x k).length+1) c3'):=⟨_,rfl⟩
      have HRg:Hid (RY x y w wg #[.slice none 0 0,.slice none 0 0,.slice none 0 0,.int .i64 0]):=by
       show RY _ _ _ _ _
       rw [hwwg]
       exact HRf.out.setFar (p:=⟨g,2,none⟩) HG.out (.slice A3' ((x.p.temps y.x k).length+1) c3')
      have HOg:Hid (Blk wg g 128 #[.slice A1' ((x.p.nets y.x k).length+1) c1',.slice A2' ((x.p.levels y.x k).length+1) c2',.slice A3' ((x.p.temps y.x k).length+1) c3',.int .i64 0]):=by
       show Blk _ _ _ _
       rw [hwwg]
       simpa using HOf.out.set_ 2 (.slice A3' ((x.p.temps y.x k).length+1) c3')
      have HR3g:=Lib.hid ((HR3f.out.set (p:=⟨g,2,none⟩) HGB.out (.slice A3' ((x.p.temps y.x k).length+1) c3')).rot)
      have HRUg:=Lib.hid (HRUf.out.setFar (p:=⟨g,2,none⟩) (fun ad e => Nat.ne_of_lt (HAB.out ad e)) (.slice A3' ((x.p.temps y.x k).length+1) c3'))
      rw [show wf.setCell ⟨g,2,none⟩ (.slice A3' ((x.p.temps y.x k).length+1) c3')=wg from hwwg.symm] at HR3g HRUg
      have HBwg:Hid (B ≤ wg.heap.size):=by show _ ≤ _; rw [hwwg]; simpa [World.setCell] using HBwf.out
      go_wp2_with fail
      rw [← hwwg]
      clear hwwg z0 z1 z2 z3 f0 f1 f2 f3 HRe HR3e HRUe HBwe HOe HRf HR3f HRUf HBwf HOf
      go_roundw
      case rel => exact ⟨k+1,_,_,_,by omega,by rw [HLV.out],by rw [HTM.out],by go_num,HSE.out,HRg.out,HOg.out,(by rw [Pb.nets_succ,Pb.levels_succ,Pb.temps_succ,HNZ.out,HLV.out,HTM.out]; exact HR3g.out),HRUg.out,HBwg.out⟩
      case measure => simp [intOf]; omega
   ·have hen:(er != 0)=true:=by simpa using her
    have hfin:=Lib.hid (hES.out k er herr.out (by rw [HSL.out.err,show stepZ x.p.bat lv c=(l1,dr,er) from HST.out.symm]; simp only []; rw [if_pos her]) her hlt)
    obtain ⟨z0,z1,z2,z3⟩:=HR7.out.cells
    obtain ⟨f0,f1,f2,f3⟩:=HR7.out.frozen
    go_wp2_with fail
    rw [hfin.out.1,hfin.out.2]
    have HR':=(((HR7.out.setT 0 (.slice none 0 0)).setT 1 (.slice none 0 0)).setT 2 (.slice none 0 0)).setT 3 (.int .i64 0)
    exact rrun_bad (by simpa using HR') rfl rfl
  ·have hkn:k=x.buy.l.length:=by omega
   have herr2:x.p.err y.x=0:=by rw [hER.out]; have h:=herr.out; rw [hkn] at h; exact h
   have htr:=Pb.trace_ok herr2
   have hnn:x.p.n=k:=hkn.symm
   rw [hnn] at htr
   have h1:=Reads.of_own hR3.out.o1
   have h1c:=own_cap hR3.out.o1
   have h2c:=own_cap hR3.out.o2
   have h3c:=own_cap hR3.out.o3
   obtain ⟨c0,c1',c2', -, -, -, -, -, -, -, -, -, -, -, -, -, -, -, -, -⟩:=hRX.out.px.pc
   have z0:=hO.out.cell 0
   have z1:=hO.out.cell 1
   have z2:=hO.out.cell 2
   have z3:=hO.out.cell 3
   simp at z0 z1 z2 z3
   have HE2:=Lib.hid herr2
   have HTR:=Lib.hid htr
   have hk96:k ≤ 96:=by
    have h2:x.buy.l.length ≤ 96:=HN.out.2
    omega
   have hlt96:(x.p.nets y.x k).length < 9223372036854775807:=by rw [Pb.nets_len]; omega
   have ht0:∀ W,RPb W x→RInts W A1 (x.p.nets y.x k)→Calls Tryz.prog 107 #[.agg #[.slice x.buy.A x.buy.l.length x.buy.c,.slice x.sell.A x.sell.l.length x.sell.c,.int .i64 x.fuse],.slice A1 (x.p.nets y.x k).length c1] W (fun e w' => e = .returned (.int .i64 (x.p.t.total (x.p.nets y.x k)))∧Below W.heap.size W w'):=fun W hp h =>
    rtotal_any x.t x.buy.A x.sell.A A1 x.buy.c x.sell.c c1 (x.p.nets y.x k) W hp.buy hp.sell h hlt96
   have HT:=Lib.hid ht0
   have HH:=Lib.hid h1
   have HCC:=Lib.hid (And.intro h1c (And.intro h2c h3c))
   have hnlt:¬ (k:Int) < (x.buy.l.length:Int):=by omega
   clear htr herr2 ht0 h1 h1c h2c h3c hkn hnn hlt hk96 hlt96
   generalize x.p.t.total (x.p.nets y.x k)=tot at *
   go_wp2_with fail
   refine (HT.out _ (hRX.out.px.pr hP.out) HH.out).mono ?_
   rintro e w7 ⟨rfl,hb7⟩
   have HR7:=Lib.hid (hRX.out.below hb7)
   have HO7:=Lib.hid (hO.out.below hb7 (Nat.lt_of_lt_of_le HGB.out hBw.out))
   have HR37:=Lib.hid (hR3.out.below hb7)
   clear hb7 z0 z1 z2 z3 c0 c1' c2'
   obtain ⟨y0,y1,y2,y3⟩:=HR7.out.cells
   obtain ⟨e0,e1,e2,e3⟩:=HR7.out.frozen
   have z0:=HO7.out.cell 0
   have z1:=HO7.out.cell 1
   have z2:=HO7.out.cell 2
   have z3:=HO7.out.cell 3
   have f3:=HO7.out.frozen 3
   simp at z0 z1 z2 z3
   have q1:¬ (w.heap.size+1+1=g):=by have:=HG.out; omega
   have q2:¬ (g=w.heap.size+1+1):=by have:=HG.out; omega
   have q3:¬ (w.heap.size+2=g):=q1
   have q4:¬ (g=w.heap.size+2):=q2
   go_wp2_with fail
   have hf3:=(((((HR37.out).set (p:=⟨g,3,none⟩) HGB.out (.int .i64 tot)).set (p:=⟨w.heap.size+2,0,none⟩) (by have:=HB3.out; show w.heap.size+2 < B; omega) (.slice A1 (x.p.nets y.x k).length c1)).set (p:=⟨w.heap.size+2,1,none⟩) (by have:=HB3.out; show w.heap.size+2 < B; omega) (.slice A2 (x.p.levels y.x k).length c2)).set (p:=⟨w.heap.size+2,2,none⟩) (by have:=HB3.out; show w.heap.size+2 < B; omega) (.slice A3 (x.p.temps y.x k).length c3)).set (p:=⟨w.heap.size+2,3,none⟩) (by have:=HB3.out; show w.heap.size+2 < B; omega) (.int .i64 tot)
   have HR':=(((((HR7.out.setFar (p:=⟨g,3,none⟩) HG.out (.int .i64 tot))).setT 0 (.slice A1 (x.p.nets y.x k).length c1)).setT 1 (.slice A2 (x.p.levels y.x k).length c2)).setT 2 (.slice A3 (x.p.temps y.x k).length c3)).setT 3 (.int .i64 tot)
   rw [HE2.out,HTR.out]
   refine rrun_ret (m:=⟨⟨A1,c1,x.p.nets y.x k⟩,⟨A2,c2,x.p.levels y.x k⟩,⟨A3,c3,x.p.temps y.x k⟩,tot⟩) (x:=x) (y:=y) ?_ ⟨Reads.of_own hf3.o1,Reads.of_own hf3.o2,Reads.of_own hf3.o3,HCC.out.1,HCC.out.2.1,HCC.out.2.2⟩ ?_ ?_
   ·simpa [TrM.v,Value.cells] using HR'
   ·rfl
   ·rfl
end Go.Proofs.YtnppngaabfhkpaaGreat
