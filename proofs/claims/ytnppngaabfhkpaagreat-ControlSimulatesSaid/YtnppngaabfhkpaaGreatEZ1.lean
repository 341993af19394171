/-
  The walks of layer 44's reference: Decide.
-/
import Derived.Test.YtnppngaabfhkpaaGreatECX
import Derived.Test.YtnppngaabfhkpaaGreatEU27
import Derived.Test.YtnppngaabfhkpaaGreatETR1
namespace Go.Proofs.YtnppngaabfhkpaaGreat
open Go.RowKit
attribute [local go_sem ↓] Go.wp_at_zero Go.wp_at_succ
structure DLR (x:PbM) (w wr:World) (g:Nat) (C H:Int) (v:Value) (l:List Bool):Prop where
 pd:PD x DcM.zero 42 w wr
 blk:Blk wr g 42 #[.int .i64 C,.int .i64 H,v]
 own:wr.ownsRow (g+1) 4 1 v l.length (bools l)
 lt:w.heap.size+2 ≤ g
structure DAR (x:PbM) (w wr:World) (g:Nat) (C H:Int) (v v':Value) (l:List Bool):Prop where
 pd:PD x DcM.zero 42 w wr
 blk:Blk wr g 42 #[.int .i64 C,.int .i64 H,v]
 own:wr.ownsRow (g+1) 4 1 v' l.length (bools l)
 lt:w.heap.size+2 ≤ g
section
variable {x:PbM} {w wr w1:World} {g:Nat} {C H:Int} {v v':Value} {l:List Bool}
theorem DLR.below (h:DLR x w wr g C H v l) (hb:Below wr.heap.size wr w1):DLR x w w1 g C H v l:=⟨h.pd.below hb,h.blk.below hb h.blk.lt,own_below h.own hb,h.lt⟩
theorem DLR.away (h:DLR x w wr g C H v l) {k:Nat} (hk:k < g+1):some k ≠ v.ownBlock:=fun e => by have:=(h.own.lt k e.symm).1; omega
theorem DLR.push (h:DLR x w wr g C H v l) {b:Bool} (hown:w1.ownsRow (g+1) 4 1 v' (l.length+1) (bools l ++ [.bool b])) (hg:wr.grownBy w1 v.ownBlock):DAR x w w1 g C H v v' (l ++ [b]) :=
 ⟨h.pd.grown hg (fun k e => by have:=(h.own.lt k e).1; have:=h.lt; omega),h.blk.grown hg (fun e => h.away (Nat.lt_succ_self _) e),by rw [List.length_append,bools_append]; exact hown,h.lt⟩
theorem DAR.set (h:DAR x w wr g C H v v' l):DLR x w (wr.setCell ⟨g,2,none⟩ v') g C H v' l:=by
 have hg:wr.grownBy (wr.setCell ⟨g,2,none⟩ v') (some g):=only_setCell (grown_id _ _) (.inl rfl) _
 refine ⟨h.pd.grown hg (fun k e => by injection e with e; have:=h.lt; omega),?_,own_setCell h.own (by show g < g+1; omega) _,h.lt⟩
 have:=h.blk.set_ 2 v'
 simpa using this
theorem DLR.start (h:PD x DcM.zero 42 w wr) (hb:Blk wr g 42 #[.int .i64 C,.int .i64 H,.slice none 0 0]) (hlt:w.heap.size+2 ≤ g):DLR x w wr g C H (.slice none 0 0) [] :=
 ⟨h,hb,World.ownsRow_nil _ _ _ _,hlt⟩
theorem DLR.form (h:DLR x w wr g C H v l):∃ A c,v = .slice A l.length c:=own_form h.own
theorem DLR.dec {A:Option Addr} {c:Nat} (h:DLR x w wr g C H (.slice A l.length c) l) (w':World) (hb:Below wr.heap.size wr w'):RBools w' A l∧l.length ≤ c∧∀ ad,A=some ad→w.heap.size+3 ≤ ad.block:=by
 have ho:=own_below h.own hb
 exact ⟨Reads.of_own ho,own_cap ho,fun ad e => by have:=own_fresh ho ad e; have:=h.lt; omega⟩
end
theorem rdecide_ret {tmps:Array Value} {w W:World} {m:DcM} {t:TypeId} {er:Int} (h:Blk W (w.heap.size+1) t m.cs) (hm:RBools W m.A m.l) (hl:m.l.length ≤ m.c) (ha:∀ ad,m.A=some ad→w.heap.size ≤ ad.block) (hb:Below w.heap.size w W)
  (h2:tmps.getD 2 undef = .pointer (some ⟨w.heap.size+1,0,none⟩)) (h3:tmps.getD 3 undef = .int .i64 er) :
  bodyPost Tryz.prog Tryz.f10 (DecideOut m.d er w) .ret { tmps:=tmps,defers := [] } W:=by
 have hr:=results_cell_tmp (P:=Tryz.prog) (fn:=Tryz.f10) (i:=2) (j:=3) (ty:=42) rfl h2 (run_load_blk (by kernel_rfl) (by kernel_rfl) h)
 refine bodyPost_ret hr rfl ?_
 exact ⟨m.v,by rw [h3]; rfl,m,rfl,rfl,hm,hl,ha,hb⟩
theorem RInts.oldO {w w':World} {m:IntsM} {B:Nat} {r:Option Nat} (h:RInts w m.A m.l) (ho:m.l = [] ∨ ∀ ad,m.A=some ad→ad.block < B) (hg:w.grownBy w' r) (hr:∀ q,r=some q→B ≤ q):RInts w' m.A m.l:=by
 rcases ho with ho | ho
 ·rw [ho]; exact RInts.nil
 ·exact h.other hg fun ad e h => by have h1:=ho ad e; have h2:=hr _ h.symm; omega
theorem LY.grownO {y:PnM} {t B:Nat} {wr w1:World} {r:Option Nat} (h:LY y t wr) (hg:wr.grownBy w1 r) (hr:∀ q,r=some q→B ≤ q) (ht:t < B) (ho:LYOld y B):LY y t w1 :=
 ⟨h.p.grown hg (by intro e; have:=hr _ e.symm; omega),h.r.charge.oldO ho.c hg hr,h.r.heat.oldO ho.h hg hr,h.r.start.oldO ho.s hg hr⟩
structure DJ (x:PbM) (y:PnM) (t:Nat) (w wr:World) (g:Nat) (C H:Int) (v:Value) (l:List Bool):Prop where
 dl:DLR x w wr g C H v l
 ly:LY y t wr
 lo:LYOld y g
 tl:t < g
structure DJA (x:PbM) (y:PnM) (t:Nat) (w wr:World) (g:Nat) (C H:Int) (v v':Value) (l:List Bool):Prop where
 dl:DAR x w wr g C H v v' l
 ly:LY y t wr
 lo:LYOld y g
 tl:t < g
section
variable {x:PbM} {y:PnM} {t:Nat} {w wr w1:World} {g:Nat} {C H:Int} {v v':Value} {l:List Bool}
theorem DJ.below (h:DJ x y t w wr g C H v l) (hb:Below wr.heap.size wr w1):DJ x y t w w1 g C H v l:=⟨h.dl.below hb,h.ly.below hb,h.lo,h.tl⟩
theorem DJ.push (h:DJ x y t w wr g C H v l) {b:Bool} (hown:w1.ownsRow (g+1) 4 1 v' (l.length+1) (bools l ++ [.bool b])) (hg:wr.grownBy w1 v.ownBlock):DJA x y t w w1 g C H v v' (l ++ [b]) :=
 ⟨h.dl.push hown hg,h.ly.grownO hg (fun q e => by have:=(h.dl.own.lt q e).1; omega) h.tl h.lo,h.lo,h.tl⟩
theorem DJA.set (h:DJA x y t w wr g C H v v' l):DJ x y t w (wr.setCell ⟨g,2,none⟩ v') g C H v' l:=by
 have hg:wr.grownBy (wr.setCell ⟨g,2,none⟩ v') (some g):=only_setCell (grown_id _ _) (.inl rfl) _
 exact ⟨h.dl.set,h.ly.grownO hg (fun q e => by injection e with e; omega) h.tl h.lo,h.lo,h.tl⟩
theorem DJ.put (h:DJ x y t w wr g C H (.slice none 0 0) []) (C' H':Int):DJ x y t w ((wr.setCell ⟨g,0,none⟩ (.int .i64 C')).setCell ⟨g,1,none⟩ (.int .i64 H')) g C' H' (.slice none 0 0) []:=by
 have hg:wr.grownBy ((wr.setCell ⟨g,0,none⟩ (.int .i64 C')).setCell ⟨g,1,none⟩ (.int .i64 H')) (some g):=only_setCell (p:=⟨g,1,none⟩) (only_setCell (p:=⟨g,0,none⟩) (grown_id _ _) (.inl rfl) _) (.inl rfl) _
 have hl:=h.dl.lt
 refine ⟨DLR.start (h.dl.pd.grown hg (fun q e => by injection e with e; omega)) ?_ h.dl.lt,h.ly.grownO hg (fun q e => by injection e with e; omega) h.tl h.lo,h.lo,h.tl⟩
 have:=(h.dl.blk.set_ 0 (.int .i64 C')).set_ 1 (.int .i64 H')
 simpa using this
end
set_option maxRecDepth 100000 in
set_option maxHeartbeats 64000000 in
theorem rdecide_any (x:PbM) (w:World) (hP0:RPb w x) (hF:x.Fit) :
  Calls Tryz.prog 10 #[x.v] w (DecideOut x.p.dec x.p.bestE w):=by
 have hP:=Lib.hid hP0
 have hck0:=fun W (h:RPb W x) => rpcheck_any x W h hF
 have hbe:=fun W (h:RPb W x) => rbest_any x W h hF
 unfold RBestOut at hbe
 have hst0:=PD.start x DcM.zero 42 w
 simp only [PbM.v]
 obtain ⟨W,hW⟩:∃ W,W=(w.alloc (.cells x.cs 31)).alloc (.cells #[.int .i64 0,.int .i64 0,.slice none 0 0] 42):=⟨_,rfl⟩
 simp only [PbM.cs] at hW
 rw [show (w.alloc (.cells x.cs 31)).alloc (.cells DcM.zero.cs 42)=W from hW.symm] at hst0
 have hst:=Lib.hid hst0
 have hWH:=Lib.hid hW
 clear hst0 hW
 by_cases hc:x.p.chk=0
 ·rw [hc] at hck0
  have HCK:=Lib.hid hck0
  have hd0:=fun h => Pb.dec_best (p:=x.p) h
  have hd1:=fun h => Pb.dec_none (p:=x.p) hc h
  have hfe:=fun h => Pb.feasible (p:=x.p) (Pb.best_top h).2.2.1
  have hgd:=Pb.good hc
  have hnn:=Pb.nbd hgd
  have hl4:=Pb.loads4 hgd
  have hln:=PbM.loads_len x
  have hld:x.loads.length ≤ 4:=by omega
  have hol:0 < x.outside.l.length:=by have h:x.outside.l.length=x.buy.l.length:=hgd.lens.2.2; have h2:1 ≤ x.buy.l.length:=hnn.1; omega
  have hho:=fun (o:Int) W (q:RPb W x) => rthold_any x.room x.low.A x.high.A x.low.c x.high.c 0 x.temp o W q.low q.high
  have hla:=fun (r:Ld) A c W => rllast_any r A c W
  simp only [Rm.v,Ld.v] at hho hla
  have HFB:Hid (∀ h,x.room.valid.hold 0 x.temp (x.outside.l.getD 0 0)=h→x.p.fallback=⟨0,h,x.loads.map fun l => decide (l.r.last=0)⟩):=fun h e => by
   show Dc.mk 0 (x.room.valid.hold 0 x.temp (x.outside.l.getD 0 0)) ((x.loads.map LdM.r).map fun l => decide (l.last=0))=_
   rw [e,List.map_map]
   rfl
  have HHO:=Lib.hid hho
  have HLA:=Lib.hid hla
  obtain ⟨bO,oO,hAO,hbO,o0⟩:=hP0.outside.at' hol
  have hgO:x.outside.l[0]=x.outside.l.getD 0 0:=(getD_at _ hol).symm
  rw [hgO] at o0
  generalize x.outside.l.getD 0 0=ov at *
  generalize hHv:x.room.valid.hold 0 x.temp ov=hT at *
  have HFB1:=Lib.hid (HFB.out _ rfl)
  have HHO1:=Lib.hid (HHO.out ov)
  rw [hHv] at HHO1
  have HO0:=Lib.hid o0
  have HBO:=Lib.hid hbO
  have HAO:=Lib.hid hAO
  have j1:(0:Int) < (x.outside.l.length:Int):=by omega
  have HFE:Hid (x.p.bestE=0→0 < x.p.best.charge.length∧0 < x.p.best.heat.length∧x.p.best.start.length=x.loads.length):=fun h => by
   obtain ⟨e1,e2,e3,_⟩:=hfe h
   omega
  generalize x.p.bestE=be at *
  generalize x.p.best=bp at *
  generalize x.p.dec=dd at *
  have HBE:=Lib.hid hbe
  have HD0:=Lib.hid hd0
  have HD1:=Lib.hid hd1
  clear hck0 hbe hd0 hd1 hfe hnn hl4 hc hF hgd hln hho hla hHv hgO o0 hbO hAO hP0
  go_enter Tryz.func10,Tryz.ntmps10
  go_upto_region 1 with fail
  rw [← hWH.out]
  clear hWH
  go_wp2_with (refine wpList_load_problemG (by rfl) _ rfl w.heap.size rfl x hst.out.p ?_)
  refine (HCK.out _ (hP.out.below hst.out.bel)).mono ?_
  rintro e w1 ⟨rfl,hb1⟩
  have HX1:=Lib.hid (hst.out.below hb1)
  clear hb1 hst HCK
  go_upto_region 3 with fail
  go_wp2_with (refine wpList_load_problemG (by rfl) _ rfl w.heap.size rfl x HX1.out.p ?_)
  refine (HBE.out _ (hP.out.below HX1.out.bel)).mono ?_
  rintro e w5 ⟨m1,hm1,rfl,hr1,hf1,hb5⟩
  have HX5:=Lib.hid (HX1.out.below hb5)
  clear hb5 HX1 HBE
  go_wp2_with (refine wpList_store_blk rfl 48 _ _ rfl w5.heap.size rfl m1.cs rfl (by kernel_rfl) (PnM.cs_one _) (Blk.new w5 _ _) rfl ?_)
  intro w6 hB6 hg6
  have hs6:Below w5.heap.size w5 w6:=((Below.refl w5.heap.size w5).alloc (Nat.le_refl _) (.cells #[.slice none 0 0,.slice none 0 0,.slice none 0 0] 48)).grown hg6 (by simp) (fun k e => by injection e with e; omega)
  obtain ⟨t4,ht⟩:∃ t,t=w5.heap.size:=⟨_,rfl⟩
  have HX6:=Lib.hid (HX5.out.below hs6)
  have HY6:=Lib.hid (ly_store hr1 hs6 hB6)
  rw [← ht] at HY6
  have HM1:=Lib.hid hm1
  have HT:=Lib.hid ht
  have HTL:Hid (t4 < w6.heap.size):=by show t4 < _; exact HY6.out.p.lt
  clear hg6 hs6 hB6 hr1 hf1 hm1 ht HX5
  go_upto_region 4 with fail
  rw [← HT.out]
  clear HT
  have k5:=HX6.out.p.cell 5
  have k11:=HX6.out.p.cell 11
  have k12:=HX6.out.p.cell 12
  have k13:=HX6.out.p.cell 13
  have k14:=HX6.out.p.cell 14
  have k15:=HX6.out.p.cell 15
  have k16:=HX6.out.p.cell 16
  have k19:=HX6.out.p.cell 19
  simp [PbM.cs] at k5 k11 k12 k13 k14 k15 k16 k19
  rw [HAO.out] at k5
  have o1:=cell_below HO0.out HX6.out.bel
  simp only [Nat.add_zero] at o1
  go_cut [6] (fun s6 wx => ∃ g:Nat,s6 = .pointer (some ⟨g,0,none⟩)∧Hid (DJ x m1 t4 w wx g 0 hT (.slice none 0 0) []))
  case first =>
   have HOLD:=Lib.hid (LY.old HY6.out)
   refine wp_region_held_drew (S:=(fun w' => w'.cell? ⟨w.heap.size,5,none⟩=some (.slice (some ⟨bO,oO,none⟩) x.outside.l.length x.outside.c)∧w'.cell? ⟨w.heap.size,11,none⟩=some (.int .i64 x.gain)∧w'.cell? ⟨w.heap.size,12,none⟩=some (.int .i64 x.loss)∧w'.cell? ⟨w.heap.size,13,none⟩=some (.int .i64 x.steps)∧w'.cell? ⟨w.heap.size,14,none⟩=some (.int .i64 x.power)∧w'.cell? ⟨w.heap.size,15,none⟩=some (.slice x.low.A x.low.l.length x.low.c)∧w'.cell? ⟨w.heap.size,16,none⟩=some (.slice x.high.A x.high.l.length x.high.c)∧w'.cell? ⟨w.heap.size,19,none⟩=some (.int .i64 x.temp)∧w'.cell? ⟨bO,oO,none⟩=some (.int .i64 ov))) (by kernel_rfl) (⟨k5,k11,k12,k13,k14,k15,k16,k19,o1⟩) (fun hHeld => ?_)
   refine tk 0 ?_
   try simp only [jA,jB,Act.put,jD,jE,jF]
   refine tk 1 ?_
   try simp only [jA,jB,jC,Act.put,jD,jE,jF]
   refine tk 2 ?_
   try simp only [jA,jB,jC,Act.put,jD,jE,jF]
   refine tk 3 ?_
   try simp only [jA,jB,jC,Act.put,jD,jE,jF]
   refine tk 4 ?_
   try simp only [jA,jB,jC,Act.put,jD,jE,jF]
   refine tk 5 ?_
   try simp only [jA,jB,jC,Act.put,jD,jE,jF]
   refine tk 6 ?_
   try simp only [jA,jB,jC,Act.put,jD,jE,jF]
   refine tk 7 ?_
   try simp only [jA,jB,jC,Act.put,jD,jE,jF]
   refine wpAnyH_ready (rs := [8,10]) (by kernel_rfl) (by simp) ?_
   refine (AllReadyH.cons rfl (fun K hK => ?_) (AllReadyH.cons rfl (fun K hK => ?_) AllReadyH.nil))
   ·have HKK:=Lib.hid hK
    clear hK
    go_simp
    refine (HHO1.out _ (hP.out.below ((Below.drew (HX6.out.bel))))).mono ?_
    rintro e' yw1 ⟨rfl,hb1⟩
    have hq1:Below w6.heap.size w6 yw1:=below_tr (Below.drew (Below.refl w6.heap.size w6)) hb1
    have HB_yw1:=Lib.hid ((HX6.out.bel).trans (hq1.mono (Below.size (HX6.out.bel))))
    have HS_yw1:Hid (w6.heap.size ≤ yw1.heap.size):=Nat.le_trans ((Nat.le_refl w6.heap.size)) hq1.size
    have pd_yw1:=Lib.hid (HX6.out.below hq1)
    have ly_yw1:=Lib.hid (HY6.out.below hq1)
    clear hb1
    go_wp2_with fail
    refine HKK.out _ _ (⟨(cell_below k5 hq1),(cell_below k11 hq1),(cell_below k12 hq1),(cell_below k13 hq1),(cell_below k14 hq1),(cell_below k15 hq1),(cell_below k16 hq1),(cell_below k19 hq1),(cell_below o1 hq1)⟩) (fun hH2 => ?_)
    clear HKK K
    replace hHeld:=hH2
    clear hH2
    try simp only [jA,jB,jC,Act.put,jD,jE,jF]
    refine tk 9 ?_
    try simp only [jA,jB,jC,Act.put,jD,jE,jF]
    refine wpAnyH_ready (rs := [10]) (by kernel_rfl) (by simp) ?_
    refine (AllReadyH.cons rfl (fun K hK => ?_) AllReadyH.nil)
    have HKK:=Lib.hid hK
    clear hK
    go_simp
    obtain ⟨yw2,hWn⟩:∃ v,v=yw1.alloc (.cells #[.int .i64 0,.int .i64 0,.slice none 0 0] 42):=⟨_,rfl⟩
    obtain ⟨g,hg⟩:∃ n,n=yw1.heap.size:=⟨_,rfl⟩
    rw [← hWn, ← hg]
    have hb2:Below yw1.heap.size yw1 yw2:=by rw [hWn]; exact (below_al (Below.refl _ _):Below _ _ (yw1.alloc (.cells #[.int .i64 0,.int .i64 0,.slice none 0 0] 42)))
    have hq2:Below yw1.heap.size yw1 yw2:=hb2
    have bk_yw2:Hid (Blk yw2 g 42 #[.int .i64 0,.int .i64 0,.slice none 0 0]):=by show Blk _ _ _ _; rw [hWn,hg]; exact Blk.new yw1 _ _
    have HHg:Hid (g=yw1.heap.size):=by show _=_; exact hg
    have HGg:Hid (w6.heap.size ≤ g):=by show _ ≤ _; rw [hg]; exact HS_yw1.out
    have HB_yw2:=Lib.hid ((HB_yw1.out).trans (hq2.mono (Below.size (HB_yw1.out))))
    have HS_yw2:Hid (w6.heap.size ≤ yw2.heap.size):=Nat.le_trans (HS_yw1.out) hq2.size
    have pd_yw2:=Lib.hid (pd_yw1.out.below hq2)
    have ly_yw2:=Lib.hid (ly_yw1.out.below hq2)
    clear hWn hg hb2
    refine HKK.out _ _ (⟨(cell_below (cell_below k5 hq1) hq2),(cell_below (cell_below k11 hq1) hq2),(cell_below (cell_below k12 hq1) hq2),(cell_below (cell_below k13 hq1) hq2),(cell_below (cell_below k14 hq1) hq2),(cell_below (cell_below k15 hq1) hq2),(cell_below (cell_below k16 hq1) hq2),(cell_below (cell_below k19 hq1) hq2),(cell_below (cell_below o1 hq1) hq2)⟩) (fun hH2 => ?_)
    clear HKK K
    replace hHeld:=hH2
    clear hH2
    try simp only [jA,jB,jC,Act.put,jD,jE,jF]
    refine wpAnyH_ready (rs := [11]) (by kernel_rfl) (by simp) ?_
    refine (AllReadyH.cons rfl (fun K hK => ?_) AllReadyH.nil)
    have z0:=bk_yw2.out.cell 0
    have f0:=bk_yw2.out.frozen 0
    have z1:=bk_yw2.out.cell 1
    have f1:=bk_yw2.out.frozen 1
    have z2:=bk_yw2.out.cell 2
    have f2:=bk_yw2.out.frozen 2
    simp at z0 z1 z2
    have HKK:=Lib.hid hK
    clear hK
    go_simp
    obtain ⟨yw3,hv⟩:∃ v,v=((yw2.setCell ⟨g,0,none⟩ (.int .i64 0)).setCell ⟨g,1,none⟩ (.int .i64 hT)).setCell ⟨g,2,none⟩ (.slice none 0 0):=⟨_,rfl⟩
    rw [← hv]
    have hgv3:yw2.grownBy yw3 (some g):=by rw [hv]; exact only_setCell (p:=⟨g,2,none⟩) (only_setCell (p:=⟨g,1,none⟩) (only_setCell (p:=⟨g,0,none⟩) (grown_id _ _) (.inl rfl) _) (.inl rfl) _) (.inl rfl) _
    have bk_yw3:Hid (Blk yw3 g 42 #[.int .i64 0,.int .i64 hT,.slice none 0 0]):=by show Blk _ _ _ _; rw [hv]; have:=(((bk_yw2.out).set_ 0 (.int .i64 0)).set_ 1 (.int .i64 hT)).set_ 2 (.slice none 0 0); simpa using this
    have HB_yw3:=Lib.hid ((HB_yw2.out).grown hgv3 (Below.size (HB_yw2.out)) (fun k e => by injection e with e; have h2:=HGg.out; have h3:=(HX6.out.bel).size; omega))
    have HS_yw3:Hid (w6.heap.size ≤ yw3.heap.size):=Nat.le_trans (HS_yw2.out) hgv3.size
    have pd_yw3:=Lib.hid (pd_yw2.out.grown hgv3 (fun k e => by injection e with e; have:=HX6.out.lt; have:=HGg.out; omega))
    have ly_yw3:=Lib.hid (LY.grown ly_yw2.out hgv3 HTL.out HGg.out HOLD.out)
    clear hv z0 f0 z1 f1 z2 f2
    refine HKK.out _ _ (⟨(cell_grown hgv3 (cell_below (cell_below k5 hq1) hq2) (by intro e; have e:=Option.some.inj e; have h1:=HGg.out; have h2:=HX6.out.lt; simp at e; omega)),(cell_grown hgv3 (cell_below (cell_below k11 hq1) hq2) (by intro e; have e:=Option.some.inj e; have h1:=HGg.out; have h2:=HX6.out.lt; simp at e; omega)),(cell_grown hgv3 (cell_below (cell_below k12 hq1) hq2) (by intro e; have e:=Option.some.inj e; have h1:=HGg.out; have h2:=HX6.out.lt; simp at e; omega)),(cell_grown hgv3 (cell_below (cell_below k13 hq1) hq2) (by intro e; have e:=Option.some.inj e; have h1:=HGg.out; have h2:=HX6.out.lt; simp at e; omega)),(cell_grown hgv3 (cell_below (cell_below k14 hq1) hq2) (by intro e; have e:=Option.some.inj e; have h1:=HGg.out; have h2:=HX6.out.lt; simp at e; omega)),(cell_grown hgv3 (cell_below (cell_below k15 hq1) hq2) (by intro e; have e:=Option.some.inj e; have h1:=HGg.out; have h2:=HX6.out.lt; simp at e; omega)),(cell_grown hgv3 (cell_below (cell_below k16 hq1) hq2) (by intro e; have e:=Option.some.inj e; have h1:=HGg.out; have h2:=HX6.out.lt; simp at e; omega)),(cell_grown hgv3 (cell_below (cell_below k19 hq1) hq2) (by intro e; have e:=Option.some.inj e; have h1:=HGg.out; have h2:=HX6.out.lt; simp at e; omega)),(cell_grown hgv3 (cell_below (cell_below o1 hq1) hq2) (by intro e; have e:=Option.some.inj e; have h1:=HGg.out; have h2:=HBO.out; have h3:=HX6.out.lt; simp at e; omega))⟩) (fun hH2 => ?_)
    clear HKK K
    replace hHeld:=hH2
    clear hH2
    try simp only [jA,jB,jC,Act.put,jD,jE,jF]
    refine wpAnyH_done (by kernel_rfl) ?_ _
    have HFN:Hid (DJ x m1 t4 w yw3 g 0 hT (.slice none 0 0) []):=⟨DLR.start pd_yw3.out bk_yw3.out (by have:=HX6.out.lt; have:=HGg.out; omega),ly_yw3.out,⟨HOLD.out.c.imp id (fun h ad e => Nat.lt_of_lt_of_le (h ad e) HGg.out),HOLD.out.h.imp id (fun h ad e => Nat.lt_of_lt_of_le (h ad e) HGg.out),HOLD.out.s.imp id (fun h ad e => Nat.lt_of_lt_of_le (h ad e) HGg.out)⟩,Nat.lt_of_lt_of_le HTL.out HGg.out⟩
    clear hHeld
    go_wp2_with fail
    go_meet
    exact ⟨g,rfl,HFN.out⟩
   ·have HKK:=Lib.hid hK
    clear hK
    go_simp
    obtain ⟨yw4,hWn⟩:∃ v,v=(w6.alloc (.cells #[.int .i64 0,.int .i64 0,.slice none 0 0] 42)).drew:=⟨_,rfl⟩
    obtain ⟨g,hg⟩:∃ n,n=w6.heap.size:=⟨_,rfl⟩
    rw [← hWn, ← hg]
    have hb4:Below w6.drew.heap.size w6.drew yw4:=by rw [hWn]; exact (below_al (Below.refl _ _):Below _ _ (w6.drew.alloc (.cells #[.int .i64 0,.int .i64 0,.slice none 0 0] 42)))
    have hq4:Below w6.heap.size w6 yw4:=below_tr (Below.drew (Below.refl w6.heap.size w6)) hb4
    have bk_yw4:Hid (Blk yw4 g 42 #[.int .i64 0,.int .i64 0,.slice none 0 0]):=by show Blk _ _ _ _; rw [hWn,hg]; exact Blk.new w6.drew _ _
    have HHg:Hid (g=w6.heap.size):=by show _=_; exact hg
    have HGg:Hid (w6.heap.size ≤ g):=by show _ ≤ _; rw [hg]; exact (Nat.le_refl w6.heap.size)
    have HB_yw4:=Lib.hid ((HX6.out.bel).trans (hq4.mono (Below.size (HX6.out.bel))))
    have HS_yw4:Hid (w6.heap.size ≤ yw4.heap.size):=Nat.le_trans ((Nat.le_refl w6.heap.size)) hq4.size
    have pd_yw4:=Lib.hid (HX6.out.below hq4)
    have ly_yw4:=Lib.hid (HY6.out.below hq4)
    clear hWn hg hb4
    refine HKK.out _ _ (⟨(cell_below k5 hq4),(cell_below k11 hq4),(cell_below k12 hq4),(cell_below k13 hq4),(cell_below k14 hq4),(cell_below k15 hq4),(cell_below k16 hq4),(cell_below k19 hq4),(cell_below o1 hq4)⟩) (fun hH2 => ?_)
    clear HKK K
    replace hHeld:=hH2
    clear hH2
    try simp only [jA,jB,jC,Act.put,jD,jE,jF]
    refine wpAnyH_ready (rs := [8]) (by kernel_rfl) (by simp) ?_
    refine (AllReadyH.cons rfl (fun K hK => ?_) AllReadyH.nil)
    have HKK:=Lib.hid hK
    clear hK
    go_simp
    refine (HHO1.out _ (hP.out.below (HB_yw4.out))).mono ?_
    rintro e' yw5 ⟨rfl,hb5⟩
    have hq5:Below yw4.heap.size yw4 yw5:=hb5
    have HB_yw5:=Lib.hid ((HB_yw4.out).trans (hq5.mono (Below.size (HB_yw4.out))))
    have HS_yw5:Hid (w6.heap.size ≤ yw5.heap.size):=Nat.le_trans (HS_yw4.out) hq5.size
    have pd_yw5:=Lib.hid (pd_yw4.out.below hq5)
    have ly_yw5:=Lib.hid (ly_yw4.out.below hq5)
    have bk_yw5:=Lib.hid (bk_yw4.out.below hq5 bk_yw4.out.lt)
    clear hb5
    go_wp2_with fail
    refine HKK.out _ _ (⟨(cell_below (cell_below k5 hq4) hq5),(cell_below (cell_below k11 hq4) hq5),(cell_below (cell_below k12 hq4) hq5),(cell_below (cell_below k13 hq4) hq5),(cell_below (cell_below k14 hq4) hq5),(cell_below (cell_below k15 hq4) hq5),(cell_below (cell_below k16 hq4) hq5),(cell_below (cell_below k19 hq4) hq5),(cell_below (cell_below o1 hq4) hq5)⟩) (fun hH2 => ?_)
    clear HKK K
    replace hHeld:=hH2
    clear hH2
    try simp only [jA,jB,jC,Act.put,jD,jE,jF]
    refine tk 9 ?_
    try simp only [jA,jB,jC,Act.put,jD,jE,jF]
    refine wpAnyH_ready (rs := [11]) (by kernel_rfl) (by simp) ?_
    refine (AllReadyH.cons rfl (fun K hK => ?_) AllReadyH.nil)
    have z0:=bk_yw5.out.cell 0
    have f0:=bk_yw5.out.frozen 0
    have z1:=bk_yw5.out.cell 1
    have f1:=bk_yw5.out.frozen 1
    have z2:=bk_yw5.out.cell 2
    have f2:=bk_yw5.out.frozen 2
    simp at z0 z1 z2
    have HKK:=Lib.hid hK
    clear hK
    go_simp
    obtain ⟨yw6,hv⟩:∃ v,v=((yw5.setCell ⟨g,0,none⟩ (.int .i64 0)).setCell ⟨g,1,none⟩ (.int .i64 hT)).setCell ⟨g,2,none⟩ (.slice none 0 0):=⟨_,rfl⟩
    rw [← hv]
    have hgv6:yw5.grownBy yw6 (some g):=by rw [hv]; exact only_setCell (p:=⟨g,2,none⟩) (only_setCell (p:=⟨g,1,none⟩) (only_setCell (p:=⟨g,0,none⟩) (grown_id _ _) (.inl rfl) _) (.inl rfl) _) (.inl rfl) _
    have bk_yw6:Hid (Blk yw6 g 42 #[.int .i64 0,.int .i64 hT,.slice none 0 0]):=by show Blk _ _ _ _; rw [hv]; have:=(((bk_yw5.out).set_ 0 (.int .i64 0)).set_ 1 (.int .i64 hT)).set_ 2 (.slice none 0 0); simpa using this
    have HB_yw6:=Lib.hid ((HB_yw5.out).grown hgv6 (Below.size (HB_yw5.out)) (fun k e => by injection e with e; have h2:=HGg.out; have h3:=(HX6.out.bel).size; omega))
    have HS_yw6:Hid (w6.heap.size ≤ yw6.heap.size):=Nat.le_trans (HS_yw5.out) hgv6.size
    have pd_yw6:=Lib.hid (pd_yw5.out.grown hgv6 (fun k e => by injection e with e; have:=HX6.out.lt; have:=HGg.out; omega))
    have ly_yw6:=Lib.hid (LY.grown ly_yw5.out hgv6 HTL.out HGg.out HOLD.out)
    clear hv z0 f0 z1 f1 z2 f2
    refine HKK.out _ _ (⟨(cell_grown hgv6 (cell_below (cell_below k5 hq4) hq5) (by intro e; have e:=Option.some.inj e; have h1:=HGg.out; have h2:=HX6.out.lt; simp at e; omega)),(cell_grown hgv6 (cell_below (cell_below k11 hq4) hq5) (by intro e; have e:=Option.some.inj e; have h1:=HGg.out; have h2:=HX6.out.lt; simp at e; omega)),(cell_grown hgv6 (cell_below (cell_below k12 hq4) hq5) (by intro e; have e:=Option.some.inj e; have h1:=HGg.out; have h2:=HX6.out.lt; simp at e; omega)),(cell_grown hgv6 (cell_below (cell_below k13 hq4) hq5) (by intro e; have e:=Option.some.inj e; have h1:=HGg.out; have h2:=HX6.out.lt; simp at e; omega)),(cell_grown hgv6 (cell_below (cell_below k14 hq4) hq5) (by intro e; have e:=Option.some.inj e; have h1:=HGg.out; have h2:=HX6.out.lt; simp at e; omega)),(cell_grown hgv6 (cell_below (cell_below k15 hq4) hq5) (by intro e; have e:=Option.some.inj e; have h1:=HGg.out; have h2:=HX6.out.lt; simp at e; omega)),(cell_grown hgv6 (cell_below (cell_below k16 hq4) hq5) (by intro e; have e:=Option.some.inj e; have h1:=HGg.out; have h2:=HX6.out.lt; simp at e; omega)),(cell_grown hgv6 (cell_below (cell_below k19 hq4) hq5) (by intro e; have e:=Option.some.inj e; have h1:=HGg.out; have h2:=HX6.out.lt; simp at e; omega)),(cell_grown hgv6 (cell_below (cell_below o1 hq4) hq5) (by intro e; have e:=Option.some.inj e; have h1:=HGg.out; have h2:=HBO.out; have h3:=HX6.out.lt; simp at e; omega))⟩) (fun hH2 => ?_)
    clear HKK K
    replace hHeld:=hH2
    clear hH2
    try simp only [jA,jB,jC,Act.put,jD,jE,jF]
    refine wpAnyH_done (by kernel_rfl) ?_ _
    have HFN:Hid (DJ x m1 t4 w yw6 g 0 hT (.slice none 0 0) []):=⟨DLR.start pd_yw6.out bk_yw6.out (by have:=HX6.out.lt; have:=HGg.out; omega),ly_yw6.out,⟨HOLD.out.c.imp id (fun h ad e => Nat.lt_of_lt_of_le (h ad e) HGg.out),HOLD.out.h.imp id (fun h ad e => Nat.lt_of_lt_of_le (h ad e) HGg.out),HOLD.out.s.imp id (fun h ad e => Nat.lt_of_lt_of_le (h ad e) HGg.out)⟩,Nat.lt_of_lt_of_le HTL.out HGg.out⟩
    clear hHeld
    go_wp2_with fail
    go_meet
    exact ⟨g,rfl,HFN.out⟩
  case rest =>
   obtain ⟨g,rfl,hD0⟩:=hcut
   clear k5 k11 k12 k13 k14 k15 k16 k19 o1 j1 hol HHO1 HO0 HX6 HY6 HTL HHO
   obtain ⟨i0,hi0,hz00,hz10,hz20⟩:=info_parts Tryz.infoBool
   by_cases h0:be=0
   ·have q0:(be == 0)=true:=by simp [h0]
    subst h0
    obtain ⟨f1,f2,f3⟩:=HFE.out rfl
    rw [← HM1.out] at f1 f2 f3
    have f1:0 < m1.charge.l.length:=f1
    have f2:0 < m1.heat.l.length:=f2
    have f3:m1.start.l.length=x.loads.length:=f3
    have HDD:=Lib.hid (HD0.out rfl)
    obtain ⟨bC,oC,hAC,_,s0⟩:=hD0.out.ly.r.charge.at' f1
    obtain ⟨bH,oH,hAH,_,s1⟩:=hD0.out.ly.r.heat.at' f2
    have hbH:bH ≠ g:=by
     rcases hD0.out.lo.h with h | h
     ·rw [h] at f2; simp at f2
     ·have:=h _ hAH; simp at this; omega
    have hth:t4 ≠ g:=Nat.ne_of_lt hD0.out.tl
    have HCH:Hid (dd=⟨m1.charge.l[0],m1.heat.l[0],m1.start.l.map fun s => decide (s=0)⟩):=by
     show _=_
     rw [HDD.out, ← HM1.out]
     show Dc.mk (m1.charge.l.getD 0 0) (m1.heat.l.getD 0 0) _=_
     rw [getD_at _ f1,getD_at _ f2]
     rfl
    generalize m1.charge.l[0]=cc at *
    generalize m1.heat.l[0]=hh at *
    have d0:=hD0.out.ly.p.cell 0
    have d1:=hD0.out.ly.p.cell 1
    have e0:=hD0.out.dl.blk.cell 0
    have e1:=hD0.out.dl.blk.cell 1
    have f0:=hD0.out.dl.blk.frozen 0
    have f1':=hD0.out.dl.blk.frozen 1
    simp [PnM.cs] at d0 d1
    simp at e0 e1
    simp only [Nat.add_zero] at s0 s1
    rw [hAC] at d0
    rw [hAH] at d1
    have HF3:=Lib.hid f3
    clear HD0 HD1 HFE HDD hAC hAH f3 HLA HFB1 HFB
    go_upto_region 8 with fail
    obtain ⟨w9,hw9⟩:∃ W,W=(wc.setCell ⟨g,0,none⟩ (.int .i64 cc)).setCell ⟨g,1,none⟩ (.int .i64 hh):=⟨_,rfl⟩
    rw [← hw9]
    have hd9:=hD0.out.put cc hh
    rw [← hw9] at hd9
    have HD9:=Lib.hid hd9
    clear hw9 hd9 hD0 d0 d1 e0 e1 f0 f1' s0 s1 hbH hth f1 f2
    go_wp2_with fail
    go_loopw [7] (fun s7 wr => ∃ (k:Nat) (v:Value) (l:List Bool),k ≤ x.loads.length∧s7 = .int .i64 k∧l.length=k∧Hid (l=(m1.start.l.take k).map fun s => decide (s=0))∧Hid (DJ x m1 t4 w wr g cc hh v l))
     (fun s7 _ => x.loads.length - (intOf s7).toNat)
    case atStart => exact ⟨0,_, [],by omega,rfl,rfl,rfl,HD9.out⟩
    case round =>
     clear HD9
     obtain ⟨k,v,l,hk,rfl,hlk,hEQ,hD⟩:=hrel
     obtain ⟨wo,hwo⟩:∃ wo:World,wo=wr:=⟨_,rfl⟩
     subst hwo
     have HLK:=Lib.hid hlk
     have c17:=hD.out.dl.pd.p.cell 17
     simp [PbM.cs] at c17
     by_cases hlt:k < x.loads.length
     ·have hks:k < m1.start.l.length:=by have:=HF3.out; omega
      obtain ⟨bS,oS,hAS,_,s0⟩:=hD.out.ly.r.start.at' hks
      have HTK:=Lib.hid (show ((m1.start.l.take (k+1)).map fun s => decide (s=0))=((m1.start.l.take k).map fun s => decide (s=0)) ++ [decide (m1.start.l[k]=0)] by rw [List.take_succ_eq_append_getElem hks,List.map_append]; rfl)
      have HBS:Hid (bS < g):=by
       show bS < g
       rcases hD.out.lo.s with h | h
       ·rw [h] at hks; simp at hks
       ·have:=h _ hAS; simpa using this
      have i1:(0:Int) ≤ (k:Int):=by omega
      have i2:(k:Int) < (x.loads.length:Int):=by omega
      have i3:(k:Int) < (m1.start.l.length:Int):=by omega
      have p2:=hD.out.ly.p.cell 2
      simp [PnM.cs] at p2
      rw [hAS] at p2
      generalize m1.start.l[k]=sk at *
      have HNV:Hid (∀ q,v.ownBlock=some q→g < q):=fun q e => (hD.out.dl.own.lt q e).1
      have HTG:Hid (t4 < g):=hD.out.tl
      have HBASE:Hid (w.heap.size ≤ g+1):=by show _ ≤ _; have:=hD.out.dl.lt; omega
      have HGS:Hid (g+1 ≤ wo.heap.size):=hD.out.dl.blk.lt
      clear hAS hlk
      go_upto_region 12 with fail
      clear c17
      refine wp_region_held_drew (S:=(fun w' => w'.cell? ⟨t4,2,none⟩=some (.slice (some ⟨bS,oS,none⟩) m1.start.l.length m1.start.c)∧w'.cell? ⟨bS,oS+k,none⟩=some (.int .i64 sk))) (by kernel_rfl) (⟨p2,s0⟩) (fun hHeld => ?_)
      refine tk 0 ?_
      try simp only [jA,jB,Act.put,jD,jE,jF]
      refine tk 2 ?_
      try simp only [jA,jB,jC,Act.put,jD,jE,jF]
      refine tk 3 ?_
      try simp only [jA,jB,jC,Act.put,jD,jE,jF]
      refine tk 4 ?_
      try simp only [jA,jB,jC,Act.put,jD,jE,jF]
      refine tk 5 ?_
      try simp only [jA,jB,jC,Act.put,jD,jE,jF]
      refine tk 6 ?_
      try simp only [jA,jB,jC,Act.put,jD,jE,jF]
      refine tk 7 ?_
      try simp only [jA,jB,jC,Act.put,jD,jE,jF]
      refine wpAnyH_ready (rs := [1,8]) (by kernel_rfl) (by simp) ?_
      refine (AllReadyH.cons rfl (fun K hK => ?_) (AllReadyH.cons rfl (fun K hK => ?_) AllReadyH.nil))
      ·have zc2:=(hD.out.below (Below.drew (Below.refl _ _))).dl.blk.cell 2
       simp at zc2
       have HKK:=Lib.hid hK
       clear hK
       go_simp
       refine HKK.out _ _ (⟨p2,s0⟩) (fun hH2 => ?_)
       clear HKK K
       replace hHeld:=hH2
       clear hH2
       try simp only [jA,jB,jC,Act.put,jD,jE,jF]
       clear zc2
       refine wpAnyH_ready (rs := [8]) (by kernel_rfl) (by simp) ?_
       refine (AllReadyH.cons rfl (fun K hK => ?_) AllReadyH.nil)
       have HKK:=Lib.hid hK
       clear hK
       go_simp
       obtain ⟨yw2,hWn⟩:∃ v,v=(wo.alloc (.cells #[.bool (sk == 0)] 4)).drew:=⟨_,rfl⟩
       obtain ⟨bb,hg⟩:∃ n,n=wo.heap.size:=⟨_,rfl⟩
       rw [← hWn, ← hg]
       have hb2:Below wo.drew.heap.size wo.drew yw2:=by rw [hWn]; exact (below_al (Below.refl _ _):Below _ _ (wo.drew.alloc (.cells #[.bool (sk == 0)] 4)))
       have hq2:Below wo.heap.size wo yw2:=below_tr (Below.drew (Below.refl wo.heap.size wo)) hb2
       have lt_yw2:Hid (RBools yw2 (some ⟨bb,0,none⟩) [sk == 0]):=by show RBools _ _ _; rw [hWn,hg]; exact rbools_lit wo.drew #[.bool (sk == 0)] 4 (l := [sk == 0]) rfl
       have HHbb:Hid (bb=wo.heap.size):=by show _=_; exact hg
       have HGbb:Hid (wo.heap.size ≤ bb):=by show _ ≤ _; rw [hg]; exact (Nat.le_refl wo.heap.size)
       have HB_yw2:=Lib.hid ((hD.out.dl.pd.bel).trans (hq2.mono (Below.size (hD.out.dl.pd.bel))))
       have HS_yw2:Hid (wo.heap.size ≤ yw2.heap.size):=Nat.le_trans ((Nat.le_refl wo.heap.size)) hq2.size
       have dj_yw2:=Lib.hid (hD.out.below hq2)
       clear hWn hg hb2
       refine HKK.out _ _ (⟨(cell_below p2 hq2),(cell_below s0 hq2)⟩) (fun hH2 => ?_)
       clear HKK K
       replace hHeld:=hH2
       clear hH2
       try simp only [jA,jB,jC,Act.put,jD,jE,jF]
       refine wpAnyH_ready (rs := [9]) (by kernel_rfl) (by simp) ?_
       refine (AllReadyH.cons rfl (fun K hK => ?_) AllReadyH.nil)
       have HKK:=Lib.hid hK
       clear hK
       have how3:=dj_yw2.out.dl.own
       refine step_append_any _ (by rfl) _ _ _ (by rfl) (g+1) 4 i0 (.bool false) 1 1 Tryz.underlying37 hi0 hz00 hz10 hz20 rfl (by decide) _ l.length (bools l) (by rfl) how3 yw2.heap.size (some ⟨bb,0,none⟩) 1 1 [.bool (sk == 0)] (by rfl) (show Reads _ _ 1 _ 1 _ from lt_yw2.out) (by intro u hu; simp at hu; subst hu; rfl) (by unfold maxLen; have:=HLK.out; omega) (by have:=HLK.out; omega) (by have h1:=HGS.out; have h3:=HS_yw2.out; omega) ?_
       intro v3 yw3 hob3 hgb3 hvb3
       obtain ⟨A3,c3,rfl⟩:=own_form hob3
       have HB_yw3:=Lib.hid ((HB_yw2.out).grown hgb3 (Below.size (HB_yw2.out)) (fun q hq => by have h1:=(how3.lt q hq).1; have h2:=HBASE.out; omega))
       have HS_yw3:Hid (wo.heap.size ≤ yw3.heap.size):=Nat.le_trans (HS_yw2.out) hgb3.size
       have dja_yw3:=Lib.hid (dj_yw2.out.push (b:=sk == 0) hob3 hgb3)
       have k3_0:=(cell_grown hgb3 (cell_below p2 hq2) (by intro e; have h1:=HNV.out _ e.symm; have h2:=HTG.out; simp at h1; omega))
       have k3_1:=(cell_grown hgb3 (cell_below s0 hq2) (by intro e; have h1:=HNV.out _ e.symm; have h2:=HBS.out; simp at h1; omega))
       refine HKK.out _ _ (⟨k3_0,k3_1⟩) (fun hH2 => ?_)
       clear HKK K
       replace hHeld:=hH2
       clear hH2
       try simp only [jA,jB,jC,Act.put,jD,jE,jF]
       refine tk 10 ?_
       try simp only [jA,jB,jC,Act.put,jD,jE,jF]
       refine wpAnyH_ready (rs := [11]) (by kernel_rfl) (by simp) ?_
       refine (AllReadyH.cons rfl (fun K hK => ?_) AllReadyH.nil)
       have zs:=(dja_yw3.out.dl.blk).cell 2
       have fs:=(dja_yw3.out.dl.blk).frozen 2
       simp at zs
       have HKK:=Lib.hid hK
       clear hK
       go_simp
       obtain ⟨yw4,hv⟩:∃ v,v=yw3.setCell ⟨g,2,none⟩ (.slice A3 (l.length+1) c3):=⟨_,rfl⟩
       rw [← hv]
       have dj_yw4:=Lib.hid (dja_yw3.out.set)
       rw [← hv] at dj_yw4
       have hgv:yw3.grownBy yw4 (some g):=by rw [hv]; exact only_setCell (grown_id _ _) (.inl rfl) _
       clear hv zs fs
       refine HKK.out _ _ (⟨(cell_grown hgv k3_0 (by intro e; have e:=Option.some.inj e; have h2:=HTG.out; simp at e; omega)),(cell_grown hgv k3_1 (by intro e; have e:=Option.some.inj e; have h2:=HBS.out; simp at e; omega))⟩) (fun hH2 => ?_)
       clear HKK K
       replace hHeld:=hH2
       clear hH2
       try simp only [jA,jB,jC,Act.put,jD,jE,jF]
       refine wpAnyH_done (by kernel_rfl) ?_ _
       clear hHeld
       go_wp2_with fail
       go_roundw
       case rel => exact ⟨k+1,_,l ++ [decide (sk=0)],by omega,by go_num,by rw [List.length_append,HLK.out]; rfl,(by show _=_; rw [HTK.out, ← hEQ.out]),dj_yw4.out⟩
       case measure => simp [intOf]; omega
      ·have HKK:=Lib.hid hK
       clear hK
       go_simp
       obtain ⟨yw5,hWn⟩:∃ v,v=(wo.alloc (.cells #[.bool (sk == 0)] 4)).drew:=⟨_,rfl⟩
       obtain ⟨bb,hg⟩:∃ n,n=wo.heap.size:=⟨_,rfl⟩
       rw [← hWn, ← hg]
       have hb5:Below wo.drew.heap.size wo.drew yw5:=by rw [hWn]; exact (below_al (Below.refl _ _):Below _ _ (wo.drew.alloc (.cells #[.bool (sk == 0)] 4)))
       have hq5:Below wo.heap.size wo yw5:=below_tr (Below.drew (Below.refl wo.heap.size wo)) hb5
       have lt_yw5:Hid (RBools yw5 (some ⟨bb,0,none⟩) [sk == 0]):=by show RBools _ _ _; rw [hWn,hg]; exact rbools_lit wo.drew #[.bool (sk == 0)] 4 (l := [sk == 0]) rfl
       have HHbb:Hid (bb=wo.heap.size):=by show _=_; exact hg
       have HGbb:Hid (wo.heap.size ≤ bb):=by show _ ≤ _; rw [hg]; exact (Nat.le_refl wo.heap.size)
       have HB_yw5:=Lib.hid ((hD.out.dl.pd.bel).trans (hq5.mono (Below.size (hD.out.dl.pd.bel))))
       have HS_yw5:Hid (wo.heap.size ≤ yw5.heap.size):=Nat.le_trans ((Nat.le_refl wo.heap.size)) hq5.size
       have dj_yw5:=Lib.hid (hD.out.below hq5)
       clear hWn hg hb5
       refine HKK.out _ _ (⟨(cell_below p2 hq5),(cell_below s0 hq5)⟩) (fun hH2 => ?_)
       clear HKK K
       replace hHeld:=hH2
       clear hH2
       try simp only [jA,jB,jC,Act.put,jD,jE,jF]
       refine wpAnyH_ready (rs := [1]) (by kernel_rfl) (by simp) ?_
       refine (AllReadyH.cons rfl (fun K hK => ?_) AllReadyH.nil)
       have zc2:=dj_yw5.out.dl.blk.cell 2
       simp at zc2
       have HKK:=Lib.hid hK
       clear hK
       go_simp
       refine HKK.out _ _ (⟨(cell_below p2 hq5),(cell_below s0 hq5)⟩) (fun hH2 => ?_)
       clear HKK K
       replace hHeld:=hH2
       clear hH2
       try simp only [jA,jB,jC,Act.put,jD,jE,jF]
       clear zc2
       refine wpAnyH_ready (rs := [9]) (by kernel_rfl) (by simp) ?_
       refine (AllReadyH.cons rfl (fun K hK => ?_) AllReadyH.nil)
       have HKK:=Lib.hid hK
       clear hK
       have how7:=dj_yw5.out.dl.own
       refine step_append_any _ (by rfl) _ _ _ (by rfl) (g+1) 4 i0 (.bool false) 1 1 Tryz.underlying37 hi0 hz00 hz10 hz20 rfl (by decide) _ l.length (bools l) (by rfl) how7 yw5.heap.size (some ⟨bb,0,none⟩) 1 1 [.bool (sk == 0)] (by rfl) (show Reads _ _ 1 _ 1 _ from lt_yw5.out) (by intro u hu; simp at hu; subst hu; rfl) (by unfold maxLen; have:=HLK.out; omega) (by have:=HLK.out; omega) (by have h1:=HGS.out; have h3:=HS_yw5.out; omega) ?_
       intro v7 yw7 hob7 hgb7 hvb7
       obtain ⟨A7,c7,rfl⟩:=own_form hob7
       have HB_yw7:=Lib.hid ((HB_yw5.out).grown hgb7 (Below.size (HB_yw5.out)) (fun q hq => by have h1:=(how7.lt q hq).1; have h2:=HBASE.out; omega))
       have HS_yw7:Hid (wo.heap.size ≤ yw7.heap.size):=Nat.le_trans (HS_yw5.out) hgb7.size
       have dja_yw7:=Lib.hid (dj_yw5.out.push (b:=sk == 0) hob7 hgb7)
       have k7_0:=(cell_grown hgb7 (cell_below p2 hq5) (by intro e; have h1:=HNV.out _ e.symm; have h2:=HTG.out; simp at h1; omega))
       have k7_1:=(cell_grown hgb7 (cell_below s0 hq5) (by intro e; have h1:=HNV.out _ e.symm; have h2:=HBS.out; simp at h1; omega))
       refine HKK.out _ _ (⟨k7_0,k7_1⟩) (fun hH2 => ?_)
       clear HKK K
       replace hHeld:=hH2
       clear hH2
       try simp only [jA,jB,jC,Act.put,jD,jE,jF]
       refine tk 10 ?_
       try simp only [jA,jB,jC,Act.put,jD,jE,jF]
       refine wpAnyH_ready (rs := [11]) (by kernel_rfl) (by simp) ?_
       refine (AllReadyH.cons rfl (fun K hK => ?_) AllReadyH.nil)
       have zs:=(dja_yw7.out.dl.blk).cell 2
       have fs:=(dja_yw7.out.dl.blk).frozen 2
       simp at zs
       have HKK:=Lib.hid hK
       clear hK
       go_simp
       obtain ⟨yw8,hv⟩:∃ v,v=yw7.setCell ⟨g,2,none⟩ (.slice A7 (l.length+1) c7):=⟨_,rfl⟩
       rw [← hv]
       have dj_yw8:=Lib.hid (dja_yw7.out.set)
       rw [← hv] at dj_yw8
       have hgv:yw7.grownBy yw8 (some g):=by rw [hv]; exact only_setCell (grown_id _ _) (.inl rfl) _
       clear hv zs fs
       refine HKK.out _ _ (⟨(cell_grown hgv k7_0 (by intro e; have e:=Option.some.inj e; have h2:=HTG.out; simp at e; omega)),(cell_grown hgv k7_1 (by intro e; have e:=Option.some.inj e; have h2:=HBS.out; simp at e; omega))⟩) (fun hH2 => ?_)
       clear HKK K
       replace hHeld:=hH2
       clear hH2
       try simp only [jA,jB,jC,Act.put,jD,jE,jF]
       refine wpAnyH_done (by kernel_rfl) ?_ _
       clear hHeld
       go_wp2_with fail
       go_roundw
       case rel => exact ⟨k+1,_,l ++ [decide (sk=0)],by omega,by go_num,by rw [List.length_append,HLK.out]; rfl,(by show _=_; rw [HTK.out, ← hEQ.out]),dj_yw8.out⟩
       case measure => simp [intOf]; omega
     ·have hrl:k=x.loads.length:=by omega
      have i2:¬ (k:Int) < (x.loads.length:Int):=by omega
      subst hlk
      obtain ⟨A,c,rfl⟩:=hD.out.dl.form
      have HFE:Hid (dd=⟨cc,hh,l⟩):=by show _=_; rw [HCH.out,hEQ.out,hrl, ← HF3.out,List.take_length]
      go_upto_region 14 with fail
      clear hlt hrl c17 i2
      have c0:=hD.out.dl.blk.cell 0
      have c1:=hD.out.dl.blk.cell 1
      have c2:=hD.out.dl.blk.cell 2
      simp at c0 c1 c2
      go_wp2_with (refine wpList_store_blk rfl 42 _ _ rfl (w.heap.size+1) rfl (DcM.mk cc hh A c l).cs rfl (by kernel_rfl) (DcM.cs_one _) hD.out.dl.pd.q rfl ?_)
      intro w8 hB8 hg8
      have hgl:=hD.out.dl.lt
      have hb8:Below w.heap.size w w8:=hD.out.dl.pd.bel.grown hg8 hD.out.dl.pd.bel.size (fun k e => by injection e with e; omega)
      obtain ⟨r1,r2,r3⟩:=hD.out.dl.dec _ (Below.refl _ _)
      have r4:=r1.other hg8 (fun ad e h => by injection h with h; have:=r3 ad e; omega)
      have HB8:=Lib.hid hB8
      have HBE2:=Lib.hid hb8
      have HR:=Lib.hid r4
      have HC:=Lib.hid r2
      have HFR:Hid (∀ ad,A=some ad→w.heap.size ≤ ad.block):=fun ad e => by have:=r3 ad e; omega
      clear hB8 hg8 hb8 r1 r2 r3 r4 hgl c0 c1 c2
      go_wp2_with fail
      rw [HFE.out]
      exact rdecide_ret (m:=DcM.mk cc hh A c l) HB8.out HR.out HC.out HFR.out HBE2.out rfl rfl
   ·have q0:(be == 0)=false:=by simp [h0]
    have HDD:=Lib.hid (HD1.out h0)
    clear h0 HD0 HD1 HFE
    go_upto_region 8 with fail
    go_wp2_with fail
    go_loopw [7] (fun s7 wr => ∃ (k:Nat) (v:Value) (l:List Bool),k ≤ x.loads.length∧s7 = .int .i64 k∧l.length=k∧Hid (l=(x.loads.take k).map fun l => decide (l.r.last=0))∧Hid (DJ x m1 t4 w wr g 0 hT v l))
     (fun s7 _ => x.loads.length - (intOf s7).toNat)
    case atStart => exact ⟨0,_, [],by omega,rfl,rfl,rfl,hD0.out⟩
    case round =>
     clear hD0
     obtain ⟨k,v,l,hk,rfl,hlk,hEQ,hD⟩:=hrel
     obtain ⟨wo,hwo⟩:∃ wo:World,wo=wr:=⟨_,rfl⟩
     subst hwo
     have HLK:=Lib.hid hlk
     have c17:=hD.out.dl.pd.p.cell 17
     simp [PbM.cs] at c17
     by_cases hlt:k < x.loads.length
     ·obtain ⟨bL,oL,hAe,hbL,y0,y1,y2,y3⟩:=hP.out.loads.at' hlt
      have z0:=cell_below y0 hD.out.dl.pd.bel
      have z1:=cell_below y1 hD.out.dl.pd.bel
      have z2:=cell_below y2 hD.out.dl.pd.bel
      have z3:=cell_below y3 hD.out.dl.pd.bel
      have HBL:Hid (bL < g):=by show bL < g; have:=hD.out.dl.lt; omega
      have HWG:Hid (w.heap.size < g):=by show _ < g; have:=hD.out.dl.lt; omega
      have HTK:=Lib.hid (show ((x.loads.take (k+1)).map fun l => decide (l.r.last=0))=((x.loads.take k).map fun l => decide (l.r.last=0)) ++ [decide (x.loads[k].r.last=0)] by rw [List.take_succ_eq_append_getElem hlt,List.map_append]; rfl)
      have i1:(0:Int) ≤ (k:Int):=by omega
      have i2:(k:Int) < (x.loads.length:Int):=by omega
      generalize x.loads[k]=X at *
      have HLX:=Lib.hid (HLA.out X.r X.A X.c)
      generalize X.r.last=la at *
      rw [hAe] at c17
      have HNV:Hid (∀ q,v.ownBlock=some q→g < q):=fun q e => (hD.out.dl.own.lt q e).1
      have HBASE:Hid (w.heap.size ≤ g+1):=by show _ ≤ _; have:=hD.out.dl.lt; omega
      have HGS:Hid (g+1 ≤ wo.heap.size):=hD.out.dl.blk.lt
      clear hAe hlk hbL y0 y1 y2 y3
      go_upto_region 13 with fail
      refine wp_region_held_drew (S:=(fun w' => w'.cell? ⟨w.heap.size,17,none⟩=some (.slice (some ⟨bL,oL,none⟩) x.loads.length x.lc)∧w'.cell? ⟨bL,oL+k * 4,none⟩=some (.string X.r.name)∧w'.cell? ⟨bL,oL+k * 4+1,none⟩=some (.slice X.A X.r.prof.length X.c)∧w'.cell? ⟨bL,oL+k * 4+2,none⟩=some (.int .i64 X.r.early)∧w'.cell? ⟨bL,oL+k * 4+3,none⟩=some (.int .i64 X.r.late))) (by kernel_rfl) (⟨c17,z0,z1,z2,z3⟩) (fun hHeld => ?_)
      refine tk 0 ?_
      try simp only [jA,jB,Act.put,jD,jE,jF]
      refine tk 2 ?_
      try simp only [jA,jB,jC,Act.put,jD,jE,jF]
      refine tk 3 ?_
      try simp only [jA,jB,jC,Act.put,jD,jE,jF]
      refine tk 4 ?_
      try simp only [jA,jB,jC,Act.put,jD,jE,jF]
      refine tk 5 ?_
      try simp only [jA,jB,jC,Act.put,jD,jE,jF]
      refine tk 6 ?_
      try simp only [jA,jB,jC,Act.put,jD,jE,jF]
      refine wpAnyH_ready (rs := [1,7]) (by kernel_rfl) (by simp) ?_
      refine (AllReadyH.cons rfl (fun K hK => ?_) (AllReadyH.cons rfl (fun K hK => ?_) AllReadyH.nil))
      ·have zc2:=(hD.out.below (Below.drew (Below.refl _ _))).dl.blk.cell 2
       simp at zc2
       have HKK:=Lib.hid hK
       clear hK
       go_simp
       refine HKK.out _ _ (⟨c17,z0,z1,z2,z3⟩) (fun hH2 => ?_)
       clear HKK K
       replace hHeld:=hH2
       clear hH2
       try simp only [jA,jB,jC,Act.put,jD,jE,jF]
       clear zc2
       refine wpAnyH_ready (rs := [7]) (by kernel_rfl) (by simp) ?_
       refine (AllReadyH.cons rfl (fun K hK => ?_) AllReadyH.nil)
       have HKK:=Lib.hid hK
       clear hK
       go_simp
       refine (HLX.out _).mono ?_
       rintro e' yw2 ⟨rfl,hb2⟩
       have hq2:Below wo.heap.size wo yw2:=below_tr (Below.drew (Below.refl wo.heap.size wo)) hb2
       have HB_yw2:=Lib.hid ((hD.out.dl.pd.bel).trans (hq2.mono (Below.size (hD.out.dl.pd.bel))))
       have HS_yw2:Hid (wo.heap.size ≤ yw2.heap.size):=Nat.le_trans ((Nat.le_refl wo.heap.size)) hq2.size
       have dj_yw2:=Lib.hid (hD.out.below hq2)
       clear hb2
       go_wp2_with fail
       refine HKK.out _ _ (⟨(cell_below c17 hq2),(cell_below z0 hq2),(cell_below z1 hq2),(cell_below z2 hq2),(cell_below z3 hq2)⟩) (fun hH2 => ?_)
       clear HKK K
       replace hHeld:=hH2
       clear hH2
       try simp only [jA,jB,jC,Act.put,jD,jE,jF]
       refine tk 8 ?_
       try simp only [jA,jB,jC,Act.put,jD,jE,jF]
       refine wpAnyH_ready (rs := [9]) (by kernel_rfl) (by simp) ?_
       refine (AllReadyH.cons rfl (fun K hK => ?_) AllReadyH.nil)
       have HKK:=Lib.hid hK
       clear hK
       go_simp
       obtain ⟨yw3,hWn⟩:∃ v,v=yw2.alloc (.cells #[.bool (la == 0)] 4):=⟨_,rfl⟩
       obtain ⟨bb,hg⟩:∃ n,n=yw2.heap.size:=⟨_,rfl⟩
       rw [← hWn, ← hg]
       have hb3:Below yw2.heap.size yw2 yw3:=by rw [hWn]; exact (below_al (Below.refl _ _):Below _ _ (yw2.alloc (.cells #[.bool (la == 0)] 4)))
       have hq3:Below yw2.heap.size yw2 yw3:=hb3
       have lt_yw3:Hid (RBools yw3 (some ⟨bb,0,none⟩) [la == 0]):=by show RBools _ _ _; rw [hWn,hg]; exact rbools_lit yw2 #[.bool (la == 0)] 4 (l := [la == 0]) rfl
       have HHbb:Hid (bb=yw2.heap.size):=by show _=_; exact hg
       have HGbb:Hid (wo.heap.size ≤ bb):=by show _ ≤ _; rw [hg]; exact HS_yw2.out
       have HB_yw3:=Lib.hid ((HB_yw2.out).trans (hq3.mono (Below.size (HB_yw2.out))))
       have HS_yw3:Hid (wo.heap.size ≤ yw3.heap.size):=Nat.le_trans (HS_yw2.out) hq3.size
       have dj_yw3:=Lib.hid (dj_yw2.out.below hq3)
       clear hWn hg hb3
       refine HKK.out _ _ (⟨(cell_below (cell_below c17 hq2) hq3),(cell_below (cell_below z0 hq2) hq3),(cell_below (cell_below z1 hq2) hq3),(cell_below (cell_below z2 hq2) hq3),(cell_below (cell_below z3 hq2) hq3)⟩) (fun hH2 => ?_)
       clear HKK K
       replace hHeld:=hH2
       clear hH2
       try simp only [jA,jB,jC,Act.put,jD,jE,jF]
       refine wpAnyH_ready (rs := [10]) (by kernel_rfl) (by simp) ?_
       refine (AllReadyH.cons rfl (fun K hK => ?_) AllReadyH.nil)
       have HKK:=Lib.hid hK
       clear hK
       have how4:=dj_yw3.out.dl.own
       refine step_append_any _ (by rfl) _ _ _ (by rfl) (g+1) 4 i0 (.bool false) 1 1 Tryz.underlying37 hi0 hz00 hz10 hz20 rfl (by decide) _ l.length (bools l) (by rfl) how4 yw3.heap.size (some ⟨bb,0,none⟩) 1 1 [.bool (la == 0)] (by rfl) (show Reads _ _ 1 _ 1 _ from lt_yw3.out) (by intro u hu; simp at hu; subst hu; rfl) (by unfold maxLen; have:=HLK.out; omega) (by have:=HLK.out; omega) (by have h1:=HGS.out; have h3:=HS_yw3.out; omega) ?_
       intro v4 yw4 hob4 hgb4 hvb4
       obtain ⟨A4,c4,rfl⟩:=own_form hob4
       have HB_yw4:=Lib.hid ((HB_yw3.out).grown hgb4 (Below.size (HB_yw3.out)) (fun q hq => by have h1:=(how4.lt q hq).1; have h2:=HBASE.out; omega))
       have HS_yw4:Hid (wo.heap.size ≤ yw4.heap.size):=Nat.le_trans (HS_yw3.out) hgb4.size
       have dja_yw4:=Lib.hid (dj_yw3.out.push (b:=la == 0) hob4 hgb4)
       have k4_0:=(cell_grown hgb4 (cell_below (cell_below c17 hq2) hq3) (by intro e; have h1:=HNV.out _ e.symm; have h2:=HWG.out; simp at h1; omega))
       have k4_1:=(cell_grown hgb4 (cell_below (cell_below z0 hq2) hq3) (by intro e; have h1:=HNV.out _ e.symm; have h2:=HBL.out; simp at h1; omega))
       have k4_2:=(cell_grown hgb4 (cell_below (cell_below z1 hq2) hq3) (by intro e; have h1:=HNV.out _ e.symm; have h2:=HBL.out; simp at h1; omega))
       have k4_3:=(cell_grown hgb4 (cell_below (cell_below z2 hq2) hq3) (by intro e; have h1:=HNV.out _ e.symm; have h2:=HBL.out; simp at h1; omega))
       have k4_4:=(cell_grown hgb4 (cell_below (cell_below z3 hq2) hq3) (by intro e; have h1:=HNV.out _ e.symm; have h2:=HBL.out; simp at h1; omega))
       refine HKK.out _ _ (⟨k4_0,k4_1,k4_2,k4_3,k4_4⟩) (fun hH2 => ?_)
       clear HKK K
       replace hHeld:=hH2
       clear hH2
       try simp only [jA,jB,jC,Act.put,jD,jE,jF]
       refine tk 11 ?_
       try simp only [jA,jB,jC,Act.put,jD,jE,jF]
       refine wpAnyH_ready (rs := [12]) (by kernel_rfl) (by simp) ?_
       refine (AllReadyH.cons rfl (fun K hK => ?_) AllReadyH.nil)
       have zs:=(dja_yw4.out.dl.blk).cell 2
       have fs:=(dja_yw4.out.dl.blk).frozen 2
       simp at zs
       have HKK:=Lib.hid hK
       clear hK
       go_simp
       obtain ⟨yw5,hv⟩:∃ v,v=yw4.setCell ⟨g,2,none⟩ (.slice A4 (l.length+1) c4):=⟨_,rfl⟩
       rw [← hv]
       have dj_yw5:=Lib.hid (dja_yw4.out.set)
       rw [← hv] at dj_yw5
       have hgv:yw4.grownBy yw5 (some g):=by rw [hv]; exact only_setCell (grown_id _ _) (.inl rfl) _
       clear hv zs fs
       refine HKK.out _ _ (⟨(cell_grown hgv k4_0 (by intro e; have e:=Option.some.inj e; have h2:=HWG.out; simp at e; omega)),(cell_grown hgv k4_1 (by intro e; have e:=Option.some.inj e; have h2:=HBL.out; simp at e; omega)),(cell_grown hgv k4_2 (by intro e; have e:=Option.some.inj e; have h2:=HBL.out; simp at e; omega)),(cell_grown hgv k4_3 (by intro e; have e:=Option.some.inj e; have h2:=HBL.out; simp at e; omega)),(cell_grown hgv k4_4 (by intro e; have e:=Option.some.inj e; have h2:=HBL.out; simp at e; omega))⟩) (fun hH2 => ?_)
       clear HKK K
       replace hHeld:=hH2
       clear hH2
       try simp only [jA,jB,jC,Act.put,jD,jE,jF]
       refine wpAnyH_done (by kernel_rfl) ?_ _
       clear hHeld
       go_wp2_with fail
       go_roundw
       case rel => exact ⟨k+1,_,l ++ [decide (la=0)],by omega,by go_num,by rw [List.length_append,HLK.out]; rfl,(by show _=_; rw [HTK.out, ← hEQ.out]),dj_yw5.out⟩
       case measure => simp [intOf]; omega
      ·have HKK:=Lib.hid hK
       clear hK
       go_simp
       refine (HLX.out _).mono ?_
       rintro e' yw6 ⟨rfl,hb6⟩
       have hq6:Below wo.heap.size wo yw6:=below_tr (Below.drew (Below.refl wo.heap.size wo)) hb6
       have HB_yw6:=Lib.hid ((hD.out.dl.pd.bel).trans (hq6.mono (Below.size (hD.out.dl.pd.bel))))
       have HS_yw6:Hid (wo.heap.size ≤ yw6.heap.size):=Nat.le_trans ((Nat.le_refl wo.heap.size)) hq6.size
       have dj_yw6:=Lib.hid (hD.out.below hq6)
       clear hb6
       go_wp2_with fail
       refine HKK.out _ _ (⟨(cell_below c17 hq6),(cell_below z0 hq6),(cell_below z1 hq6),(cell_below z2 hq6),(cell_below z3 hq6)⟩) (fun hH2 => ?_)
       clear HKK K
       replace hHeld:=hH2
       clear hH2
       try simp only [jA,jB,jC,Act.put,jD,jE,jF]
       refine tk 8 ?_
       try simp only [jA,jB,jC,Act.put,jD,jE,jF]
       refine wpAnyH_ready (rs := [1,9]) (by kernel_rfl) (by simp) ?_
       refine (AllReadyH.cons rfl (fun K hK => ?_) (AllReadyH.cons rfl (fun K hK => ?_) AllReadyH.nil))
       ·have zc2:=dj_yw6.out.dl.blk.cell 2
        simp at zc2
        have HKK:=Lib.hid hK
        clear hK
        go_simp
        refine HKK.out _ _ (⟨(cell_below c17 hq6),(cell_below z0 hq6),(cell_below z1 hq6),(cell_below z2 hq6),(cell_below z3 hq6)⟩) (fun hH2 => ?_)
        clear HKK K
        replace hHeld:=hH2
        clear hH2
        try simp only [jA,jB,jC,Act.put,jD,jE,jF]
        clear zc2
        refine wpAnyH_ready (rs := [9]) (by kernel_rfl) (by simp) ?_
        refine (AllReadyH.cons rfl (fun K hK => ?_) AllReadyH.nil)
        have HKK:=Lib.hid hK
        clear hK
        go_simp
        obtain ⟨yw8,hWn⟩:∃ v,v=yw6.alloc (.cells #[.bool (la == 0)] 4):=⟨_,rfl⟩
        obtain ⟨bb,hg⟩:∃ n,n=yw6.heap.size:=⟨_,rfl⟩
        rw [← hWn, ← hg]
        have hb8:Below yw6.heap.size yw6 yw8:=by rw [hWn]; exact (below_al (Below.refl _ _):Below _ _ (yw6.alloc (.cells #[.bool (la == 0)] 4)))
        have hq8:Below yw6.heap.size yw6 yw8:=hb8
        have lt_yw8:Hid (RBools yw8 (some ⟨bb,0,none⟩) [la == 0]):=by show RBools _ _ _; rw [hWn,hg]; exact rbools_lit yw6 #[.bool (la == 0)] 4 (l := [la == 0]) rfl
        have HHbb:Hid (bb=yw6.heap.size):=by show _=_; exact hg
        have HGbb:Hid (wo.heap.size ≤ bb):=by show _ ≤ _; rw [hg]; exact HS_yw6.out
        have HB_yw8:=Lib.hid ((HB_yw6.out).trans (hq8.mono (Below.size (HB_yw6.out))))
        have HS_yw8:Hid (wo.heap.size ≤ yw8.heap.size):=Nat.le_trans (HS_yw6.out) hq8.size
        have dj_yw8:=Lib.hid (dj_yw6.out.below hq8)
        clear hWn hg hb8
        refine HKK.out _ _ (⟨(cell_below (cell_below c17 hq6) hq8),(cell_below (cell_below z0 hq6) hq8),(cell_below (cell_below z1 hq6) hq8),(cell_below (cell_below z2 hq6) hq8),(cell_below (cell_below z3 hq6) hq8)⟩) (fun hH2 => ?_)
        clear HKK K
        replace hHeld:=hH2
        clear hH2
        try simp only [jA,jB,jC,Act.put,jD,jE,jF]
        refine wpAnyH_ready (rs := [10]) (by kernel_rfl) (by simp) ?_
        refine (AllReadyH.cons rfl (fun K hK => ?_) AllReadyH.nil)
        have HKK:=Lib.hid hK
        clear hK
        have how9:=dj_yw8.out.dl.own
        refine step_append_any _ (by rfl) _ _ _ (by rfl) (g+1) 4 i0 (.bool false) 1 1 Tryz.underlying37 hi0 hz00 hz10 hz20 rfl (by decide) _ l.length (bools l) (by rfl) how9 yw8.heap.size (some ⟨bb,0,none⟩) 1 1 [.bool (la == 0)] (by rfl) (show Reads _ _ 1 _ 1 _ from lt_yw8.out) (by intro u hu; simp at hu; subst hu; rfl) (by unfold maxLen; have:=HLK.out; omega) (by have:=HLK.out; omega) (by have h1:=HGS.out; have h3:=HS_yw8.out; omega) ?_
        intro v9 yw9 hob9 hgb9 hvb9
        obtain ⟨A9,c9,rfl⟩:=own_form hob9
        have HB_yw9:=Lib.hid ((HB_yw8.out).grown hgb9 (Below.size (HB_yw8.out)) (fun q hq => by have h1:=(how9.lt q hq).1; have h2:=HBASE.out; omega))
        have HS_yw9:Hid (wo.heap.size ≤ yw9.heap.size):=Nat.le_trans (HS_yw8.out) hgb9.size
        have dja_yw9:=Lib.hid (dj_yw8.out.push (b:=la == 0) hob9 hgb9)
        have k9_0:=(cell_grown hgb9 (cell_below (cell_below c17 hq6) hq8) (by intro e; have h1:=HNV.out _ e.symm; have h2:=HWG.out; simp at h1; omega))
        have k9_1:=(cell_grown hgb9 (cell_below (cell_below z0 hq6) hq8) (by intro e; have h1:=HNV.out _ e.symm; have h2:=HBL.out; simp at h1; omega))
        have k9_2:=(cell_grown hgb9 (cell_below (cell_below z1 hq6) hq8) (by intro e; have h1:=HNV.out _ e.symm; have h2:=HBL.out; simp at h1; omega))
        have k9_3:=(cell_grown hgb9 (cell_below (cell_below z2 hq6) hq8) (by intro e; have h1:=HNV.out _ e.symm; have h2:=HBL.out; simp at h1; omega))
        have k9_4:=(cell_grown hgb9 (cell_below (cell_below z3 hq6) hq8) (by intro e; have h1:=HNV.out _ e.symm; have h2:=HBL.out; simp at h1; omega))
        refine HKK.out _ _ (⟨k9_0,k9_1,k9_2,k9_3,k9_4⟩) (fun hH2 => ?_)
        clear HKK K
        replace hHeld:=hH2
        clear hH2
        try simp only [jA,jB,jC,Act.put,jD,jE,jF]
        refine tk 11 ?_
        try simp only [jA,jB,jC,Act.put,jD,jE,jF]
        refine wpAnyH_ready (rs := [12]) (by kernel_rfl) (by simp) ?_
        refine (AllReadyH.cons rfl (fun K hK => ?_) AllReadyH.nil)
        have zs:=(dja_yw9.out.dl.blk).cell 2
        have fs:=(dja_yw9.out.dl.blk).frozen 2
        simp at zs
        have HKK:=Lib.hid hK
        clear hK
        go_simp
        obtain ⟨yw10,hv⟩:∃ v,v=yw9.setCell ⟨g,2,none⟩ (.slice A9 (l.length+1) c9):=⟨_,rfl⟩
        rw [← hv]
        have dj_yw10:=Lib.hid (dja_yw9.out.set)
        rw [← hv] at dj_yw10
        have hgv:yw9.grownBy yw10 (some g):=by rw [hv]; exact only_setCell (grown_id _ _) (.inl rfl) _
        clear hv zs fs
        refine HKK.out _ _ (⟨(cell_grown hgv k9_0 (by intro e; have e:=Option.some.inj e; have h2:=HWG.out; simp at e; omega)),(cell_grown hgv k9_1 (by intro e; have e:=Option.some.inj e; have h2:=HBL.out; simp at e; omega)),(cell_grown hgv k9_2 (by intro e; have e:=Option.some.inj e; have h2:=HBL.out; simp at e; omega)),(cell_grown hgv k9_3 (by intro e; have e:=Option.some.inj e; have h2:=HBL.out; simp at e; omega)),(cell_grown hgv k9_4 (by intro e; have e:=Option.some.inj e; have h2:=HBL.out; simp at e; omega))⟩) (fun hH2 => ?_)
        clear HKK K
        replace hHeld:=hH2
        clear hH2
        try simp only [jA,jB,jC,Act.put,jD,jE,jF]
        refine wpAnyH_done (by kernel_rfl) ?_ _
        clear hHeld
        go_wp2_with fail
        go_roundw
        case rel => exact ⟨k+1,_,l ++ [decide (la=0)],by omega,by go_num,by rw [List.length_append,HLK.out]; rfl,(by show _=_; rw [HTK.out, ← hEQ.out]),dj_yw10.out⟩
        case measure => simp [intOf]; omega
       ·have HKK:=Lib.hid hK
        clear hK
        go_simp
        obtain ⟨yw11,hWn⟩:∃ v,v=yw6.alloc (.cells #[.bool (la == 0)] 4):=⟨_,rfl⟩
        obtain ⟨bb,hg⟩:∃ n,n=yw6.heap.size:=⟨_,rfl⟩
        rw [← hWn, ← hg]
        have hb11:Below yw6.heap.size yw6 yw11:=by rw [hWn]; exact (below_al (Below.refl _ _):Below _ _ (yw6.alloc (.cells #[.bool (la == 0)] 4)))
        have hq11:Below yw6.heap.size yw6 yw11:=hb11
        have lt_yw11:Hid (RBools yw11 (some ⟨bb,0,none⟩) [la == 0]):=by show RBools _ _ _; rw [hWn,hg]; exact rbools_lit yw6 #[.bool (la == 0)] 4 (l := [la == 0]) rfl
        have HHbb:Hid (bb=yw6.heap.size):=by show _=_; exact hg
        have HGbb:Hid (wo.heap.size ≤ bb):=by show _ ≤ _; rw [hg]; exact HS_yw6.out
        have HB_yw11:=Lib.hid ((HB_yw6.out).trans (hq11.mono (Below.size (HB_yw6.out))))
        have HS_yw11:Hid (wo.heap.size ≤ yw11.heap.size):=Nat.le_trans (HS_yw6.out) hq11.size
        have dj_yw11:=Lib.hid (dj_yw6.out.below hq11)
        clear hWn hg hb11
        refine HKK.out _ _ (⟨(cell_below (cell_below c17 hq6) hq11),(cell_below (cell_below z0 hq6) hq11),(cell_below (cell_below z1 hq6) hq11),(cell_below (cell_below z2 hq6) hq11),(cell_below (cell_below z3 hq6) hq11)⟩) (fun hH2 => ?_)
        clear HKK K
        replace hHeld:=hH2
        clear hH2
        try simp only [jA,jB,jC,Act.put,jD,jE,jF]
        refine wpAnyH_ready (rs := [1]) (by kernel_rfl) (by simp) ?_
        refine (AllReadyH.cons rfl (fun K hK => ?_) AllReadyH.nil)
        have zc2:=dj_yw11.out.dl.blk.cell 2
        simp at zc2
        have HKK:=Lib.hid hK
        clear hK
        go_simp
        refine HKK.out _ _ (⟨(cell_below (cell_below c17 hq6) hq11),(cell_below (cell_below z0 hq6) hq11),(cell_below (cell_below z1 hq6) hq11),(cell_below (cell_below z2 hq6) hq11),(cell_below (cell_below z3 hq6) hq11)⟩) (fun hH2 => ?_)
        clear HKK K
        replace hHeld:=hH2
        clear hH2
        try simp only [jA,jB,jC,Act.put,jD,jE,jF]
        clear zc2
        refine wpAnyH_ready (rs := [10]) (by kernel_rfl) (by simp) ?_
        refine (AllReadyH.cons rfl (fun K hK => ?_) AllReadyH.nil)
        have HKK:=Lib.hid hK
        clear hK
        have how13:=dj_yw11.out.dl.own
        refine step_append_any _ (by rfl) _ _ _ (by rfl) (g+1) 4 i0 (.bool false) 1 1 Tryz.underlying37 hi0 hz00 hz10 hz20 rfl (by decide) _ l.length (bools l) (by rfl) how13 yw11.heap.size (some ⟨bb,0,none⟩) 1 1 [.bool (la == 0)] (by rfl) (show Reads _ _ 1 _ 1 _ from lt_yw11.out) (by intro u hu; simp at hu; subst hu; rfl) (by unfold maxLen; have:=HLK.out; omega) (by have:=HLK.out; omega) (by have h1:=HGS.out; have h3:=HS_yw11.out; omega) ?_
        intro v13 yw13 hob13 hgb13 hvb13
        obtain ⟨A13,c13,rfl⟩:=own_form hob13
        have HB_yw13:=Lib.hid ((HB_yw11.out).grown hgb13 (Below.size (HB_yw11.out)) (fun q hq => by have h1:=(how13.lt q hq).1; have h2:=HBASE.out; omega))
        have HS_yw13:Hid (wo.heap.size ≤ yw13.heap.size):=Nat.le_trans (HS_yw11.out) hgb13.size
        have dja_yw13:=Lib.hid (dj_yw11.out.push (b:=la == 0) hob13 hgb13)
        have k13_0:=(cell_grown hgb13 (cell_below (cell_below c17 hq6) hq11) (by intro e; have h1:=HNV.out _ e.symm; have h2:=HWG.out; simp at h1; omega))
        have k13_1:=(cell_grown hgb13 (cell_below (cell_below z0 hq6) hq11) (by intro e; have h1:=HNV.out _ e.symm; have h2:=HBL.out; simp at h1; omega))
        have k13_2:=(cell_grown hgb13 (cell_below (cell_below z1 hq6) hq11) (by intro e; have h1:=HNV.out _ e.symm; have h2:=HBL.out; simp at h1; omega))
        have k13_3:=(cell_grown hgb13 (cell_below (cell_below z2 hq6) hq11) (by intro e; have h1:=HNV.out _ e.symm; have h2:=HBL.out; simp at h1; omega))
        have k13_4:=(cell_grown hgb13 (cell_below (cell_below z3 hq6) hq11) (by intro e; have h1:=HNV.out _ e.symm; have h2:=HBL.out; simp at h1; omega))
        refine HKK.out _ _ (⟨k13_0,k13_1,k13_2,k13_3,k13_4⟩) (fun hH2 => ?_)
        clear HKK K
        replace hHeld:=hH2
        clear hH2
        try simp only [jA,jB,jC,Act.put,jD,jE,jF]
        refine tk 11 ?_
        try simp only [jA,jB,jC,Act.put,jD,jE,jF]
        refine wpAnyH_ready (rs := [12]) (by kernel_rfl) (by simp) ?_
        refine (AllReadyH.cons rfl (fun K hK => ?_) AllReadyH.nil)
        have zs:=(dja_yw13.out.dl.blk).cell 2
        have fs:=(dja_yw13.out.dl.blk).frozen 2
        simp at zs
        have HKK:=Lib.hid hK
        clear hK
        go_simp
        obtain ⟨yw14,hv⟩:∃ v,v=yw13.setCell ⟨g,2,none⟩ (.slice A13 (l.length+1) c13):=⟨_,rfl⟩
        rw [← hv]
        have dj_yw14:=Lib.hid (dja_yw13.out.set)
        rw [← hv] at dj_yw14
        have hgv:yw13.grownBy yw14 (some g):=by rw [hv]; exact only_setCell (grown_id _ _) (.inl rfl) _
        clear hv zs fs
        refine HKK.out _ _ (⟨(cell_grown hgv k13_0 (by intro e; have e:=Option.some.inj e; have h2:=HWG.out; simp at e; omega)),(cell_grown hgv k13_1 (by intro e; have e:=Option.some.inj e; have h2:=HBL.out; simp at e; omega)),(cell_grown hgv k13_2 (by intro e; have e:=Option.some.inj e; have h2:=HBL.out; simp at e; omega)),(cell_grown hgv k13_3 (by intro e; have e:=Option.some.inj e; have h2:=HBL.out; simp at e; omega)),(cell_grown hgv k13_4 (by intro e; have e:=Option.some.inj e; have h2:=HBL.out; simp at e; omega))⟩) (fun hH2 => ?_)
        clear HKK K
        replace hHeld:=hH2
        clear hH2
        try simp only [jA,jB,jC,Act.put,jD,jE,jF]
        refine wpAnyH_done (by kernel_rfl) ?_ _
        clear hHeld
        go_wp2_with fail
        go_roundw
        case rel => exact ⟨k+1,_,l ++ [decide (la=0)],by omega,by go_num,by rw [List.length_append,HLK.out]; rfl,(by show _=_; rw [HTK.out, ← hEQ.out]),dj_yw14.out⟩
        case measure => simp [intOf]; omega
     ·have hrl:k=x.loads.length:=by omega
      have i2:¬ (k:Int) < (x.loads.length:Int):=by omega
      subst hlk
      obtain ⟨A,c,rfl⟩:=hD.out.dl.form
      have HFE:Hid (dd=⟨0,hT,l⟩):=by show _=_; rw [HDD.out,HFB1.out,hEQ.out,hrl,List.take_length]
      go_upto_region 14 with fail
      clear hlt hrl c17 i2 q0
      have c0:=hD.out.dl.blk.cell 0
      have c1:=hD.out.dl.blk.cell 1
      have c2:=hD.out.dl.blk.cell 2
      simp at c0 c1 c2
      go_wp2_with (refine wpList_store_blk rfl 42 _ _ rfl (w.heap.size+1) rfl (DcM.mk 0 hT A c l).cs rfl (by kernel_rfl) (DcM.cs_one _) hD.out.dl.pd.q rfl ?_)
      intro w8 hB8 hg8
      have hgl:=hD.out.dl.lt
      have hb8:Below w.heap.size w w8:=hD.out.dl.pd.bel.grown hg8 hD.out.dl.pd.bel.size (fun k e => by injection e with e; omega)
      obtain ⟨r1,r2,r3⟩:=hD.out.dl.dec _ (Below.refl _ _)
      have r4:=r1.other hg8 (fun ad e h => by injection h with h; have:=r3 ad e; omega)
      have HB8:=Lib.hid hB8
      have HBE2:=Lib.hid hb8
      have HR:=Lib.hid r4
      have HC:=Lib.hid r2
      have HFR:Hid (∀ ad,A=some ad→w.heap.size ≤ ad.block):=fun ad e => by have:=r3 ad e; omega
      clear hB8 hg8 hb8 r1 r2 r3 r4 hgl c0 c1 c2
      go_wp2_with fail
      rw [HFE.out]
      exact rdecide_ret (m:=DcM.mk 0 hT A c l) HB8.out HR.out HC.out HFR.out HBE2.out rfl rfl
 ·have hdz:x.p.dec=Dc.zero:=by unfold Pb.dec; rw [if_pos hc]
  have hbz:x.p.bestE=x.p.chk:=(Pb.best_chk hc).2
  have q0:(x.p.chk != 0)=true:=by simp [hc]
  rw [hdz,hbz]
  generalize x.p.chk=ck at *
  have HCK:=Lib.hid hck0
  clear hck0 hbe hdz hbz hc hF hP0
  go_enter Tryz.func10,Tryz.ntmps10
  go_upto_region 1 with fail
  rw [← hWH.out]
  clear hWH
  go_wp2_with (refine wpList_load_problemG (by rfl) _ rfl w.heap.size rfl x hst.out.p ?_)
  refine (HCK.out _ (hP.out.below hst.out.bel)).mono ?_
  rintro e w1 ⟨rfl,hb1⟩
  have HX1:=Lib.hid (hst.out.below hb1)
  clear hb1 hst
  go_upto_region 2 with fail
  clear q0
  go_wp2_with (refine wpList_load_problemG (by rfl) _ rfl w.heap.size rfl x HX1.out.p ?_)
  refine (HCK.out _ (hP.out.below HX1.out.bel)).mono ?_
  rintro e w2 ⟨rfl,hb2⟩
  have HX2:=Lib.hid (HX1.out.below hb2)
  clear hb2 HX1 HCK
  go_wp2_with (refine wpList_store_blk rfl 42 _ _ rfl (w.heap.size+1) rfl DcM.zero.cs rfl (by kernel_rfl) (DcM.cs_one _) HX2.out.q rfl ?_)
  intro w8 hB8 hg8
  have hb8:Below w.heap.size w w8:=HX2.out.bel.grown hg8 HX2.out.bel.size (fun k e => by injection e with e; omega)
  have HB8:=Lib.hid hB8
  have HBE2:=Lib.hid hb8
  clear hB8 hg8 hb8
  go_wp2_with fail
  exact rdecide_ret (m:=DcM.zero) HB8.out RBools.nil (Nat.le_refl _) (fun ad e => by cases e) HBE2.out rfl rfl
end Go.Proofs.YtnppngaabfhkpaaGreat
