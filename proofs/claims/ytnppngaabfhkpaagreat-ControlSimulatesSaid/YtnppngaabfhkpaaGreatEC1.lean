/-
  The walks of layer 44 (control), part 1: the decision without a plan.
-/
import Derived.Test.YtnppngaabfhkpaaGreatEU20
import Derived.Test.YtnppngaabfhkpaaGreatET3
namespace Go.Proofs.YtnppngaabfhkpaaGreat
open Go.RowKit
attribute [local go_sem ↓] Go.wp_at_zero Go.wp_at_succ
theorem dec_ret {tmps:Array Value} {fn:Func} {i:Tmp} {w W:World} {m:DcM} {t:TypeId} (hr:fn.results = #[.cell i 39]) (h:Blk W (w.heap.size+1) t m.cs) (hm:RBools W m.A m.l) (hl:m.l.length ≤ m.c) (ha:∀ ad,m.A=some ad→w.heap.size ≤ ad.block) (hb:Below w.heap.size w W)
  (h2:tmps.getD i undef = .pointer (some ⟨w.heap.size+1,0,none⟩)) :
  bodyPost Tryz.prog fn (fun e w' => ∃ v,e = .returned v∧DecOut m.d w v w') .ret { tmps:=tmps,defers := [] } W:=by
 refine bodyPost_ret (v := .agg m.cs) (results_cell hr h2 (run_load_blk (by kernel_rfl) (by kernel_rfl) h)) rfl ?_
 exact ⟨_,rfl,m,rfl,rfl,hm,hl,ha,hb⟩
set_option maxRecDepth 100000 in
set_option maxHeartbeats 64000000 in
theorem fallback_any (x:PbM) (w:World) (hP0:RPb w x) (hc:x.p.chk=0) :
  Calls Tryz.prog 25 #[x.v] w (fun e w' => ∃ v,e = .returned v∧DecOut x.p.fallback w v w'):=by
 have hgd:=Pb.good hc
 have hld:x.loads.length ≤ 4:=by
  have h1:=Pb.loads4 hgd
  have h2:x.p.loads.length=x.loads.length:=by simp [PbM.p]
  omega
 have hn1:1 ≤ x.buy.l.length:=(Pb.nbd hgd).1
 have hol:0 < x.outside.l.length:=by have h:x.outside.l.length=x.buy.l.length:=hgd.lens.2.2; omega
 have hP:=Lib.hid hP0
 have hho:=fun (o:Int) W (q:RPb W x) => thold_any x.room x.low.A x.high.A x.low.c x.high.c 0 x.temp o W q.low q.high
 have hla:=fun (r:Ld) A c W => llast_any r A c W
 simp only [Rm.v,Ld.v] at hho hla
 have HFB:Hid (∀ h,x.room.valid.hold 0 x.temp (x.outside.l.getD 0 0)=h→x.p.fallback=⟨0,h,x.loads.map fun l => decide (l.r.last=0)⟩):=fun h e => by
  show Dc.mk 0 (x.room.valid.hold 0 x.temp (x.outside.l.getD 0 0)) ((x.loads.map LdM.r).map fun l => decide (l.last=0))=_
  rw [e,List.map_map]
  rfl
 have HHO:=Lib.hid hho
 have HLA:=Lib.hid hla
 obtain ⟨bO,oO,hAO,hbO,o0⟩:=hP0.outside.at' hol
 have hgO:x.outside.l[0]=x.outside.l.getD 0 0:=(getD_at _ hol).symm
 rw [hgO] at o0
 generalize x.outside.l.getD 0 0=ov at *
 generalize hHv:x.room.valid.hold 0 x.temp ov=hT at *
 have HFB1:=Lib.hid (HFB.out _ rfl)
 have HHO1:=Lib.hid (HHO.out ov)
 rw [hHv] at HHO1
 have HO0:=Lib.hid o0
 have HBO:=Lib.hid hbO
 have j1:(0:Int) < (x.outside.l.length:Int):=by omega
 have hst0:=PD.start x DcM.zero 39 w
 simp only [PbM.v]
 obtain ⟨W,hW⟩:∃ W,W=(w.alloc (.cells x.cs 31)).alloc (.cells #[.int .i64 0,.int .i64 0,.slice none 0 0] 39):=⟨_,rfl⟩
 simp only [PbM.cs] at hW
 rw [show (w.alloc (.cells x.cs 31)).alloc (.cells DcM.zero.cs 39)=W from hW.symm] at hst0
 have hst:=Lib.hid hst0
 have hWH:=Lib.hid hW
 have k5:=hst0.p.cell 5
 have k11:=hst0.p.cell 11
 have k12:=hst0.p.cell 12
 have k13:=hst0.p.cell 13
 have k14:=hst0.p.cell 14
 have k15:=hst0.p.cell 15
 have k16:=hst0.p.cell 16
 have k19:=hst0.p.cell 19
 simp [PbM.cs] at k5 k11 k12 k13 k14 k15 k16 k19
 rw [hAO] at k5
 have o1:=cell_below o0 hst0.bel
 simp at o1
 obtain ⟨i0,hi0,hz00,hz10,hz20⟩:=info_parts Tryz.infoBool
 clear hbO hst0 hW hP0 hho hla hHv HFB HHO hgO hAO hc hgd o0 hn1
 go_enter Tryz.func25,Tryz.ntmps25
 go_upto_region 1 with fail
 rw [← hWH.out]
 clear hWH
 go_cut [3] (fun s3 wx => ∃ g:Nat,s3 = .pointer (some ⟨g,0,none⟩)∧Hid (DL x w wx g 0 hT (.slice none 0 0) []))
 case first =>
  refine wp_region_held_drew (S:=(fun w' => w'.cell? ⟨w.heap.size,5,none⟩=some (.slice (some ⟨bO,oO,none⟩) x.outside.l.length x.outside.c)∧w'.cell? ⟨w.heap.size,11,none⟩=some (.int .i64 x.gain)∧w'.cell? ⟨w.heap.size,12,none⟩=some (.int .i64 x.loss)∧w'.cell? ⟨w.heap.size,13,none⟩=some (.int .i64 x.steps)∧w'.cell? ⟨w.heap.size,14,none⟩=some (.int .i64 x.power)∧w'.cell? ⟨w.heap.size,15,none⟩=some (.slice x.low.A x.low.l.length x.low.c)∧w'.cell? ⟨w.heap.size,16,none⟩=some (.slice x.high.A x.high.l.length x.high.c)∧w'.cell? ⟨w.heap.size,19,none⟩=some (.int .i64 x.temp)∧w'.cell? ⟨bO,oO,none⟩=some (.int .i64 ov))) (by kernel_rfl) (⟨k5,k11,k12,k13,k14,k15,k16,k19,o1⟩) (fun hHeld => ?_)
  refine tk 0 ?_
  try simp only [jA,jB,Act.put,jD,jE,jF]
  refine tk 1 ?_
  try simp only [jA,jB,jC,Act.put,jD,jE,jF]
  refine tk 2 ?_
  try simp only [jA,jB,jC,Act.put,jD,jE,jF]
  refine tk 3 ?_
  try simp only [jA,jB,jC,Act.put,jD,jE,jF]
  refine tk 4 ?_
  try simp only [jA,jB,jC,Act.put,jD,jE,jF]
  refine tk 5 ?_
  try simp only [jA,jB,jC,Act.put,jD,jE,jF]
  refine tk 6 ?_
  try simp only [jA,jB,jC,Act.put,jD,jE,jF]
  refine tk 7 ?_
  try simp only [jA,jB,jC,Act.put,jD,jE,jF]
  refine wpAnyH_ready (rs := [8,10]) (by kernel_rfl) (by simp) ?_
  refine (AllReadyH.cons rfl (fun K hK => ?_) (AllReadyH.cons rfl (fun K hK => ?_) AllReadyH.nil))
  ·have HKK:=Lib.hid hK
   clear hK
   go_simp
   refine (HHO1.out _ (hP.out.below ((Below.drew (hst.out.bel))))).mono ?_
   rintro e' yw1 ⟨rfl,hb1⟩
   have hq1:Below W.heap.size W yw1:=below_tr (Below.drew (Below.refl W.heap.size W)) hb1
   have HB_yw1:=Lib.hid ((hst.out.bel).trans (hq1.mono (Below.size (hst.out.bel))))
   have HS_yw1:Hid (W.heap.size ≤ yw1.heap.size):=Nat.le_trans ((Nat.le_refl W.heap.size)) hq1.size
   have pd_yw1:=Lib.hid (hst.out.below hq1)
   clear hb1
   go_wp2_with fail
   refine HKK.out _ _ (⟨(cell_below k5 hq1),(cell_below k11 hq1),(cell_below k12 hq1),(cell_below k13 hq1),(cell_below k14 hq1),(cell_below k15 hq1),(cell_below k16 hq1),(cell_below k19 hq1),(cell_below o1 hq1)⟩) (fun hH2 => ?_)
   clear HKK K
   replace hHeld:=hH2
   clear hH2
   try simp only [jA,jB,jC,Act.put,jD,jE,jF]
   refine tk 9 ?_
   try simp only [jA,jB,jC,Act.put,jD,jE,jF]
   refine wpAnyH_ready (rs := [10]) (by kernel_rfl) (by simp) ?_
   refine (AllReadyH.cons rfl (fun K hK => ?_) AllReadyH.nil)
   have HKK:=Lib.hid hK
   clear hK
   go_simp
   obtain ⟨yw2,hWn⟩:∃ v,v=yw1.alloc (.cells #[.int .i64 0,.int .i64 0,.slice none 0 0] 39):=⟨_,rfl⟩
   obtain ⟨g,hg⟩:∃ n,n=yw1.heap.size:=⟨_,rfl⟩
   rw [← hWn, ← hg]
   have hb2:Below yw1.heap.size yw1 yw2:=by rw [hWn]; exact (below_al (Below.refl _ _):Below _ _ (yw1.alloc (.cells #[.int .i64 0,.int .i64 0,.slice none 0 0] 39)))
   have hq2:Below yw1.heap.size yw1 yw2:=hb2
   have bk_yw2:Hid (Blk yw2 g 39 #[.int .i64 0,.int .i64 0,.slice none 0 0]):=by show Blk _ _ _ _; rw [hWn,hg]; exact Blk.new yw1 _ _
   have HHg:Hid (g=yw1.heap.size):=by show _=_; exact hg
   have HGg:Hid (W.heap.size ≤ g):=by show _ ≤ _; rw [hg]; exact HS_yw1.out
   have HB_yw2:=Lib.hid ((HB_yw1.out).trans (hq2.mono (Below.size (HB_yw1.out))))
   have HS_yw2:Hid (W.heap.size ≤ yw2.heap.size):=Nat.le_trans (HS_yw1.out) hq2.size
   have pd_yw2:=Lib.hid (pd_yw1.out.below hq2)
   clear hWn hg hb2
   refine HKK.out _ _ (⟨(cell_below (cell_below k5 hq1) hq2),(cell_below (cell_below k11 hq1) hq2),(cell_below (cell_below k12 hq1) hq2),(cell_below (cell_below k13 hq1) hq2),(cell_below (cell_below k14 hq1) hq2),(cell_below (cell_below k15 hq1) hq2),(cell_below (cell_below k16 hq1) hq2),(cell_below (cell_below k19 hq1) hq2),(cell_below (cell_below o1 hq1) hq2)⟩) (fun hH2 => ?_)
   clear HKK K
   replace hHeld:=hH2
   clear hH2
   try simp only [jA,jB,jC,Act.put,jD,jE,jF]
   refine wpAnyH_ready (rs := [11]) (by kernel_rfl) (by simp) ?_
   refine (AllReadyH.cons rfl (fun K hK => ?_) AllReadyH.nil)
   have z0:=bk_yw2.out.cell 0
   have f0:=bk_yw2.out.frozen 0
   have z1:=bk_yw2.out.cell 1
   have f1:=bk_yw2.out.frozen 1
   have z2:=bk_yw2.out.cell 2
   have f2:=bk_yw2.out.frozen 2
   simp at z0 z1 z2
   have HKK:=Lib.hid hK
   clear hK
   go_simp
   obtain ⟨yw3,hv⟩:∃ v,v=((yw2.setCell ⟨g,0,none⟩ (.int .i64 0)).setCell ⟨g,1,none⟩ (.int .i64 hT)).setCell ⟨g,2,none⟩ (.slice none 0 0):=⟨_,rfl⟩
   rw [← hv]
   have hgv3:yw2.grownBy yw3 (some g):=by rw [hv]; exact only_setCell (p:=⟨g,2,none⟩) (only_setCell (p:=⟨g,1,none⟩) (only_setCell (p:=⟨g,0,none⟩) (grown_id _ _) (.inl rfl) _) (.inl rfl) _) (.inl rfl) _
   have bk_yw3:Hid (Blk yw3 g 39 #[.int .i64 0,.int .i64 hT,.slice none 0 0]):=by show Blk _ _ _ _; rw [hv]; have:=(((bk_yw2.out).set_ 0 (.int .i64 0)).set_ 1 (.int .i64 hT)).set_ 2 (.slice none 0 0); simpa using this
   have HB_yw3:=Lib.hid ((HB_yw2.out).grown hgv3 (Below.size (HB_yw2.out)) (fun k e => by injection e with e; have h2:=HGg.out; have h3:=(hst.out.bel).size; omega))
   have HS_yw3:Hid (W.heap.size ≤ yw3.heap.size):=Nat.le_trans (HS_yw2.out) hgv3.size
   have pd_yw3:=Lib.hid (pd_yw2.out.grown hgv3 (fun k e => by injection e with e; have:=hst.out.lt; have:=HGg.out; omega))
   clear hv z0 f0 z1 f1 z2 f2
   refine HKK.out _ _ (⟨(cell_grown hgv3 (cell_below (cell_below k5 hq1) hq2) (by intro e; have e:=Option.some.inj e; have h1:=HGg.out; have h2:=hst.out.lt; simp at e; omega)),(cell_grown hgv3 (cell_below (cell_below k11 hq1) hq2) (by intro e; have e:=Option.some.inj e; have h1:=HGg.out; have h2:=hst.out.lt; simp at e; omega)),(cell_grown hgv3 (cell_below (cell_below k12 hq1) hq2) (by intro e; have e:=Option.some.inj e; have h1:=HGg.out; have h2:=hst.out.lt; simp at e; omega)),(cell_grown hgv3 (cell_below (cell_below k13 hq1) hq2) (by intro e; have e:=Option.some.inj e; have h1:=HGg.out; have h2:=hst.out.lt; simp at e; omega)),(cell_grown hgv3 (cell_below (cell_below k14 hq1) hq2) (by intro e; have e:=Option.some.inj e; have h1:=HGg.out; have h2:=hst.out.lt; simp at e; omega)),(cell_grown hgv3 (cell_below (cell_below k15 hq1) hq2) (by intro e; have e:=Option.some.inj e; have h1:=HGg.out; have h2:=hst.out.lt; simp at e; omega)),(cell_grown hgv3 (cell_below (cell_below k16 hq1) hq2) (by intro e; have e:=Option.some.inj e; have h1:=HGg.out; have h2:=hst.out.lt; simp at e; omega)),(cell_grown hgv3 (cell_below (cell_below k19 hq1) hq2) (by intro e; have e:=Option.some.inj e; have h1:=HGg.out; have h2:=hst.out.lt; simp at e; omega)),(cell_grown hgv3 (cell_below (cell_below o1 hq1) hq2) (by intro e; have e:=Option.some.inj e; have h1:=HGg.out; have h2:=HBO.out; have h3:=hst.out.lt; simp at e; omega))⟩) (fun hH2 => ?_)
   clear HKK K
   replace hHeld:=hH2
   clear hH2
   try simp only [jA,jB,jC,Act.put,jD,jE,jF]
   refine wpAnyH_done (by kernel_rfl) ?_ _
   have HFN:=Lib.hid (DL.start pd_yw3.out bk_yw3.out (by have:=hst.out.lt; have:=HGg.out; omega))
   clear hHeld
   go_wp2_with fail
   go_meet
   exact ⟨g,rfl,HFN.out⟩
  ·have HKK:=Lib.hid hK
   clear hK
   go_simp
   obtain ⟨yw4,hWn⟩:∃ v,v=(W.alloc (.cells #[.int .i64 0,.int .i64 0,.slice none 0 0] 39)).drew:=⟨_,rfl⟩
   obtain ⟨g,hg⟩:∃ n,n=W.heap.size:=⟨_,rfl⟩
   rw [← hWn, ← hg]
   have hb4:Below W.drew.heap.size W.drew yw4:=by rw [hWn]; exact (below_al (Below.refl _ _):Below _ _ (W.drew.alloc (.cells #[.int .i64 0,.int .i64 0,.slice none 0 0] 39)))
   have hq4:Below W.heap.size W yw4:=below_tr (Below.drew (Below.refl W.heap.size W)) hb4
   have bk_yw4:Hid (Blk yw4 g 39 #[.int .i64 0,.int .i64 0,.slice none 0 0]):=by show Blk _ _ _ _; rw [hWn,hg]; exact Blk.new W.drew _ _
   have HHg:Hid (g=W.heap.size):=by show _=_; exact hg
   have HGg:Hid (W.heap.size ≤ g):=by show _ ≤ _; rw [hg]; exact (Nat.le_refl W.heap.size)
   have HB_yw4:=Lib.hid ((hst.out.bel).trans (hq4.mono (Below.size (hst.out.bel))))
   have HS_yw4:Hid (W.heap.size ≤ yw4.heap.size):=Nat.le_trans ((Nat.le_refl W.heap.size)) hq4.size
   have pd_yw4:=Lib.hid (hst.out.below hq4)
   clear hWn hg hb4
   refine HKK.out _ _ (⟨(cell_below k5 hq4),(cell_below k11 hq4),(cell_below k12 hq4),(cell_below k13 hq4),(cell_below k14 hq4),(cell_below k15 hq4),(cell_below k16 hq4),(cell_below k19 hq4),(cell_below o1 hq4)⟩) (fun hH2 => ?_)
   clear HKK K
   replace hHeld:=hH2
   clear hH2
   try simp only [jA,jB,jC,Act.put,jD,jE,jF]
   refine wpAnyH_ready (rs := [8]) (by kernel_rfl) (by simp) ?_
   refine (AllReadyH.cons rfl (fun K hK => ?_) AllReadyH.nil)
   have HKK:=Lib.hid hK
   clear hK
   go_simp
   refine (HHO1.out _ (hP.out.below (HB_yw4.out))).mono ?_
   rintro e' yw5 ⟨rfl,hb5⟩
   have hq5:Below yw4.heap.size yw4 yw5:=hb5
   have HB_yw5:=Lib.hid ((HB_yw4.out).trans (hq5.mono (Below.size (HB_yw4.out))))
   have HS_yw5:Hid (W.heap.size ≤ yw5.heap.size):=Nat.le_trans (HS_yw4.out) hq5.size
   have pd_yw5:=Lib.hid (pd_yw4.out.below hq5)
   have bk_yw5:=Lib.hid (bk_yw4.out.below hq5 bk_yw4.out.lt)
   clear hb5
   go_wp2_with fail
   refine HKK.out _ _ (⟨(cell_below (cell_below k5 hq4) hq5),(cell_below (cell_below k11 hq4) hq5),(cell_below (cell_below k12 hq4) hq5),(cell_below (cell_below k13 hq4) hq5),(cell_below (cell_below k14 hq4) hq5),(cell_below (cell_below k15 hq4) hq5),(cell_below (cell_below k16 hq4) hq5),(cell_below (cell_below k19 hq4) hq5),(cell_below (cell_below o1 hq4) hq5)⟩) (fun hH2 => ?_)
   clear HKK K
   replace hHeld:=hH2
   clear hH2
   try simp only [jA,jB,jC,Act.put,jD,jE,jF]
   refine tk 9 ?_
   try simp only [jA,jB,jC,Act.put,jD,jE,jF]
   refine wpAnyH_ready (rs := [11]) (by kernel_rfl) (by simp) ?_
   refine (AllReadyH.cons rfl (fun K hK => ?_) AllReadyH.nil)
   have z0:=bk_yw5.out.cell 0
   have f0:=bk_yw5.out.frozen 0
   have z1:=bk_yw5.out.cell 1
   have f1:=bk_yw5.out.frozen 1
   have z2:=bk_yw5.out.cell 2
   have f2:=bk_yw5.out.frozen 2
   simp at z0 z1 z2
   have HKK:=Lib.hid hK
   clear hK
   go_simp
   obtain ⟨yw6,hv⟩:∃ v,v=((yw5.setCell ⟨g,0,none⟩ (.int .i64 0)).setCell ⟨g,1,none⟩ (.int .i64 hT)).setCell ⟨g,2,none⟩ (.slice none 0 0):=⟨_,rfl⟩
   rw [← hv]
   have hgv6:yw5.grownBy yw6 (some g):=by rw [hv]; exact only_setCell (p:=⟨g,2,none⟩) (only_setCell (p:=⟨g,1,none⟩) (only_setCell (p:=⟨g,0,none⟩) (grown_id _ _) (.inl rfl) _) (.inl rfl) _) (.inl rfl) _
   have bk_yw6:Hid (Blk yw6 g 39 #[.int .i64 0,.int .i64 hT,.slice none 0 0]):=by show Blk _ _ _ _; rw [hv]; have:=(((bk_yw5.out).set_ 0 (.int .i64 0)).set_ 1 (.int .i64 hT)).set_ 2 (.slice none 0 0); simpa using this
   have HB_yw6:=Lib.hid ((HB_yw5.out).grown hgv6 (Below.size (HB_yw5.out)) (fun k e => by injection e with e; have h2:=HGg.out; have h3:=(hst.out.bel).size; omega))
   have HS_yw6:Hid (W.heap.size ≤ yw6.heap.size):=Nat.le_trans (HS_yw5.out) hgv6.size
   have pd_yw6:=Lib.hid (pd_yw5.out.grown hgv6 (fun k e => by injection e with e; have:=hst.out.lt; have:=HGg.out; omega))
   clear hv z0 f0 z1 f1 z2 f2
   refine HKK.out _ _ (⟨(cell_grown hgv6 (cell_below (cell_below k5 hq4) hq5) (by intro e; have e:=Option.some.inj e; have h1:=HGg.out; have h2:=hst.out.lt; simp at e; omega)),(cell_grown hgv6 (cell_below (cell_below k11 hq4) hq5) (by intro e; have e:=Option.some.inj e; have h1:=HGg.out; have h2:=hst.out.lt; simp at e; omega)),(cell_grown hgv6 (cell_below (cell_below k12 hq4) hq5) (by intro e; have e:=Option.some.inj e; have h1:=HGg.out; have h2:=hst.out.lt; simp at e; omega)),(cell_grown hgv6 (cell_below (cell_below k13 hq4) hq5) (by intro e; have e:=Option.some.inj e; have h1:=HGg.out; have h2:=hst.out.lt; simp at e; omega)),(cell_grown hgv6 (cell_below (cell_below k14 hq4) hq5) (by intro e; have e:=Option.some.inj e; have h1:=HGg.out; have h2:=hst.out.lt; simp at e; omega)),(cell_grown hgv6 (cell_below (cell_below k15 hq4) hq5) (by intro e; have e:=Option.some.inj e; have h1:=HGg.out; have h2:=hst.out.lt; simp at e; omega)),(cell_grown hgv6 (cell_below (cell_below k16 hq4) hq5) (by intro e; have e:=Option.some.inj e; have h1:=HGg.out; have h2:=hst.out.lt; simp at e; omega)),(cell_grown hgv6 (cell_below (cell_below k19 hq4) hq5) (by intro e; have e:=Option.some.inj e; have h1:=HGg.out; have h2:=hst.out.lt; simp at e; omega)),(cell_grown hgv6 (cell_below (cell_below o1 hq4) hq5) (by intro e; have e:=Option.some.inj e; have h1:=HGg.out; have h2:=HBO.out; have h3:=hst.out.lt; simp at e; omega))⟩) (fun hH2 => ?_)
   clear HKK K
   replace hHeld:=hH2
   clear hH2
   try simp only [jA,jB,jC,Act.put,jD,jE,jF]
   refine wpAnyH_done (by kernel_rfl) ?_ _
   have HFN:=Lib.hid (DL.start pd_yw6.out bk_yw6.out (by have:=hst.out.lt; have:=HGg.out; omega))
   clear hHeld
   go_wp2_with fail
   go_meet
   exact ⟨g,rfl,HFN.out⟩
 case rest =>
  obtain ⟨g,rfl,hD0⟩:=hcut
  clear k5 k11 k12 k13 k14 k15 k16 k19 o1 j1 hol hst HHO1 HO0
  have k17:=hD0.out.pd.p.cell 17
  simp [PbM.cs] at k17
  go_wp2_with fail
  clear k17
  go_loopw [19] (fun s19 wr => ∃ (k:Nat) (v:Value) (l:List Bool),k ≤ x.loads.length∧s19 = .int .i64 k∧l.length=k∧Hid (l=(x.loads.take k).map fun l => decide (l.r.last=0))∧Hid (DL x w wr g 0 hT v l))
   (fun s19 _ => x.loads.length - (intOf s19).toNat)
  case atStart => exact ⟨0,_, [],by omega,rfl,rfl,rfl,hD0.out⟩
  case round =>
   clear hD0
   obtain ⟨k,v,l,hk,rfl,hlk,hEQ,hD⟩:=hrel
   obtain ⟨wo,hwo⟩:∃ wo:World,wo=wr:=⟨_,rfl⟩
   subst hwo
   have HLK:=Lib.hid hlk
   by_cases hlt:k < x.loads.length
   ·obtain ⟨bL,oL,hAe,_,y0,y1,y2,y3⟩:=(hP.out.below hD.out.pd.bel).loads.at' hlt
    have HTK:=Lib.hid (show ((x.loads.take (k+1)).map fun l => decide (l.r.last=0))=((x.loads.take k).map fun l => decide (l.r.last=0)) ++ [decide (x.loads[k].r.last=0)] by rw [List.take_succ_eq_append_getElem hlt,List.map_append]; rfl)
    have i1:(0:Int) ≤ (k:Int):=by omega
    have i2:(k:Int) < (x.loads.length:Int):=by omega
    generalize x.loads[k]=X at *
    have HLX:=Lib.hid (HLA.out X.r X.A X.c)
    generalize X.r.last=la at *
    rw [hAe]
    clear hAe hlk
    go_upto_region 5 with fail
    clear y0 y1 y2 y3
    obtain ⟨wi,hwi⟩:∃ W,W=wo.alloc (.cells #[.string X.r.name,.slice X.A X.r.prof.length X.c,.int .i64 X.r.early,.int .i64 X.r.late] 54):=⟨_,rfl⟩
    obtain ⟨t5,ht5⟩:∃ n,n=wo.heap.size:=⟨_,rfl⟩
    rw [← hwi, ← ht5]
    have hkb:Blk wi t5 54 #[.string X.r.name,.slice X.A X.r.prof.length X.c,.int .i64 X.r.early,.int .i64 X.r.late]:=by rw [hwi,ht5]; exact Blk.new _ _ _
    have HDi:Hid (DL x w wi g 0 hT v l):=by show DL _ _ _ _ _ _ _ _; rw [hwi]; exact hD.out.below (below_al (Below.refl _ _))
    have HNE:Hid (∀ q,v.ownBlock=some q→q < t5):=fun q e => by rw [ht5]; exact (hD.out.own.lt q e).2
    have HTS:Hid (t5 < wi.heap.size):=hkb.lt
    have HBASE:Hid (w.heap.size ≤ g+1):=by show _ ≤ _; have:=hD.out.lt; omega
    have HGT:Hid (g < t5):=by show g < t5; rw [ht5]; exact hD.out.blk.lt
    have y0:=hkb.cell 0
    have y1:=hkb.cell 1
    have y2:=hkb.cell 2
    have y3:=hkb.cell 3
    simp at y0 y1 y2 y3
    clear hwi ht5 hkb hD
    refine wp_region_held_drew (S:=(fun w' => w'.cell? ⟨t5,0,none⟩=some (.string X.r.name)∧w'.cell? ⟨t5,1,none⟩=some (.slice X.A X.r.prof.length X.c)∧w'.cell? ⟨t5,2,none⟩=some (.int .i64 X.r.early)∧w'.cell? ⟨t5,3,none⟩=some (.int .i64 X.r.late))) (by kernel_rfl) (⟨y0,y1,y2,y3⟩) (fun hHeld => ?_)
    refine tk 0 ?_
    try simp only [jA,jB,Act.put,jD,jE,jF]
    refine tk 2 ?_
    try simp only [jA,jB,jC,Act.put,jD,jE,jF]
    refine wpAnyH_ready (rs := [1,3]) (by kernel_rfl) (by simp) ?_
    refine (AllReadyH.cons rfl (fun K hK => ?_) (AllReadyH.cons rfl (fun K hK => ?_) AllReadyH.nil))
    ·have zc2:=(HDi.out.below (Below.drew (Below.refl _ _))).blk.cell 2
     simp at zc2
     have HKK:=Lib.hid hK
     clear hK
     go_simp
     refine HKK.out _ _ (⟨y0,y1,y2,y3⟩) (fun hH2 => ?_)
     clear HKK K
     replace hHeld:=hH2
     clear hH2
     try simp only [jA,jB,jC,Act.put,jD,jE,jF]
     clear zc2
     refine wpAnyH_ready (rs := [3]) (by kernel_rfl) (by simp) ?_
     refine (AllReadyH.cons rfl (fun K hK => ?_) AllReadyH.nil)
     have HKK:=Lib.hid hK
     clear hK
     go_simp
     refine (HLX.out _).mono ?_
     rintro e' yw2 ⟨rfl,hb2⟩
     have hq2:Below wi.heap.size wi yw2:=below_tr (Below.drew (Below.refl wi.heap.size wi)) hb2
     have HB_yw2:=Lib.hid ((HDi.out.pd.bel).trans (hq2.mono (Below.size (HDi.out.pd.bel))))
     have HS_yw2:Hid (wi.heap.size ≤ yw2.heap.size):=Nat.le_trans ((Nat.le_refl wi.heap.size)) hq2.size
     have dl_yw2:=Lib.hid (HDi.out.below hq2)
     clear hb2
     go_wp2_with fail
     refine HKK.out _ _ (⟨(cell_below y0 hq2),(cell_below y1 hq2),(cell_below y2 hq2),(cell_below y3 hq2)⟩) (fun hH2 => ?_)
     clear HKK K
     replace hHeld:=hH2
     clear hH2
     try simp only [jA,jB,jC,Act.put,jD,jE,jF]
     refine tk 4 ?_
     try simp only [jA,jB,jC,Act.put,jD,jE,jF]
     refine wpAnyH_ready (rs := [5]) (by kernel_rfl) (by simp) ?_
     refine (AllReadyH.cons rfl (fun K hK => ?_) AllReadyH.nil)
     have HKK:=Lib.hid hK
     clear hK
     go_simp
     obtain ⟨yw3,hWn⟩:∃ v,v=yw2.alloc (.cells #[.bool (la == 0)] 4):=⟨_,rfl⟩
     obtain ⟨bb,hg⟩:∃ n,n=yw2.heap.size:=⟨_,rfl⟩
     rw [← hWn, ← hg]
     have hb3:Below yw2.heap.size yw2 yw3:=by rw [hWn]; exact (below_al (Below.refl _ _):Below _ _ (yw2.alloc (.cells #[.bool (la == 0)] 4)))
     have hq3:Below yw2.heap.size yw2 yw3:=hb3
     have lt_yw3:Hid (RBools yw3 (some ⟨bb,0,none⟩) [la == 0]):=by show RBools _ _ _; rw [hWn,hg]; exact rbools_lit yw2 #[.bool (la == 0)] 4 (l := [la == 0]) rfl
     have HHbb:Hid (bb=yw2.heap.size):=by show _=_; exact hg
     have HGbb:Hid (wi.heap.size ≤ bb):=by show _ ≤ _; rw [hg]; exact HS_yw2.out
     have HB_yw3:=Lib.hid ((HB_yw2.out).trans (hq3.mono (Below.size (HB_yw2.out))))
     have HS_yw3:Hid (wi.heap.size ≤ yw3.heap.size):=Nat.le_trans (HS_yw2.out) hq3.size
     have dl_yw3:=Lib.hid (dl_yw2.out.below hq3)
     clear hWn hg hb3
     refine HKK.out _ _ (⟨(cell_below (cell_below y0 hq2) hq3),(cell_below (cell_below y1 hq2) hq3),(cell_below (cell_below y2 hq2) hq3),(cell_below (cell_below y3 hq2) hq3)⟩) (fun hH2 => ?_)
     clear HKK K
     replace hHeld:=hH2
     clear hH2
     try simp only [jA,jB,jC,Act.put,jD,jE,jF]
     refine wpAnyH_ready (rs := [6]) (by kernel_rfl) (by simp) ?_
     refine (AllReadyH.cons rfl (fun K hK => ?_) AllReadyH.nil)
     have HKK:=Lib.hid hK
     clear hK
     have how4:=dl_yw3.out.own
     refine step_append_any _ (by rfl) _ _ _ (by rfl) (g+1) 4 i0 (.bool false) 1 1 Tryz.underlying37 hi0 hz00 hz10 hz20 rfl (by decide) _ l.length (bools l) (by rfl) how4 yw3.heap.size (some ⟨bb,0,none⟩) 1 1 [.bool (la == 0)] (by rfl) (show Reads _ _ 1 _ 1 _ from lt_yw3.out) (by intro u hu; simp at hu; subst hu; rfl) (by unfold maxLen; have:=HLK.out; omega) (by have:=HLK.out; omega) (by have h1:=HGT.out; have h2:=HTS.out; have h3:=HS_yw3.out; omega) ?_
     intro v4 yw4 hob4 hgb4 hvb4
     obtain ⟨A4,c4,rfl⟩:=own_form hob4
     have HB_yw4:=Lib.hid ((HB_yw3.out).grown hgb4 (Below.size (HB_yw3.out)) (fun q hq => by have h1:=(how4.lt q hq).1; have h2:=HBASE.out; omega))
     have HS_yw4:Hid (wi.heap.size ≤ yw4.heap.size):=Nat.le_trans (HS_yw3.out) hgb4.size
     have da_yw4:=Lib.hid (dl_yw3.out.push (b:=la == 0) hob4 hgb4)
     have k4_0:=(cell_grown hgb4 (cell_below (cell_below y0 hq2) hq3) (by intro e; have h1:=HNE.out _ e.symm; simp at h1))
     have k4_1:=(cell_grown hgb4 (cell_below (cell_below y1 hq2) hq3) (by intro e; have h1:=HNE.out _ e.symm; simp at h1))
     have k4_2:=(cell_grown hgb4 (cell_below (cell_below y2 hq2) hq3) (by intro e; have h1:=HNE.out _ e.symm; simp at h1))
     have k4_3:=(cell_grown hgb4 (cell_below (cell_below y3 hq2) hq3) (by intro e; have h1:=HNE.out _ e.symm; simp at h1))
     refine HKK.out _ _ (⟨k4_0,k4_1,k4_2,k4_3⟩) (fun hH2 => ?_)
     clear HKK K
     replace hHeld:=hH2
     clear hH2
     try simp only [jA,jB,jC,Act.put,jD,jE,jF]
     refine tk 7 ?_
     try simp only [jA,jB,jC,Act.put,jD,jE,jF]
     refine wpAnyH_ready (rs := [8]) (by kernel_rfl) (by simp) ?_
     refine (AllReadyH.cons rfl (fun K hK => ?_) AllReadyH.nil)
     have zs:=(da_yw4.out.blk).cell 2
     have fs:=(da_yw4.out.blk).frozen 2
     simp at zs
     have HKK:=Lib.hid hK
     clear hK
     go_simp
     obtain ⟨yw5,hv⟩:∃ v,v=yw4.setCell ⟨g,2,none⟩ (.slice A4 (l.length+1) c4):=⟨_,rfl⟩
     rw [← hv]
     have dl_yw5:=Lib.hid (da_yw4.out.set)
     rw [← hv] at dl_yw5
     have hgv:yw4.grownBy yw5 (some g):=by rw [hv]; exact only_setCell (grown_id _ _) (.inl rfl) _
     clear hv zs fs
     refine HKK.out _ _ (⟨(cell_grown hgv k4_0 (by intro e; have e:=Option.some.inj e; have h1:=HGT.out; simp at e; omega)),(cell_grown hgv k4_1 (by intro e; have e:=Option.some.inj e; have h1:=HGT.out; simp at e; omega)),(cell_grown hgv k4_2 (by intro e; have e:=Option.some.inj e; have h1:=HGT.out; simp at e; omega)),(cell_grown hgv k4_3 (by intro e; have e:=Option.some.inj e; have h1:=HGT.out; simp at e; omega))⟩) (fun hH2 => ?_)
     clear HKK K
     replace hHeld:=hH2
     clear hH2
     try simp only [jA,jB,jC,Act.put,jD,jE,jF]
     refine wpAnyH_done (by kernel_rfl) ?_ _
     clear hHeld
     go_wp2_with fail
     go_roundw
     case rel => exact ⟨k+1,_,l ++ [decide (la=0)],by omega,by go_num,by rw [List.length_append,HLK.out]; rfl,(by show _=_; rw [HTK.out, ← hEQ.out]),dl_yw5.out⟩
     case measure => simp [intOf]; omega
    ·have HKK:=Lib.hid hK
     clear hK
     go_simp
     refine (HLX.out _).mono ?_
     rintro e' yw6 ⟨rfl,hb6⟩
     have hq6:Below wi.heap.size wi yw6:=below_tr (Below.drew (Below.refl wi.heap.size wi)) hb6
     have HB_yw6:=Lib.hid ((HDi.out.pd.bel).trans (hq6.mono (Below.size (HDi.out.pd.bel))))
     have HS_yw6:Hid (wi.heap.size ≤ yw6.heap.size):=Nat.le_trans ((Nat.le_refl wi.heap.size)) hq6.size
     have dl_yw6:=Lib.hid (HDi.out.below hq6)
     clear hb6
     go_wp2_with fail
     refine HKK.out _ _ (⟨(cell_below y0 hq6),(cell_below y1 hq6),(cell_below y2 hq6),(cell_below y3 hq6)⟩) (fun hH2 => ?_)
     clear HKK K
     replace hHeld:=hH2
     clear hH2
     try simp only [jA,jB,jC,Act.put,jD,jE,jF]
     refine tk 4 ?_
     try simp only [jA,jB,jC,Act.put,jD,jE,jF]
     refine wpAnyH_ready (rs := [1,5]) (by kernel_rfl) (by simp) ?_
     refine (AllReadyH.cons rfl (fun K hK => ?_) (AllReadyH.cons rfl (fun K hK => ?_) AllReadyH.nil))
     ·have zc2:=dl_yw6.out.blk.cell 2
      simp at zc2
      have HKK:=Lib.hid hK
      clear hK
      go_simp
      refine HKK.out _ _ (⟨(cell_below y0 hq6),(cell_below y1 hq6),(cell_below y2 hq6),(cell_below y3 hq6)⟩) (fun hH2 => ?_)
      clear HKK K
      replace hHeld:=hH2
      clear hH2
      try simp only [jA,jB,jC,Act.put,jD,jE,jF]
      clear zc2
      refine wpAnyH_ready (rs := [5]) (by kernel_rfl) (by simp) ?_
      refine (AllReadyH.cons rfl (fun K hK => ?_) AllReadyH.nil)
      have HKK:=Lib.hid hK
      clear hK
      go_simp
      obtain ⟨yw8,hWn⟩:∃ v,v=yw6.alloc (.cells #[.bool (la == 0)] 4):=⟨_,rfl⟩
      obtain ⟨bb,hg⟩:∃ n,n=yw6.heap.size:=⟨_,rfl⟩
      rw [← hWn, ← hg]
      have hb8:Below yw6.heap.size yw6 yw8:=by rw [hWn]; exact (below_al (Below.refl _ _):Below _ _ (yw6.alloc (.cells #[.bool (la == 0)] 4)))
      have hq8:Below yw6.heap.size yw6 yw8:=hb8
      have lt_yw8:Hid (RBools yw8 (some ⟨bb,0,none⟩) [la == 0]):=by show RBools _ _ _; rw [hWn,hg]; exact rbools_lit yw6 #[.bool (la == 0)] 4 (l := [la == 0]) rfl
      have HHbb:Hid (bb=yw6.heap.size):=by show _=_; exact hg
      have HGbb:Hid (wi.heap.size ≤ bb):=by show _ ≤ _; rw [hg]; exact HS_yw6.out
      have HB_yw8:=Lib.hid ((HB_yw6.out).trans (hq8.mono (Below.size (HB_yw6.out))))
      have HS_yw8:Hid (wi.heap.size ≤ yw8.heap.size):=Nat.le_trans (HS_yw6.out) hq8.size
      have dl_yw8:=Lib.hid (dl_yw6.out.below hq8)
      clear hWn hg hb8
      refine HKK.out _ _ (⟨(cell_below (cell_below y0 hq6) hq8),(cell_below (cell_below y1 hq6) hq8),(cell_below (cell_below y2 hq6) hq8),(cell_below (cell_below y3 hq6) hq8)⟩) (fun hH2 => ?_)
      clear HKK K
      replace hHeld:=hH2
      clear hH2
      try simp only [jA,jB,jC,Act.put,jD,jE,jF]
      refine wpAnyH_ready (rs := [6]) (by kernel_rfl) (by simp) ?_
      refine (AllReadyH.cons rfl (fun K hK => ?_) AllReadyH.nil)
      have HKK:=Lib.hid hK
      clear hK
      have how9:=dl_yw8.out.own
      refine step_append_any _ (by rfl) _ _ _ (by rfl) (g+1) 4 i0 (.bool false) 1 1 Tryz.underlying37 hi0 hz00 hz10 hz20 rfl (by decide) _ l.length (bools l) (by rfl) how9 yw8.heap.size (some ⟨bb,0,none⟩) 1 1 [.bool (la == 0)] (by rfl) (show Reads _ _ 1 _ 1 _ from lt_yw8.out) (by intro u hu; simp at hu; subst hu; rfl) (by unfold maxLen; have:=HLK.out; omega) (by have:=HLK.out; omega) (by have h1:=HGT.out; have h2:=HTS.out; have h3:=HS_yw8.out; omega) ?_
      intro v9 yw9 hob9 hgb9 hvb9
      obtain ⟨A9,c9,rfl⟩:=own_form hob9
      have HB_yw9:=Lib.hid ((HB_yw8.out).grown hgb9 (Below.size (HB_yw8.out)) (fun q hq => by have h1:=(how9.lt q hq).1; have h2:=HBASE.out; omega))
      have HS_yw9:Hid (wi.heap.size ≤ yw9.heap.size):=Nat.le_trans (HS_yw8.out) hgb9.size
      have da_yw9:=Lib.hid (dl_yw8.out.push (b:=la == 0) hob9 hgb9)
      have k9_0:=(cell_grown hgb9 (cell_below (cell_below y0 hq6) hq8) (by intro e; have h1:=HNE.out _ e.symm; simp at h1))
      have k9_1:=(cell_grown hgb9 (cell_below (cell_below y1 hq6) hq8) (by intro e; have h1:=HNE.out _ e.symm; simp at h1))
      have k9_2:=(cell_grown hgb9 (cell_below (cell_below y2 hq6) hq8) (by intro e; have h1:=HNE.out _ e.symm; simp at h1))
      have k9_3:=(cell_grown hgb9 (cell_below (cell_below y3 hq6) hq8) (by intro e; have h1:=HNE.out _ e.symm; simp at h1))
      refine HKK.out _ _ (⟨k9_0,k9_1,k9_2,k9_3⟩) (fun hH2 => ?_)
      clear HKK K
      replace hHeld:=hH2
      clear hH2
      try simp only [jA,jB,jC,Act.put,jD,jE,jF]
      refine tk 7 ?_
      try simp only [jA,jB,jC,Act.put,jD,jE,jF]
      refine wpAnyH_ready (rs := [8]) (by kernel_rfl) (by simp) ?_
      refine (AllReadyH.cons rfl (fun K hK => ?_) AllReadyH.nil)
      have zs:=(da_yw9.out.blk).cell 2
      have fs:=(da_yw9.out.blk).frozen 2
      simp at zs
      have HKK:=Lib.hid hK
      clear hK
      go_simp
      obtain ⟨yw10,hv⟩:∃ v,v=yw9.setCell ⟨g,2,none⟩ (.slice A9 (l.length+1) c9):=⟨_,rfl⟩
      rw [← hv]
      have dl_yw10:=Lib.hid (da_yw9.out.set)
      rw [← hv] at dl_yw10
      have hgv:yw9.grownBy yw10 (some g):=by rw [hv]; exact only_setCell (grown_id _ _) (.inl rfl) _
      clear hv zs fs
      refine HKK.out _ _ (⟨(cell_grown hgv k9_0 (by intro e; have e:=Option.some.inj e; have h1:=HGT.out; simp at e; omega)),(cell_grown hgv k9_1 (by intro e; have e:=Option.some.inj e; have h1:=HGT.out; simp at e; omega)),(cell_grown hgv k9_2 (by intro e; have e:=Option.some.inj e; have h1:=HGT.out; simp at e; omega)),(cell_grown hgv k9_3 (by intro e; have e:=Option.some.inj e; have h1:=HGT.out; simp at e; omega))⟩) (fun hH2 => ?_)
      clear HKK K
      replace hHeld:=hH2
      clear hH2
      try simp only [jA,jB,jC,Act.put,jD,jE,jF]
      refine wpAnyH_done (by kernel_rfl) ?_ _
      clear hHeld
      go_wp2_with fail
      go_roundw
      case rel => exact ⟨k+1,_,l ++ [decide (la=0)],by omega,by go_num,by rw [List.length_append,HLK.out]; rfl,(by show _=_; rw [HTK.out, ← hEQ.out]),dl_yw10.out⟩
      case measure => simp [intOf]; omega
     ·have HKK:=Lib.hid hK
      clear hK
      go_simp
      obtain ⟨yw11,hWn⟩:∃ v,v=yw6.alloc (.cells #[.bool (la == 0)] 4):=⟨_,rfl⟩
      obtain ⟨bb,hg⟩:∃ n,n=yw6.heap.size:=⟨_,rfl⟩
      rw [← hWn, ← hg]
      have hb11:Below yw6.heap.size yw6 yw11:=by rw [hWn]; exact (below_al (Below.refl _ _):Below _ _ (yw6.alloc (.cells #[.bool (la == 0)] 4)))
      have hq11:Below yw6.heap.size yw6 yw11:=hb11
      have lt_yw11:Hid (RBools yw11 (some ⟨bb,0,none⟩) [la == 0]):=by show RBools _ _ _; rw [hWn,hg]; exact rbools_lit yw6 #[.bool (la == 0)] 4 (l := [la == 0]) rfl
      have HHbb:Hid (bb=yw6.heap.size):=by show _=_; exact hg
      have HGbb:Hid (wi.heap.size ≤ bb):=by show _ ≤ _; rw [hg]; exact HS_yw6.out
      have HB_yw11:=Lib.hid ((HB_yw6.out).trans (hq11.mono (Below.size (HB_yw6.out))))
      have HS_yw11:Hid (wi.heap.size ≤ yw11.heap.size):=Nat.le_trans (HS_yw6.out) hq11.size
      have dl_yw11:=Lib.hid (dl_yw6.out.below hq11)
      clear hWn hg hb11
      refine HKK.out _ _ (⟨(cell_below (cell_below y0 hq6) hq11),(cell_below (cell_below y1 hq6) hq11),(cell_below (cell_below y2 hq6) hq11),(cell_below (cell_below y3 hq6) hq11)⟩) (fun hH2 => ?_)
      clear HKK K
      replace hHeld:=hH2
      clear hH2
      try simp only [jA,jB,jC,Act.put,jD,jE,jF]
      refine wpAnyH_ready (rs := [1]) (by kernel_rfl) (by simp) ?_
      refine (AllReadyH.cons rfl (fun K hK => ?_) AllReadyH.nil)
      have zc2:=dl_yw11.out.blk.cell 2
      simp at zc2
      have HKK:=Lib.hid hK
      clear hK
      go_simp
      refine HKK.out _ _ (⟨(cell_below (cell_below y0 hq6) hq11),(cell_below (cell_below y1 hq6) hq11),(cell_below (cell_below y2 hq6) hq11),(cell_below (cell_below y3 hq6) hq11)⟩) (fun hH2 => ?_)
      clear HKK K
      replace hHeld:=hH2
      clear hH2
      try simp only [jA,jB,jC,Act.put,jD,jE,jF]
      clear zc2
      refine wpAnyH_ready (rs := [6]) (by kernel_rfl) (by simp) ?_
      refine (AllReadyH.cons rfl (fun K hK => ?_) AllReadyH.nil)
      have HKK:=Lib.hid hK
      clear hK
      have how13:=dl_yw11.out.own
      refine step_append_any _ (by rfl) _ _ _ (by rfl) (g+1) 4 i0 (.bool false) 1 1 Tryz.underlying37 hi0 hz00 hz10 hz20 rfl (by decide) _ l.length (bools l) (by rfl) how13 yw11.heap.size (some ⟨bb,0,none⟩) 1 1 [.bool (la == 0)] (by rfl) (show Reads _ _ 1 _ 1 _ from lt_yw11.out) (by intro u hu; simp at hu; subst hu; rfl) (by unfold maxLen; have:=HLK.out; omega) (by have:=HLK.out; omega) (by have h1:=HGT.out; have h2:=HTS.out; have h3:=HS_yw11.out; omega) ?_
      intro v13 yw13 hob13 hgb13 hvb13
      obtain ⟨A13,c13,rfl⟩:=own_form hob13
      have HB_yw13:=Lib.hid ((HB_yw11.out).grown hgb13 (Below.size (HB_yw11.out)) (fun q hq => by have h1:=(how13.lt q hq).1; have h2:=HBASE.out; omega))
      have HS_yw13:Hid (wi.heap.size ≤ yw13.heap.size):=Nat.le_trans (HS_yw11.out) hgb13.size
      have da_yw13:=Lib.hid (dl_yw11.out.push (b:=la == 0) hob13 hgb13)
      have k13_0:=(cell_grown hgb13 (cell_below (cell_below y0 hq6) hq11) (by intro e; have h1:=HNE.out _ e.symm; simp at h1))
      have k13_1:=(cell_grown hgb13 (cell_below (cell_below y1 hq6) hq11) (by intro e; have h1:=HNE.out _ e.symm; simp at h1))
      have k13_2:=(cell_grown hgb13 (cell_below (cell_below y2 hq6) hq11) (by intro e; have h1:=HNE.out _ e.symm; simp at h1))
      have k13_3:=(cell_grown hgb13 (cell_below (cell_below y3 hq6) hq11) (by intro e; have h1:=HNE.out _ e.symm; simp at h1))
      refine HKK.out _ _ (⟨k13_0,k13_1,k13_2,k13_3⟩) (fun hH2 => ?_)
      clear HKK K
      replace hHeld:=hH2
      clear hH2
      try simp only [jA,jB,jC,Act.put,jD,jE,jF]
      refine tk 7 ?_
      try simp only [jA,jB,jC,Act.put,jD,jE,jF]
      refine wpAnyH_ready (rs := [8]) (by kernel_rfl) (by simp) ?_
      refine (AllReadyH.cons rfl (fun K hK => ?_) AllReadyH.nil)
      have zs:=(da_yw13.out.blk).cell 2
      have fs:=(da_yw13.out.blk).frozen 2
      simp at zs
      have HKK:=Lib.hid hK
      clear hK
      go_simp
      obtain ⟨yw14,hv⟩:∃ v,v=yw13.setCell ⟨g,2,none⟩ (.slice A13 (l.length+1) c13):=⟨_,rfl⟩
      rw [← hv]
      have dl_yw14:=Lib.hid (da_yw13.out.set)
      rw [← hv] at dl_yw14
      have hgv:yw13.grownBy yw14 (some g):=by rw [hv]; exact only_setCell (grown_id _ _) (.inl rfl) _
      clear hv zs fs
      refine HKK.out _ _ (⟨(cell_grown hgv k13_0 (by intro e; have e:=Option.some.inj e; have h1:=HGT.out; simp at e; omega)),(cell_grown hgv k13_1 (by intro e; have e:=Option.some.inj e; have h1:=HGT.out; simp at e; omega)),(cell_grown hgv k13_2 (by intro e; have e:=Option.some.inj e; have h1:=HGT.out; simp at e; omega)),(cell_grown hgv k13_3 (by intro e; have e:=Option.some.inj e; have h1:=HGT.out; simp at e; omega))⟩) (fun hH2 => ?_)
      clear HKK K
      replace hHeld:=hH2
      clear hH2
      try simp only [jA,jB,jC,Act.put,jD,jE,jF]
      refine wpAnyH_done (by kernel_rfl) ?_ _
      clear hHeld
      go_wp2_with fail
      go_roundw
      case rel => exact ⟨k+1,_,l ++ [decide (la=0)],by omega,by go_num,by rw [List.length_append,HLK.out]; rfl,(by show _=_; rw [HTK.out, ← hEQ.out]),dl_yw14.out⟩
      case measure => simp [intOf]; omega
   ·have hrl:k=x.loads.length:=by omega
    subst hlk
    obtain ⟨A,c,rfl⟩:=hD.out.form
    have HFE:Hid (x.p.fallback=⟨0,hT,l⟩):=by show _=_; rw [HFB1.out,hEQ.out,hrl,List.take_length]
    go_upto_region 7 with fail
    clear hlt hrl
    have c0:=hD.out.blk.cell 0
    have c1:=hD.out.blk.cell 1
    have c2:=hD.out.blk.cell 2
    simp at c0 c1 c2
    go_wp2_with (refine wpList_store_blk rfl 39 _ _ rfl (w.heap.size+1) rfl (DcM.mk 0 hT A c l).cs rfl (by kernel_rfl) (DcM.cs_one _) hD.out.pd.q rfl ?_)
    intro w5 hB5 hg5
    have hgl:=hD.out.lt
    have hb5:Below w.heap.size w w5:=hD.out.pd.bel.grown hg5 hD.out.pd.bel.size (fun k e => by injection e with e; omega)
    obtain ⟨r1,r2,r3⟩:=hD.out.dec _ (Below.refl _ _)
    have r4:=r1.other hg5 (fun ad e h => by injection h with h; have:=r3 ad e; omega)
    have HB5:=Lib.hid hB5
    have HBE:=Lib.hid hb5
    have HR:=Lib.hid r4
    have HC:=Lib.hid r2
    have HFR:Hid (∀ ad,A=some ad→w.heap.size ≤ ad.block):=fun ad e => by have:=r3 ad e; omega
    clear hB5 hg5 hb5 r1 r2 r3 r4 hgl c0 c1 c2
    go_wp2_with fail
    rw [HFE.out]
    exact dec_ret (m:=DcM.mk 0 hT A c l) rfl HB5.out HR.out HC.out HFR.out HBE.out rfl
theorem one_bool (x:Bool):∀ u ∈ (#[Value.bool x]:Array Value).toList,u.oneCell'=true:=by
 intro u hu
 simp at hu
 subst hu
 rfl
structure LYOld (y:PnM) (B:Nat):Prop where
 c:y.charge.l = [] ∨ ∀ ad,y.charge.A=some ad→ad.block < B
 h:y.heat.l = [] ∨ ∀ ad,y.heat.A=some ad→ad.block < B
 s:y.start.l = [] ∨ ∀ ad,y.start.A=some ad→ad.block < B
theorem RInts.old {w:World} {m:IntsM} (h:RInts w m.A m.l):m.l = [] ∨ ∀ ad,m.A=some ad→ad.block < w.heap.size:=by
 by_cases e:m.l = []
 ·exact .inl e
 ·exact .inr fun ad hA => h.lt e ad hA
theorem LY.old {y:PnM} {t:Nat} {wr:World} (h:LY y t wr):LYOld y wr.heap.size:=⟨h.r.charge.old,h.r.heat.old,h.r.start.old⟩
theorem RInts.oldG {w w':World} {m:IntsM} {g B:Nat} (h:RInts w m.A m.l) (ho:m.l = [] ∨ ∀ ad,m.A=some ad→ad.block < B) (hg:w.grownBy w' (some g)) (hB:B ≤ g):RInts w' m.A m.l:=by
 rcases ho with ho | ho
 ·rw [ho]; exact RInts.nil
 ·exact h.other hg fun ad e h => by injection h with h; have:=ho ad e; omega
theorem LY.grown {y:PnM} {t g B:Nat} {wr w1:World} (h:LY y t wr) (hg:wr.grownBy w1 (some g)) (ht:t < B) (hB:B ≤ g) (ho:LYOld y B):LY y t w1 :=
 ⟨h.p.grown hg (by intro e; injection e with e; omega),h.r.charge.oldG ho.c hg hB,h.r.heat.oldG ho.h hg hB,h.r.start.oldG ho.s hg hB⟩
def DecideOut (d:Dc) (er:Int) (w:World) (e:Ending) (w':World):Prop := ∃ v,e = .returned (.tuple #[v,.int .i64 er])∧DecOut d w v w'
theorem decide_ret {tmps:Array Value} {w W:World} {m:DcM} {t:TypeId} {er:Int} (h:Blk W (w.heap.size+1) t m.cs) (hm:RBools W m.A m.l) (hl:m.l.length ≤ m.c) (ha:∀ ad,m.A=some ad→w.heap.size ≤ ad.block) (hb:Below w.heap.size w W)
  (h2:tmps.getD 2 undef = .pointer (some ⟨w.heap.size+1,0,none⟩)) (h3:tmps.getD 3 undef = .int .i64 er) :
  bodyPost Tryz.prog Tryz.f9 (DecideOut m.d er w) .ret { tmps:=tmps,defers := [] } W:=by
 have hr:=results_cell_tmp (P:=Tryz.prog) (fn:=Tryz.f9) (i:=2) (j:=3) (ty:=39) rfl h2 (run_load_blk (by kernel_rfl) (by kernel_rfl) h)
 refine bodyPost_ret hr rfl ?_
 exact ⟨m.v,by rw [h3]; rfl,m,rfl,rfl,hm,hl,ha,hb⟩
theorem rbools_box {W W':World} {A:Option Addr} {l:List Bool} {g B:Nat} (h:RBools W A l) (hf:∀ ad,A=some ad→B ≤ ad.block) (hB:g < B) (hg:W.grownBy W' (some g)):RBools W' A l :=
 h.other hg (fun ad e h2 => by injection h2 with h2; have:=hf ad e; omega)
set_option maxRecDepth 100000 in
set_option maxHeartbeats 64000000 in
theorem decide_any (x:PbM) (w:World) (hP0:RPb w x) (hF:x.Fit) :
  Calls Tryz.prog 9 #[x.v] w (DecideOut x.p.dec x.p.bestE w):=by
 have hP:=Lib.hid hP0
 have hck0:=fun W (h:RPb W x) => pcheck_any x W h hF
 have hbe:=fun W (h:RPb W x) => best_any x W h hF
 have hfb:=fun (hc:x.p.chk=0) W (h:RPb W x) => fallback_any x W h hc
 have hst0:=PD.start x DcM.zero 39 w
 simp only [PbM.v]
 obtain ⟨W,hW⟩:∃ W,W=(w.alloc (.cells x.cs 31)).alloc (.cells #[.int .i64 0,.int .i64 0,.slice none 0 0] 39):=⟨_,rfl⟩
 simp only [PbM.cs] at hW
 rw [show (w.alloc (.cells x.cs 31)).alloc (.cells DcM.zero.cs 39)=W from hW.symm] at hst0
 have hst:=Lib.hid hst0
 have hWH:=Lib.hid hW
 clear hst0 hW hP0
 by_cases hc:x.p.chk=0
 ·rw [hc] at hck0
  have HCK:=Lib.hid hck0
  have HFB:=Lib.hid (hfb hc)
  have hd0:=fun h => Pb.dec_best (p:=x.p) h
  have hd1:=fun h => Pb.dec_none (p:=x.p) hc h
  have hfe:=fun h => Pb.feasible (p:=x.p) (Pb.best_top h).2.2.1
  have hnn:=Pb.nbd (Pb.good hc)
  have hl4:=Pb.loads4 (Pb.good hc)
  generalize x.p.bestE=be at *
  generalize x.p.best=bp at *
  generalize x.p.dec=dd at *
  have HBE:=Lib.hid hbe
  have HD0:=Lib.hid hd0
  have HD1:=Lib.hid hd1
  have HFE:Hid (be=0→0 < bp.charge.length∧0 < bp.heat.length∧bp.start.length ≤ 4):=fun h => by
   obtain ⟨e1,e2,e3,_⟩:=hfe h
   omega
  clear hck0 hbe hfb hd0 hd1 hfe hnn hl4 hc hF
  go_enter Tryz.func9,Tryz.ntmps9
  go_upto_region 1 with fail
  rw [← hWH.out]
  clear hWH
  go_wp2_with (refine wpList_load_problemG (by rfl) _ rfl w.heap.size rfl x hst.out.p ?_)
  refine (HCK.out _ (hP.out.below hst.out.bel)).mono ?_
  rintro e w1 ⟨rfl,hb1⟩
  have HX1:=Lib.hid (hst.out.below hb1)
  clear hb1 hst HCK
  go_upto_region 4 with fail
  go_wp2_with (refine wpList_load_problemG (by rfl) _ rfl w.heap.size rfl x HX1.out.p ?_)
  refine (HBE.out _ (hP.out.below HX1.out.bel)).mono ?_
  rintro e w5 ⟨m1,hm1,rfl,hr1,hf1,_,hb5⟩
  have HX5:=Lib.hid (HX1.out.below hb5)
  clear hb5 HX1 HBE
  go_wp2_with (refine wpList_store_blk rfl 48 _ _ rfl w5.heap.size rfl m1.cs rfl (by kernel_rfl) (PnM.cs_one _) (Blk.new w5 _ _) rfl ?_)
  intro w6 hB6 hg6
  have hs6:Below w5.heap.size w5 w6:=((Below.refl w5.heap.size w5).alloc (Nat.le_refl _) (.cells #[.slice none 0 0,.slice none 0 0,.slice none 0 0] 48)).grown hg6 (by simp) (fun k e => by injection e with e; omega)
  obtain ⟨t5,ht⟩:∃ t,t=w5.heap.size:=⟨_,rfl⟩
  have HX6:=Lib.hid (HX5.out.below hs6)
  have HY6:=Lib.hid (ly_store hr1 hs6 hB6)
  rw [← ht] at HY6
  have HM1:=Lib.hid hm1
  have HT:=Lib.hid ht
  have HTL:Hid (t5 < w6.heap.size):=by show t5 < _; exact HY6.out.p.lt
  clear hg6 hs6 hB6 hr1 hf1 hm1 ht HX5
  go_upto_region 5 with fail
  rw [← HT.out]
  clear HT
  by_cases h0:be=0
  ·have q0:(be != 0)=false:=by simp [h0]
   subst h0
   obtain ⟨f1,f2,f3⟩:=HFE.out rfl
   rw [← HM1.out] at f1 f2 f3
   have f1:0 < m1.charge.l.length:=f1
   have f2:0 < m1.heat.l.length:=f2
   have f3:m1.start.l.length ≤ 4:=f3
   have HDD:=Lib.hid (HD0.out rfl)
   obtain ⟨bC,oC,hAC,hbC,s0⟩:=HY6.out.r.charge.at' f1
   obtain ⟨bH,oH,hAH,hbH,s1⟩:=HY6.out.r.heat.at' f2
   have HCH:Hid (dd=⟨m1.charge.l[0],m1.heat.l[0],m1.start.l.map fun s => decide (s=0)⟩):=by
    show _=_
    rw [HDD.out, ← HM1.out]
    show Dc.mk (m1.charge.l.getD 0 0) (m1.heat.l.getD 0 0) _=_
    rw [getD_at _ f1,getD_at _ f2]
    rfl
   generalize m1.charge.l[0]=cc at *
   generalize m1.heat.l[0]=hh at *
   have d0:=HY6.out.p.cell 0
   have d1:=HY6.out.p.cell 1
   have d2:=HY6.out.p.cell 2
   simp [PnM.cs] at d0 d1 d2
   simp at s0 s1
   rw [hAC] at d0
   rw [hAH] at d1
   have HBS:=Lib.hid (And.intro hbC hbH)
   clear HD0 HD1 HFE HFB HDD hbC hbH hAC hAH
   go_upto_region 7 with fail
   clear q0
   go_cut [7] (fun s7 wx => ∃ g:Nat,s7 = .pointer (some ⟨g,0,none⟩)∧Hid (DL x w wx g cc hh (.slice none 0 0) [])∧Hid (LY m1 t5 wx)∧Hid (w6.heap.size ≤ g))
   case first =>
    have HOLD:=Lib.hid (LY.old HY6.out)
    refine wp_region_held_drew (S:=(fun w' => w'.cell? ⟨t5,0,none⟩=some (.slice (some ⟨bC,oC,none⟩) m1.charge.l.length m1.charge.c)∧w'.cell? ⟨t5,1,none⟩=some (.slice (some ⟨bH,oH,none⟩) m1.heat.l.length m1.heat.c)∧w'.cell? ⟨bC,oC,none⟩=some (.int .i64 cc)∧w'.cell? ⟨bH,oH,none⟩=some (.int .i64 hh))) (by kernel_rfl) (⟨d0,d1,s0,s1⟩) (fun hHeld => ?_)
    refine tk 0 ?_
    try simp only [jA,jB,Act.put,jD,jE,jF]
    refine tk 1 ?_
    try simp only [jA,jB,jC,Act.put,jD,jE,jF]
    refine tk 2 ?_
    try simp only [jA,jB,jC,Act.put,jD,jE,jF]
    refine tk 3 ?_
    try simp only [jA,jB,jC,Act.put,jD,jE,jF]
    refine tk 4 ?_
    try simp only [jA,jB,jC,Act.put,jD,jE,jF]
    refine tk 5 ?_
    try simp only [jA,jB,jC,Act.put,jD,jE,jF]
    refine tk 6 ?_
    try simp only [jA,jB,jC,Act.put,jD,jE,jF]
    refine tk 7 ?_
    try simp only [jA,jB,jC,Act.put,jD,jE,jF]
    refine tk 8 ?_
    try simp only [jA,jB,jC,Act.put,jD,jE,jF]
    refine wpAnyH_ready (rs := [9]) (by kernel_rfl) (by simp) ?_
    refine (AllReadyH.cons rfl (fun K hK => ?_) AllReadyH.nil)
    have HKK:=Lib.hid hK
    clear hK
    go_simp
    obtain ⟨yw1,hWn⟩:∃ v,v=(w6.alloc (.cells #[.int .i64 0,.int .i64 0,.slice none 0 0] 39)).drew:=⟨_,rfl⟩
    obtain ⟨g,hg⟩:∃ n,n=w6.heap.size:=⟨_,rfl⟩
    rw [← hWn, ← hg]
    have hb1:Below w6.drew.heap.size w6.drew yw1:=by rw [hWn]; exact (below_al (Below.refl _ _):Below _ _ (w6.drew.alloc (.cells #[.int .i64 0,.int .i64 0,.slice none 0 0] 39)))
    have hq1:Below w6.heap.size w6 yw1:=below_tr (Below.drew (Below.refl w6.heap.size w6)) hb1
    have bk_yw1:Hid (Blk yw1 g 39 #[.int .i64 0,.int .i64 0,.slice none 0 0]):=by show Blk _ _ _ _; rw [hWn,hg]; exact Blk.new w6.drew _ _
    have HHg:Hid (g=w6.heap.size):=by show _=_; exact hg
    have HGg:Hid (w6.heap.size ≤ g):=by show _ ≤ _; rw [hg]; exact (Nat.le_refl w6.heap.size)
    have HB_yw1:=Lib.hid ((HX6.out.bel).trans (hq1.mono (Below.size (HX6.out.bel))))
    have HS_yw1:Hid (w6.heap.size ≤ yw1.heap.size):=Nat.le_trans ((Nat.le_refl w6.heap.size)) hq1.size
    have pd_yw1:=Lib.hid (HX6.out.below hq1)
    have ly_yw1:=Lib.hid (HY6.out.below hq1)
    clear hWn hg hb1
    refine HKK.out _ _ (⟨(cell_below d0 hq1),(cell_below d1 hq1),(cell_below s0 hq1),(cell_below s1 hq1)⟩) (fun hH2 => ?_)
    clear HKK K
    replace hHeld:=hH2
    clear hH2
    try simp only [jA,jB,jC,Act.put,jD,jE,jF]
    refine wpAnyH_ready (rs := [10]) (by kernel_rfl) (by simp) ?_
    refine (AllReadyH.cons rfl (fun K hK => ?_) AllReadyH.nil)
    have z0:=bk_yw1.out.cell 0
    have f0:=bk_yw1.out.frozen 0
    have z1:=bk_yw1.out.cell 1
    have f1:=bk_yw1.out.frozen 1
    have z2:=bk_yw1.out.cell 2
    have f2:=bk_yw1.out.frozen 2
    simp at z0 z1 z2
    have HKK:=Lib.hid hK
    clear hK
    go_simp
    obtain ⟨yw2,hv⟩:∃ v,v=((yw1.setCell ⟨g,0,none⟩ (.int .i64 cc)).setCell ⟨g,1,none⟩ (.int .i64 hh)).setCell ⟨g,2,none⟩ (.slice none 0 0):=⟨_,rfl⟩
    rw [← hv]
    have hgv2:yw1.grownBy yw2 (some g):=by rw [hv]; exact only_setCell (p:=⟨g,2,none⟩) (only_setCell (p:=⟨g,1,none⟩) (only_setCell (p:=⟨g,0,none⟩) (grown_id _ _) (.inl rfl) _) (.inl rfl) _) (.inl rfl) _
    have bk_yw2:Hid (Blk yw2 g 39 #[.int .i64 cc,.int .i64 hh,.slice none 0 0]):=by show Blk _ _ _ _; rw [hv]; have:=(((bk_yw1.out).set_ 0 (.int .i64 cc)).set_ 1 (.int .i64 hh)).set_ 2 (.slice none 0 0); simpa using this
    have HB_yw2:=Lib.hid ((HB_yw1.out).grown hgv2 (Below.size (HB_yw1.out)) (fun k e => by injection e with e; have h2:=HGg.out; have h3:=(HX6.out.bel).size; omega))
    have HS_yw2:Hid (w6.heap.size ≤ yw2.heap.size):=Nat.le_trans (HS_yw1.out) hgv2.size
    have pd_yw2:=Lib.hid (pd_yw1.out.grown hgv2 (fun k e => by injection e with e; have:=HX6.out.lt; have:=HGg.out; omega))
    have ly_yw2:=Lib.hid (LY.grown ly_yw1.out hgv2 HTL.out HGg.out HOLD.out)
    clear hv z0 f0 z1 f1 z2 f2
    refine HKK.out _ _ (⟨(cell_grown hgv2 (cell_below d0 hq1) (by intro e; have e:=Option.some.inj e; have h1:=HGg.out; have h2:=HTL.out; simp at e; omega)),(cell_grown hgv2 (cell_below d1 hq1) (by intro e; have e:=Option.some.inj e; have h1:=HGg.out; have h2:=HTL.out; simp at e; omega)),(cell_grown hgv2 (cell_below s0 hq1) (by intro e; have e:=Option.some.inj e; have h1:=HGg.out; have h2:=HBS.out.1; simp at e; omega)),(cell_grown hgv2 (cell_below s1 hq1) (by intro e; have e:=Option.some.inj e; have h1:=HGg.out; have h2:=HBS.out.2; simp at e; omega))⟩) (fun hH2 => ?_)
    clear HKK K
    replace hHeld:=hH2
    clear hH2
    try simp only [jA,jB,jC,Act.put,jD,jE,jF]
    refine wpAnyH_done (by kernel_rfl) ?_ _
    have HFN:=Lib.hid (DL.start pd_yw2.out bk_yw2.out (by have:=HX6.out.lt; have:=HGg.out; omega))
    clear hHeld
    go_wp2_with fail
    go_meet
    exact ⟨g,rfl,HFN.out,ly_yw2.out,HGg.out⟩
   case rest =>
    obtain ⟨g,rfl,hD0,hY0,hGG⟩:=hcut
    clear d0 d1 d2 s0 s1 f1 f2
    have d2:=hY0.out.p.cell 2
    simp [PnM.cs] at d2
    go_wp2_with fail
    clear d2
    have HSB:Hid (m1.start.l ≠ []→∀ ad,m1.start.A=some ad→ad.block < g):=fun h ad e => Nat.lt_of_lt_of_le (HY6.out.r.start.lt h ad e) hGG.out
    go_loopw [38] (fun s38 wr => ∃ (k:Nat) (v:Value) (l:List Bool),k ≤ m1.start.l.length∧s38 = .int .i64 k∧l.length=k∧Hid (l=(m1.start.l.take k).map fun s => decide (s=0))∧Hid (DL x w wr g cc hh v l)∧Hid (RInts wr m1.start.A m1.start.l))
     (fun s38 _ => m1.start.l.length - (intOf s38).toNat)
    case atStart => exact ⟨0,_, [],by omega,rfl,rfl,rfl,hD0.out,hY0.out.r.start⟩
    case round =>
     clear hD0 hY0 HX6 HY6
     obtain ⟨k,v,l,hk,rfl,hlk,hEQ,hD,hRS⟩:=hrel
     obtain ⟨wo,hwo⟩:∃ wo:World,wo=wr:=⟨_,rfl⟩
     subst hwo
     have HLK:=Lib.hid hlk
     by_cases hlt:k < m1.start.l.length
     ·obtain ⟨bS,oS,hAS,_,z0⟩:=hRS.out.at' hlt
      have HTK:=Lib.hid (show ((m1.start.l.take (k+1)).map fun s => decide (s=0))=((m1.start.l.take k).map fun s => decide (s=0)) ++ [decide (m1.start.l[k]=0)] by rw [List.take_succ_eq_append_getElem hlt,List.map_append]; rfl)
      have HNS:Hid (∀ ad,m1.start.A=some ad→ad.block < g):=HSB.out (by intro e; rw [e] at hlt; simp at hlt)
      have i1:(0:Int) ≤ (k:Int):=by omega
      have i2:(k:Int) < (m1.start.l.length:Int):=by omega
      generalize m1.start.l[k]=sk at *
      obtain ⟨A,c,rfl⟩:=hD.out.form
      have c2:=hD.out.blk.cell 2
      have c2f:=hD.out.blk.frozen 2
      simp at c2
      obtain ⟨i0,hi0,hz00,hz10,hz20⟩:=info_parts Tryz.infoBool
      have HAS:=Lib.hid hAS
      rw [hAS]
      clear hAS hlk
      have HHG:Hid (g+1 ≤ wo.heap.size):=hD.out.blk.lt
      go_upto_region 11 with fail
      clear z0
      go_wp2_with (at_builtin; refine wpList_append_newGH _ wo wo.heap.size rfl rfl _ _ 37 rfl (g+1) 4 i0 (.bool false) 1 1 Tryz.underlying37 hi0 hz00 hz10 hz20 rfl (by decide) (by decide) _ l.length (bools l) rfl hD.out.own #[.bool (sk == 0)] rfl (one_bool _) rfl rfl (by have:=HLK.out; omega) HHG.out ?_)
      intro v2 w2 hown2 hg2 hv2
      obtain ⟨A2,e2,rfl⟩:=own_form hown2
      have HDA:=Lib.hid (hD.out.push (b:=sk == 0) hown2 hg2)
      have HR2:=Lib.hid (hRS.out.other hg2 (fun ad e h => hD.out.away (Nat.lt_succ_of_lt (HNS.out ad e)) h))
      clear hown2 hg2 hv2 c2 c2f
      have c2:=HDA.out.blk.cell 2
      have c2f:=HDA.out.blk.frozen 2
      simp at c2
      go_wp2_with fail
      go_roundw
      case rel => exact ⟨k+1,_,l ++ [decide (sk=0)],by omega,by go_num,by rw [List.length_append,HLK.out]; rfl,(by show _=_; rw [HTK.out, ← hEQ.out]),HDA.out.set,(by have hh2:=HR2.out.other (only_setCell (p:=⟨g,2,none⟩) (g:=g) (grown_id w2 _) (.inl rfl) (.slice A2 (l.length+1) e2)) (fun ad e h => by injection h with h; have:=HNS.out ad e; omega); rw [HAS.out] at hh2; exact hh2)⟩
      case measure => simp [intOf]; omega
     ·have hrl:k=m1.start.l.length:=by omega
      subst hlk
      obtain ⟨A,c,rfl⟩:=hD.out.form
      have HFE:Hid (dd=⟨cc,hh,l⟩):=by show _=_; rw [HCH.out,hEQ.out,hrl,List.take_length]
      go_upto_region 13 with fail
      clear hlt hrl
      have c0:=hD.out.blk.cell 0
      have c1:=hD.out.blk.cell 1
      have c2:=hD.out.blk.cell 2
      simp at c0 c1 c2
      go_wp2_with (refine wpList_store_blk rfl 39 _ _ rfl (w.heap.size+1) rfl (DcM.mk cc hh A c l).cs rfl (by kernel_rfl) (DcM.cs_one _) hD.out.pd.q rfl ?_)
      intro w8 hB8 hg8
      have hgl:=hD.out.lt
      have hb8:Below w.heap.size w w8:=hD.out.pd.bel.grown hg8 hD.out.pd.bel.size (fun k e => by injection e with e; omega)
      obtain ⟨r1,r2,r3⟩:=hD.out.dec _ (Below.refl _ _)
      have r4:=r1.other hg8 (fun ad e h => by injection h with h; have:=r3 ad e; omega)
      have HB8:=Lib.hid hB8
      have HBE2:=Lib.hid hb8
      have HR:=Lib.hid r4
      have HC:=Lib.hid r2
      have HFR:Hid (∀ ad,A=some ad→w.heap.size ≤ ad.block):=fun ad e => by have:=r3 ad e; omega
      clear hB8 hg8 hb8 r1 r2 r3 r4 hgl c0 c1 c2
      go_wp2_with fail
      rw [HFE.out]
      exact decide_ret (m:=DcM.mk cc hh A c l) HB8.out HR.out HC.out HFR.out HBE2.out rfl rfl
  ·have q0:(be != 0)=true:=by simp [h0]
   have HDD:=Lib.hid (HD1.out h0)
   clear h0 HD0 HD1 HFE
   go_upto_region 6 with fail
   clear q0
   go_wp2_with (refine wpList_load_problemG (by rfl) _ rfl w.heap.size rfl x HX6.out.p ?_)
   refine (HFB.out _ (hP.out.below HX6.out.bel)).mono ?_
   rintro e w7 ⟨_,rfl,m,rfl,hmd,hrm,hml,hma,hb7⟩
   have HX7:=Lib.hid (HX6.out.below hb7)
   have hbx:=HX6.out.bel.size
   have hlx:=HX6.out.lt
   have HMD:=Lib.hid hmd
   have HRM:=Lib.hid hrm
   have HML:=Lib.hid hml
   have HMA:Hid (∀ ad,m.A=some ad→w.heap.size+2 ≤ ad.block):=fun ad e => by have:=hma ad e; omega
   clear hb7 HX6 hmd hrm hml hma hbx hlx
   simp only [DcM.v]
   go_wp2_with (refine wpList_store_blk rfl 39 _ _ rfl (w.heap.size+1) rfl m.cs rfl (by kernel_rfl) (DcM.cs_one _) HX7.out.q rfl ?_)
   intro w8 hB8 hg8
   have hb8:Below w.heap.size w w8:=HX7.out.bel.grown hg8 HX7.out.bel.size (fun k e => by injection e with e; omega)
   have HB8:=Lib.hid hB8
   have HBE2:=Lib.hid hb8
   have HR:=Lib.hid (rbools_box HRM.out HMA.out (Nat.lt_succ_self _) hg8)
   clear hB8 hg8 hb8
   go_wp2_with fail
   rw [HDD.out, ← HMD.out]
   exact decide_ret (m:=m) HB8.out HR.out HML.out (fun ad e => by have:=HMA.out ad e; omega) HBE2.out rfl rfl
 ·have hdz:x.p.dec=Dc.zero:=by unfold Pb.dec; rw [if_pos hc]
  have hbz:x.p.bestE=x.p.chk:=(Pb.best_chk hc).2
  have q0:(x.p.chk != 0)=true:=by simp [hc]
  rw [hdz,hbz]
  generalize x.p.chk=ck at *
  have HCK:=Lib.hid hck0
  clear hck0 hbe hfb hdz hbz hc hF
  go_enter Tryz.func9,Tryz.ntmps9
  go_upto_region 1 with fail
  rw [← hWH.out]
  clear hWH
  go_wp2_with (refine wpList_load_problemG (by rfl) _ rfl w.heap.size rfl x hst.out.p ?_)
  refine (HCK.out _ (hP.out.below hst.out.bel)).mono ?_
  rintro e w1 ⟨rfl,hb1⟩
  have HX1:=Lib.hid (hst.out.below hb1)
  clear hb1 hst HCK
  go_upto_region 3 with fail
  clear q0
  go_wp2_with (refine wpList_store_blk rfl 39 _ _ rfl (w.heap.size+1) rfl DcM.zero.cs rfl (by kernel_rfl) (DcM.cs_one _) HX1.out.q rfl ?_)
  intro w8 hB8 hg8
  have hb8:Below w.heap.size w w8:=HX1.out.bel.grown hg8 HX1.out.bel.size (fun k e => by injection e with e; omega)
  have HB8:=Lib.hid hB8
  have HBE2:=Lib.hid hb8
  clear hB8 hg8 hb8
  go_wp2_with fail
  exact decide_ret (m:=DcM.zero) HB8.out RBools.nil (Nat.le_refl _) (fun ad e => by cases e) HBE2.out rfl rfl
theorem bools_at {l:List Bool} {k:Nat} (h:k < l.length):l.getD k false=l[k]:=by simp [List.getD,h]
theorem PbM.load_at {x:PbM} {k:Nat} (h:k < x.loads.length):x.p.loads.getD k Ld.zero=x.loads[k].r:=by
 show (x.loads.map LdM.r).getD k Ld.zero=_
 rw [List.getD_eq_getElem?_getD,List.getElem?_map,List.getElem?_eq_getElem h]
 rfl
theorem PbM.loads_len (x:PbM):x.p.loads.length=x.loads.length:=by simp [PbM.p]
set_option maxRecDepth 100000 in
set_option maxHeartbeats 64000000 in
theorem possibleD_any (x:PbM) (d:DcM) (w:World) (hP0:RPb w x) (hD0:RBools w d.A d.l) (hl4:x.loads.length ≤ 1000) :
  Calls Tryz.prog 35 #[x.v,d.v] w fun e w' => e = .returned (.int .i64 (x.p.canDo d.d))∧Below w.heap.size w w':=by
 have hP:=Lib.hid hP0
 have hD:=Lib.hid hD0
 have hst0:=PD.start x d 39 w
 simp only [PbM.v,DcM.v]
 obtain ⟨W,hW⟩:∃ W,W=(w.alloc (.cells x.cs 31)).alloc (.cells #[.int .i64 d.charge,.int .i64 d.heat,.slice d.A d.l.length d.c] 39):=⟨_,rfl⟩
 simp only [PbM.cs] at hW
 rw [show (w.alloc (.cells x.cs 31)).alloc (.cells d.cs 39)=W from hW.symm] at hst0
 have hst:=Lib.hid hst0
 have hWH:=Lib.hid hW
 have c13:=hst0.p.cell 13
 have c17:=hst0.p.cell 17
 have d1:=hst0.q.cell 1
 have d2:=hst0.q.cell 2
 simp [PbM.cs] at c13 c17
 simp [DcM.cs] at d1 d2
 have hlen:=PbM.loads_len x
 have hcd:x.p.canDo d.d=if d.l.length ≠ x.loads.length then 3 else if d.heat < 0 ∨ x.steps < d.heat then 2 else if x.p.clash d.d x.loads.length=true then 2 else 0:=by
  unfold Pb.canDo
  rw [hlen]
  rfl
 have HCD:=Lib.hid hcd
 have HLN:=Lib.hid hlen
 clear hst0 hW hP0 hD0 hcd hlen
 by_cases h1:d.l.length=x.loads.length
 ·have q1:((d.l.length:Int) != (x.loads.length:Int))=false:=by rw [bne_eq_false_iff_eq]; omega
  have HL:=Lib.hid h1
  by_cases h2:d.heat < 0 ∨ x.steps < d.heat
  ·have HR:=Lib.hid (show x.p.canDo d.d=2 by rw [HCD.out,if_neg (fun e => e h1),if_pos h2])
   clear h1
   rcases h2 with h2 | h2
   ·go_enter Tryz.func35,Tryz.ntmps35
    go_upto_region 1 with fail
    rw [← hWH.out]
    clear hWH
    go_wp2_with fail
    go_ret
    exact ⟨by rw [HR.out]; rfl,hst.out.bel⟩
   ·by_cases h3:d.heat < 0
    ·go_enter Tryz.func35,Tryz.ntmps35
     go_upto_region 1 with fail
     rw [← hWH.out]
     clear hWH
     go_wp2_with fail
     go_ret
     exact ⟨by rw [HR.out]; rfl,hst.out.bel⟩
    ·go_enter Tryz.func35,Tryz.ntmps35
     go_upto_region 1 with fail
     rw [← hWH.out]
     clear hWH
     go_wp2_with fail
     go_ret
     exact ⟨by rw [HR.out]; rfl,hst.out.bel⟩
  ·have h3:¬ d.heat < 0:=by omega
   have h4:¬ x.steps < d.heat:=by omega
   have HCN:Hid (x.p.canDo d.d=if x.p.clash d.d x.loads.length=true then 2 else 0):=by show _=_; rw [HCD.out,if_neg (fun e => e h1),if_neg h2]
   clear h1 h2
   go_enter Tryz.func35,Tryz.ntmps35
   go_upto_region 1 with fail
   rw [← hWH.out]
   clear hWH
   go_upto_region 5 with fail
   clear q1 h3 h4 c13 d1
   go_wp2_with fail
   clear c17
   go_loopw [28] (fun s28 wr => ∃ k:Nat,k ≤ x.loads.length∧s28 = .int .i64 k∧Hid (x.p.clash d.d k=false)∧Hid (PD x d 39 w wr))
    (fun s28 _ => x.loads.length - (intOf s28).toNat)
   case atStart => exact ⟨0,by omega,rfl,rfl,hst.out⟩
   case round =>
    clear hst d2
    obtain ⟨k,hk,rfl,hCL,hX⟩:=hrel
    obtain ⟨wo,hwo⟩:∃ wo:World,wo=wr:=⟨_,rfl⟩
    subst hwo
    by_cases hlt:k < x.loads.length
    ·obtain ⟨bL,oL,hAe,_,y0,y1,y2,y3⟩:=(hP.out.below hX.out.bel).loads.at' hlt
     have hkd:k < d.l.length:=by have:=HL.out; omega
     obtain ⟨bD,oD,hAD,_,z0⟩:=(hD.out.below hX.out.bel).at' hkd
     have hsucc:=Pb.clash_succ x.p d.d k
     rw [PbM.load_at hlt,show d.d.starts.getD k false=d.l[k] from bools_at hkd,hCL.out,Bool.false_or] at hsucc
     have i1:(0:Int) ≤ (k:Int):=by omega
     have i2:(k:Int) < (x.loads.length:Int):=by omega
     have i3:(k:Int) < (d.l.length:Int):=by omega
     generalize x.loads[k]=X at *
     generalize d.l[k]=db at *
     rw [hAe]
     clear hAe hCL
     go_upto_region 8 with fail
     clear y0 y1 y2 y3
     obtain ⟨wi,hwi⟩:∃ W,W=wo.alloc (.cells #[.string X.r.name,.slice X.A X.r.prof.length X.c,.int .i64 X.r.early,.int .i64 X.r.late] 54):=⟨_,rfl⟩
     obtain ⟨t6,ht6⟩:∃ n,n=wo.heap.size:=⟨_,rfl⟩
     rw [← hwi, ← ht6]
     have hX2:Hid (PD x d 39 w wi):=by show PD _ _ _ _ _; rw [hwi]; exact hX.out.alloc _
     have z0:wi.cell? ⟨bD,oD+k,none⟩=some (.bool db):=by rw [hwi]; exact cell_below z0 (below_al (Below.refl _ _))
     have hkb:Blk wi t6 54 #[.string X.r.name,.slice X.A X.r.prof.length X.c,.int .i64 X.r.early,.int .i64 X.r.late]:=by rw [hwi,ht6]; exact Blk.new _ _ _
     have y2:=hkb.cell 2
     simp at y2
     have d2:=hX2.out.q.cell 2
     simp [DcM.cs] at d2
     rw [hAD] at d2
     clear hwi ht6 hkb hX hAD
     by_cases hbad:db=true∧X.r.early ≠ 0
     ·obtain ⟨rfl,hbe⟩:=hbad
      have HRT:Hid (x.p.canDo d.d=2):=by
       show _=_
       rw [HCN.out,if_pos (Pb.clash_le (k:=k+1) (by rw [hsucc]; simp [hbe]) (by omega))]
      have q5:(X.r.early != 0)=true:=by rw [bne_iff_ne]; exact hbe
      clear hsucc hbe
      go_wp2_with fail
      go_ret
      exact ⟨by rw [HRT.out]; rfl,hX2.out.bel⟩
     ·have HCL2:Hid (x.p.clash d.d (k+1)=false):=by
       show _=_
       rw [hsucc]
       cases db
       ·rfl
       ·have he:X.r.early=0:=Classical.byContradiction fun e => hbad ⟨rfl,e⟩
        simp [he]
      cases db
      ·clear hsucc hbad
       go_wp2_with fail
       go_roundw
       case rel => exact ⟨k+1,by omega,by go_num,HCL2.out,hX2.out⟩
       case measure => simp [intOf]; omega
      ·have he:X.r.early=0:=Classical.byContradiction fun e => hbad ⟨rfl,e⟩
       have q5:(X.r.early != 0)=false:=by rw [bne_eq_false_iff_eq]; exact he
       clear hsucc hbad he
       go_wp2_with fail
       go_roundw
       case rel => exact ⟨k+1,by omega,by go_num,HCL2.out,hX2.out⟩
       case measure => simp [intOf]; omega
    ·have hrl:k=x.loads.length:=by omega
     have HRT:Hid (x.p.canDo d.d=0):=by show _=_; rw [HCN.out, ← hrl,if_neg (by rw [hCL.out]; decide)]
     go_wp2_with fail
     go_ret
     exact ⟨by rw [HRT.out]; rfl,hX.out.bel⟩
 ·have q1:((d.l.length:Int) != (x.loads.length:Int))=true:=by rw [bne_iff_ne]; omega
  have HR:=Lib.hid (show x.p.canDo d.d=3 by rw [HCD.out,if_pos h1])
  clear h1
  go_enter Tryz.func35,Tryz.ntmps35
  go_upto_region 1 with fail
  rw [← hWH.out]
  clear hWH
  go_wp2_with fail
  go_ret
  exact ⟨by rw [HR.out]; rfl,hst.out.bel⟩
end Go.Proofs.YtnppngaabfhkpaaGreat
