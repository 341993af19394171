/-
  The walks of layer 43 (optimum), part 26: slots of the reference, whole.
-/
import Derived.Test.YtnppngaabfhkpaaGreatEU24
namespace Go.Proofs.YtnppngaabfhkpaaGreat
open Go.RowKit
attribute [local go_sem ↓] Go.wp_at_zero Go.wp_at_succ
theorem Pb.bat_bd {p:Pb} (h:p.chk=0):0 ≤ p.bat.charge∧p.bat.charge ≤ 40∧0 ≤ p.bat.discharge∧p.bat.discharge ≤ 40∧0 ≤ p.room.steps∧p.room.steps ≤ 40:=by
 have g:=Pb.good h
 have gb:=(Pb.bat_good g).2
 have gr:=Rm.good (Pb.room_ok g).1
 exact ⟨gb.ch0,gb.ch1,gb.di0,gb.di1,gr.s0,gr.s1⟩
def SCut (x:PbM) (b y:PnM) (f:Bool) (w wo wx:World) (c h:Int) (g:Nat) (m:PnM):Prop :=
 m.x=y.x.push c h∧LY m g wx∧m.Fit∧m.charge.l=y.charge.l ++ [c]∧m.heat.l=y.heat.l ++ [h]∧(∀ k,k+3 ≤ wo.heap.size→PnAway y k→PnAway m k)∧SB x b y f w wx∧RPn wx b
theorem scut_mk {x:PbM} {b y:PnM} {f:Bool} {w wo wx:World} {c h:Int} {g:Nat} {A1 A2:Option Addr} {c1 c2:Nat} (hX:SB x b y f w wo) (hRb:RPn wo b) (hQ:RPn w y) (hG:y.Fit) (hc : -9223372036854775808 ≤ c∧c ≤ 9223372036854775807)
  (hBF:Below wo.heap.size wo wx) (blk:Blk wx g 48 #[.slice A1 (y.charge.l.length+1) c1,.slice A2 (y.heat.l.length+1) c2,.slice y.start.A y.start.l.length y.start.c]) (r1:RInts wx A1 (y.charge.l ++ [c])) (r2:RInts wx A2 (y.heat.l ++ [h])) (hc1:(y.charge.l ++ [c]).length ≤ c1)
  (f1:∀ ad,A1=some ad→wo.heap.size ≤ ad.block) (f2:∀ ad,A2=some ad→wo.heap.size ≤ ad.block) :
  SCut x b y f w wo wx c h g ⟨⟨A1,c1,y.charge.l ++ [c]⟩,⟨A2,c2,y.heat.l ++ [h]⟩,y.start⟩:=by
 refine ⟨rfl,⟨by simpa [PnM.cs] using blk,r1,r2,(hQ.below (hX.bel.trans (hBF.mono hX.bel.size))).start⟩,⟨hc1,hG.sc,hG.ss,?_⟩,rfl,rfl,?_,hX.below hBF,hRb.below hBF⟩
 ·intro s hs
  rcases List.mem_append.1 hs with h1 | h1
  ·exact hG.ch s h1
  ·rw [List.mem_singleton] at h1; rw [h1]; exact hc
 ·intro k hk hy
  exact ⟨.inr fun ad e => .inr (Nat.le_trans hk (f1 ad e)),.inr fun ad e => .inr (Nat.le_trans hk (f2 ad e)),hy.2.2⟩
def SAway (b b' y:PnM) (w:World):Prop:=PnAway b' w.heap.size∧∀ g,g+3 ≤ w.heap.size→PnAway b g→PnAway y g→PnAway b' g
theorem SAway.start {b y:PnM} {w:World} (h:RPn w b):SAway b b y w:=⟨PnAway.old h,fun _ _ h _ => h⟩
theorem heat_push {l:List Int} {h st:Int} (hl:∀ k,k < l.length→0 ≤ l.getD k 0∧l.getD k 0 ≤ st) (h0:0 ≤ h) (h1:h ≤ st):∀ k,k < (l ++ [h]).length→0 ≤ (l ++ [h]).getD k 0∧(l ++ [h]).getD k 0 ≤ st:=by
 intro k hk
 rw [List.length_append] at hk
 by_cases e:k < l.length
 ·rw [show (l ++ [h]).getD k 0=l.getD k 0 by simp [List.getD,List.getElem?_append_left e]]; exact hl k e
 ·have e2:k=l.length:=by simp at hk; omega
  rw [e2,show (l ++ [h]).getD l.length 0=h by simp [List.getD]]
  exact ⟨h0,h1⟩
set_option maxRecDepth 100000 in
set_option maxHeartbeats 64000000 in
theorem slots_any (x:PbM) (hF0:x.Fit) (hc:x.p.chk=0) (r:Nat):∀ (V:Pn→Prop) (b y:PnM) (f:Bool) (w:World) (_hP0:RPb w x) (_hB0:RPn w b) (_hBf:b.Fit) (_hQ0:RPn w y) (_hG0:y.Fit) (_hs:x.p.seen V f b.x) (_hl:y.heat.l.length=y.charge.l.length) (_hr:x.buy.l.length=y.charge.l.length+r) (_hhb:∀ k,k < y.heat.l.length→0 ≤ y.heat.l.getD k 0∧y.heat.l.getD k 0 ≤ x.steps),
  Calls Tryz.prog 73 #[.agg (SR.cs x b f),y.v] w (SOut x (Ve V y.x) b y w):=by
 induction r with
 | zero => exact fun V b y f w hP0 hB0 hBf hQ0 hG0 hs hl hr hhb => slots_leaf x V b y f w hP0 hB0 hBf hQ0 hG0 hF0 hc hs hl hr.symm
 | succ r ih =>
 intro V b y f w hP0 hB0 hBf hQ0 hG0 hs hl hr hhb
 have HIH:=Lib.hid ih
 have hbd:=Pb.bat_bd hc
 have hbd:0 ≤ x.bat.charge∧x.bat.charge ≤ 40∧0 ≤ x.bat.discharge∧x.bat.discharge ≤ 40∧0 ≤ x.steps∧x.steps ≤ 40:=hbd
 have hn96:x.buy.l.length ≤ 96:=(Pb.nbd (Pb.good hc)).2
 have hkl:y.x.charge.length < x.p.n:=by show y.charge.l.length < x.buy.l.length; omega
 have hll:y.x.heat.length=y.x.charge.length:=hl
 have HKL:=Lib.hid hkl
 have HLL:=Lib.hid hll
 have HR0:=Lib.hid hr
 have HHB:=Lib.hid hhb
 have HC:=Lib.hid hc
 have HS0:=Lib.hid hs
 have HW1:=Lib.hid (fun (c:Int) W (q:RInts W y.charge.A y.charge.l) => with_any y.charge.A y.charge.c y.charge.l c W q (by omega))
 have HW2:=Lib.hid (fun (h:Int) W (q:RInts W y.heat.A y.heat.l) => with_any y.heat.A y.heat.c y.heat.l h W q (by omega))
 have HPO:=Lib.hid (fun (m:PnM) W (q:RPb W x) (q2:RPn W m) (f1:m.Fit) (e1:m.charge.l.length ≤ x.buy.l.length) (e2:m.heat.l.length=m.charge.l.length) (e3:∀ k,k < m.charge.l.length→0 ≤ m.heat.l.getD k 0∧m.heat.l.getD k 0 ≤ x.steps) => possible_any x m W q q2 f1 hc e1 e2 e3)
 have hP:=Lib.hid hP0
 have hB:=Lib.hid hB0
 have hQ:=Lib.hid hQ0
 have hG:=Lib.hid hG0
 have hF:=Lib.hid hF0
 have hBF:=Lib.hid hBf
 have HL:=Lib.hid hl
 have hst0:=SB.start x b y f w
 simp only [SR.cs,PnM.v]
 obtain ⟨W,hW⟩:∃ W,W=((w.alloc (.cells #[.slice x.buy.A x.buy.l.length x.buy.c,.slice x.sell.A x.sell.l.length x.sell.c,.int .i64 x.fuse,.slice x.solar.A x.solar.l.length x.solar.c,.slice x.demand.A x.demand.l.length x.demand.c,.slice x.outside.A x.outside.l.length x.outside.c,.int .i64 x.bat.cap,.int .i64 x.bat.reserve,.int .i64 x.bat.charge,.int .i64 x.bat.discharge,.int .i64 x.bat.eff,.int .i64 x.gain,.int .i64 x.loss,.int .i64 x.steps,.int .i64 x.power,.slice x.low.A x.low.l.length x.low.c,.slice x.high.A x.high.l.length x.high.c,.slice x.LA x.loads.length x.lc,.int .i64 x.level,.int .i64 x.temp,.slice b.charge.A b.charge.l.length b.charge.c,.slice b.heat.A b.heat.l.length b.heat.c,.slice b.start.A b.start.l.length b.start.c,.bool f] 92)).alloc (.cells #[.slice y.charge.A y.charge.l.length y.charge.c,.slice y.heat.A y.heat.l.length y.heat.c,.slice y.start.A y.start.l.length y.start.c] 48)).alloc (.cells #[.slice none 0 0,.slice none 0 0,.int .i64 0,.slice none 0 0,.slice none 0 0,.slice none 0 0,.int .i64 0,.int .i64 0,.int .i64 0,.int .i64 0,.int .i64 0,.int .i64 0,.int .i64 0,.int .i64 0,.int .i64 0,.slice none 0 0,.slice none 0 0,.slice none 0 0,.int .i64 0,.int .i64 0,.slice none 0 0,.slice none 0 0,.slice none 0 0,.bool false] 92):=⟨_,rfl⟩
 rw [show ((w.alloc (.cells (SR.cs x b f) 92)).alloc (.cells y.cs 48)).alloc (.cells SRz 92)=W from hW.symm] at hst0
 have HX0:Hid (SB x b y f w W):=hst0
 have hWH:=Lib.hid hW
 have hkq:((y.charge.l.length:Int) == (x.buy.l.length:Int))=false:=by rw [beq_eq_false_iff_ne]; omega
 have a1:IntKind.i64.wrap (-x.bat.discharge) = -x.bat.discharge:=IntWalk.i64_in _ (by omega)
 have k0:=HX0.out.s.cell 0
 have k9:=HX0.out.s.cell 9
 have d0:=HX0.out.q.cell 0
 simp [SR.cs] at k0 k9
 simp [PnM.cs] at d0
 clear hst0 hW hP0 hB0 hQ0 hG0 hBf hc hs hl hkl hll hr ih hhb hF0
 go_enter Tryz.func73,Tryz.ntmps73
 go_upto_region 1 with fail
 rw [← hWH.out]
 clear hWH
 go_wp2_with fail
 clear k0 k9 d0 hkq a1
 go_loopw [8] (fun s8 wr => ∃ (c:Int) (b':PnM) (f':Bool), -x.bat.discharge ≤ c∧c ≤ x.bat.charge+1∧s8 = .int .i64 c∧Hid (x.p.seen (Vc V y.x c) f' b'.x)∧Hid (RPn wr b')∧Hid b'.Fit∧Hid (SB x b' y f' w wr)∧Hid (SAway b b' y w))
  (fun s8 _ => (x.bat.charge+1 - intOf s8).toNat)
 case atStart => exact ⟨-x.bat.discharge,b,f,by omega,by omega,rfl,see_start HKL.out HS0.out,hB.out.below HX0.out.bel,hBF.out,HX0.out,SAway.start hB.out⟩
 case round =>
  clear HX0 hBF HS0
  obtain ⟨c,b1,f1,hc0,hc1,rfl,hS1,hR1,hF1,hX1,hA1⟩:=hrel
  obtain ⟨wo,hwo⟩:∃ wo:World,wo=wr:=⟨_,rfl⟩
  subst hwo
  by_cases hlt:c ≤ x.bat.charge
  ·have k8:=hX1.out.s.cell 8
   simp [SR.cs] at k8
   go_wp2_with fail
   clear k8
   go_loopw [9] (fun s9 wr => ∃ (h:Int) (b':PnM) (f':Bool),0 ≤ h∧h ≤ x.steps+1∧s9 = .int .i64 h∧Hid (x.p.seen (Vh V y.x c h) f' b'.x)∧Hid (RPn wr b')∧Hid b'.Fit∧Hid (SB x b' y f' w wr)∧Hid (SAway b b' y w))
    (fun s9 _ => (x.steps+1 - intOf s9).toNat)
   case atStart => exact ⟨0,b1,f1,by omega,by omega,rfl,see_in HKL.out hS1.out,hR1.out,hF1.out,hX1.out,hA1.out⟩
   case round =>
    clear hS1 hR1 hF1 hX1 hA1
    obtain ⟨h,b2,f2,hh0,hh1,rfl,hS2,hR2,hF2,hX2,hA2⟩:=hrel
    obtain ⟨wi,hwi⟩:∃ wi:World,wi=wr:=⟨_,rfl⟩
    subst hwi
    have k13:=hX2.out.s.cell 13
    simp [SR.cs] at k13
    by_cases hlh:h ≤ x.steps
    ·have d0:=hX2.out.q.cell 0
     have d1:=hX2.out.q.cell 1
     have d2:=hX2.out.q.cell 2
     simp [PnM.cs] at d0 d1 d2
     have HQC:Hid (∀ W,Below wi.heap.size wi W→RInts W y.charge.A y.charge.l∧RInts W y.heat.A y.heat.l):=fun W hb => ⟨((hQ.out.below hX2.out.bel).below hb).charge,((hQ.out.below hX2.out.bel).below hb).heat⟩
     have HK:Hid (∀ W,Below wi.heap.size wi W→Below wi.heap.size wi W∧W.cell? ⟨w.heap.size+1,0,none⟩=some (.slice y.charge.A y.charge.l.length y.charge.c)∧W.cell? ⟨w.heap.size+1,1,none⟩=some (.slice y.heat.A y.heat.l.length y.heat.c)∧W.cell? ⟨w.heap.size+1,2,none⟩=some (.slice y.start.A y.start.l.length y.start.c)):=fun W hb => ⟨hb,cell_below d0 hb,cell_below d1 hb,cell_below d2 hb⟩
     have HCB:Hid (-9223372036854775808 ≤ c∧c ≤ 9223372036854775807):=by show _∧_; omega
     have HGW:Hid (w.heap.size+3 ≤ wi.heap.size):=hX2.out.lt
     clear d0 d1 d2
     go_upto_region 13 with fail
     clear k13
     go_cut [10] (fun s10 wx => ∃ (g:Nat) (m:PnM),s10 = .pointer (some ⟨g,0,none⟩)∧Hid (SCut x b2 y f2 w wi wx c h g m))
     case first =>
      have d0:=hX2.out.q.cell 0
      have d1:=hX2.out.q.cell 1
      have d2:=hX2.out.q.cell 2
      simp [PnM.cs] at d0 d1 d2
      refine wp_region_held_drew (S:=(fun w' => Below wi.heap.size wi w'∧w'.cell? ⟨w.heap.size+1,0,none⟩=some (.slice y.charge.A y.charge.l.length y.charge.c)∧w'.cell? ⟨w.heap.size+1,1,none⟩=some (.slice y.heat.A y.heat.l.length y.heat.c)∧w'.cell? ⟨w.heap.size+1,2,none⟩=some (.slice y.start.A y.start.l.length y.start.c))) (by kernel_rfl) (HK.out _ (Below.drew (Below.refl _ _))) (fun hHeld => ?_)
      refine tk 0 ?_
      try simp only [jA,jB,Act.put,jD,jE,jF]
      refine tk 1 ?_
      try simp only [jA,jB,jC,Act.put,jD,jE,jF]
      refine tk 2 ?_
      try simp only [jA,jB,jC,Act.put,jD,jE,jF]
      refine tk 3 ?_
      try simp only [jA,jB,jC,Act.put,jD,jE,jF]
      refine tk 4 ?_
      try simp only [jA,jB,jC,Act.put,jD,jE,jF]
      refine tk 6 ?_
      try simp only [jA,jB,jC,Act.put,jD,jE,jF]
      refine tk 7 ?_
      try simp only [jA,jB,jC,Act.put,jD,jE,jF]
      refine tk 8 ?_
      try simp only [jA,jB,jC,Act.put,jD,jE,jF]
      refine wpAnyH_ready (rs := [5,11]) (by kernel_rfl) (by simp) ?_
      refine (AllReadyH.cons rfl (fun K hK => ?_) (AllReadyH.cons rfl (fun K hK => ?_) AllReadyH.nil))
      ·have HKK:=Lib.hid hK
       clear hK
       go_simp
       refine (HW1.out c _ (HQC.out _ (Below.drew (Below.refl wi.heap.size wi))).1).mono ?_
       rintro e' y1 ⟨A1,e1,rfl,hr1,hc1,hf1,hb1⟩
       have hB1:Below wi.heap.size wi y1:=below_tr (Below.drew (Below.refl wi.heap.size wi)) hb1
       have r1_y1:=Lib.hid hr1
       have hF1:Hid (∀ ad,A1=some ad→wi.heap.size ≤ ad.block):=fun ad e => Nat.le_trans ((Below.drew (Below.refl wi.heap.size wi))).size (hf1 ad e)
       have hC1:=Lib.hid hc1
       clear hr1 hc1 hf1 hb1
       go_wp2_with fail
       refine HKK.out _ _ (HK.out _ hB1) (fun hH2 => ?_)
       clear HKK K
       replace hHeld:=hH2
       clear hH2
       try simp only [jA,jB,jC,Act.put,jD,jE,jF]
       refine wpAnyH_ready (rs := [9,11]) (by kernel_rfl) (by simp) ?_
       refine (AllReadyH.cons rfl (fun K hK => ?_) (AllReadyH.cons rfl (fun K hK => ?_) AllReadyH.nil))
       ·have HKK:=Lib.hid hK
        clear hK
        go_simp
        refine (HW2.out h _ (HQC.out _ hB1).2).mono ?_
        rintro e' y2 ⟨A2,e2,rfl,hr2,hc2,hf2,hb2⟩
        have hB2:Below wi.heap.size wi y2:=below_tr hB1 hb2
        have r2_y2:=Lib.hid hr2
        have hF2:Hid (∀ ad,A2=some ad→wi.heap.size ≤ ad.block):=fun ad e => Nat.le_trans (hB1).size (hf2 ad e)
        have hC2:=Lib.hid hc2
        have r1_y2:=Lib.hid (r1_y1.out.below hb2)
        clear hr2 hc2 hf2 hb2
        go_wp2_with fail
        refine HKK.out _ _ (HK.out _ hB2) (fun hH2 => ?_)
        clear HKK K
        replace hHeld:=hH2
        clear hH2
        try simp only [jA,jB,jC,Act.put,jD,jE,jF]
        refine tk 10 ?_
        try simp only [jA,jB,jC,Act.put,jD,jE,jF]
        refine wpAnyH_ready (rs := [11]) (by kernel_rfl) (by simp) ?_
        refine (AllReadyH.cons rfl (fun K hK => ?_) AllReadyH.nil)
        have NEL_r1:Hid (∀ ad,A1=some ad→ad.block < y2.heap.size):=r1_y2.out.lt (by simp)
        have NEL_r2:Hid (∀ ad,A2=some ad→ad.block < y2.heap.size):=r2_y2.out.lt (by simp)
        have HKK:=Lib.hid hK
        clear hK
        go_simp
        obtain ⟨y3,hWn⟩:∃ v,v=y2.alloc (.cells #[.slice none 0 0,.slice none 0 0,.slice none 0 0] 48):=⟨_,rfl⟩
        obtain ⟨g,hg⟩:∃ n,n=y2.heap.size:=⟨_,rfl⟩
        rw [← hWn, ← hg]
        have hb3:Below y2.heap.size y2 y3:=by rw [hWn]; exact (below_al (Below.refl _ _):Below _ _ (y2.alloc (.cells #[.slice none 0 0,.slice none 0 0,.slice none 0 0] 48)))
        have hk3:Blk y3 g 48 #[.slice none 0 0,.slice none 0 0,.slice none 0 0]:=by rw [hWn,hg]; exact Blk.new y2 _ _
        have hB3:Below wi.heap.size wi y3:=below_tr hB2 hb3
        have bk_y3:=Lib.hid hk3
        have HGG:Hid (wi.heap.size ≤ g):=by show _ ≤ _; rw [hg]; exact (hB2).size
        have r1_y3:=Lib.hid (r1_y2.out.below hb3)
        have r2_y3:=Lib.hid (r2_y2.out.below hb3)
        have NEB_r1:Hid (∀ ad,A1=some ad→ad.block ≠ g):=fun ad e => by have:=NEL_r1.out ad e; rw [hg]; omega
        have NEB_r2:Hid (∀ ad,A2=some ad→ad.block ≠ g):=fun ad e => by have:=NEL_r2.out ad e; rw [hg]; omega
        clear hWn hg hb3 hk3
        refine HKK.out _ _ (HK.out _ hB3) (fun hH2 => ?_)
        clear HKK K
        replace hHeld:=hH2
        clear hH2
        try simp only [jA,jB,jC,Act.put,jD,jE,jF]
        have HNE1:Hid (∀ ad,A1=some ad→ad.block ≠ g):=NEB_r1
        have HNE2:Hid (∀ ad,A2=some ad→ad.block ≠ g):=NEB_r2
        have z0:=bk_y3.out.cell 0
        have z1:=bk_y3.out.cell 1
        have z2:=bk_y3.out.cell 2
        have f0:=bk_y3.out.frozen 0
        have f1:=bk_y3.out.frozen 1
        have f2:=bk_y3.out.frozen 2
        simp at z0 z1 z2
        refine wpAnyH_ready (rs := [12]) (by kernel_rfl) (by simp) ?_
        refine (AllReadyH.cons rfl (fun K hK => ?_) AllReadyH.nil)
        have HKK:=Lib.hid hK
        clear hK
        go_simp
        obtain ⟨v,hv⟩:∃ v,v=((y3.setCell ⟨g,0,none⟩ (.slice A1 (y.charge.l.length+1) e1)).setCell ⟨g,1,none⟩ (.slice A2 (y.heat.l.length+1) e2)).setCell ⟨g,2,none⟩ (.slice y.start.A y.start.l.length y.start.c):=⟨_,rfl⟩
        rw [← hv]
        have hgv:y3.grownBy v (some g):=by rw [hv]; exact only_setCell (p:=⟨g,2,none⟩) (only_setCell (p:=⟨g,1,none⟩) (only_setCell (p:=⟨g,0,none⟩) (grown_id _ _) (.inl rfl) _) (.inl rfl) _) (.inl rfl) _
        have hkv:Blk v g 48 #[.slice A1 (y.charge.l.length+1) e1,.slice A2 (y.heat.l.length+1) e2,.slice y.start.A y.start.l.length y.start.c]:=by rw [hv]; have:=(((bk_y3).out.set_ 0 (.slice A1 (y.charge.l.length+1) e1)).set_ 1 (.slice A2 (y.heat.l.length+1) e2)).set_ 2 (.slice y.start.A y.start.l.length y.start.c); simpa using this
        have hBv:Below wi.heap.size wi v:=(hB3).grown hgv (hB3).size (fun k e => by injection e with e; rw [← e]; exact HGG.out)
        clear hv z0 z1 z2 f0 f1 f2
        refine HKK.out _ _ (HK.out _ hBv) (fun hH2 => ?_)
        clear HKK K
        replace hHeld:=hH2
        clear hH2
        try simp only [jA,jB,jC,Act.put,jD,jE,jF]
        refine wpAnyH_done (by kernel_rfl) ?_ _
        have HFN:Hid (SCut x b2 y f2 w wi v c h g ⟨⟨A1,e1,y.charge.l ++ [c]⟩,⟨A2,e2,y.heat.l ++ [h]⟩,y.start⟩):=scut_mk hX2.out hR2.out hQ.out hG.out HCB.out hBv hkv (r1_y3.out.other hgv (fun ad e hh => HNE1.out ad e (by injection hh))) (r2_y3.out.other hgv (fun ad e hh => HNE2.out ad e (by injection hh))) hC1.out hF1.out hF2.out
        clear hkv hgv hBv hHeld d0 d1 d2
        go_wp2_with fail
        go_meet
        exact ⟨g,_,rfl,HFN.out⟩
       ·have NEL_r1:Hid (∀ ad,A1=some ad→ad.block < y1.heap.size):=r1_y1.out.lt (by simp)
        have HKK:=Lib.hid hK
        clear hK
        go_simp
        obtain ⟨y4,hWn⟩:∃ v,v=y1.alloc (.cells #[.slice none 0 0,.slice none 0 0,.slice none 0 0] 48):=⟨_,rfl⟩
        obtain ⟨g,hg⟩:∃ n,n=y1.heap.size:=⟨_,rfl⟩
        rw [← hWn, ← hg]
        have hb4:Below y1.heap.size y1 y4:=by rw [hWn]; exact (below_al (Below.refl _ _):Below _ _ (y1.alloc (.cells #[.slice none 0 0,.slice none 0 0,.slice none 0 0] 48)))
        have hk4:Blk y4 g 48 #[.slice none 0 0,.slice none 0 0,.slice none 0 0]:=by rw [hWn,hg]; exact Blk.new y1 _ _
        have hB4:Below wi.heap.size wi y4:=below_tr hB1 hb4
        have bk_y4:=Lib.hid hk4
        have HGG:Hid (wi.heap.size ≤ g):=by show _ ≤ _; rw [hg]; exact (hB1).size
        have r1_y4:=Lib.hid (r1_y1.out.below hb4)
        have NEB_r1:Hid (∀ ad,A1=some ad→ad.block ≠ g):=fun ad e => by have:=NEL_r1.out ad e; rw [hg]; omega
        clear hWn hg hb4 hk4
        refine HKK.out _ _ (HK.out _ hB4) (fun hH2 => ?_)
        clear HKK K
        replace hHeld:=hH2
        clear hH2
        try simp only [jA,jB,jC,Act.put,jD,jE,jF]
        refine wpAnyH_ready (rs := [9]) (by kernel_rfl) (by simp) ?_
        refine (AllReadyH.cons rfl (fun K hK => ?_) AllReadyH.nil)
        have HKK:=Lib.hid hK
        clear hK
        go_simp
        refine (HW2.out h _ (HQC.out _ hB4).2).mono ?_
        rintro e' y5 ⟨A2,e2,rfl,hr5,hc5,hf5,hb5⟩
        have hB5:Below wi.heap.size wi y5:=below_tr hB4 hb5
        have NEC_r2:Hid (∀ ad,A2=some ad→ad.block ≠ g):=fun ad e => by have h1:=hf5 ad e; have h2:=bk_y4.out.lt; omega
        have r2_y5:=Lib.hid hr5
        have hF5:Hid (∀ ad,A2=some ad→wi.heap.size ≤ ad.block):=fun ad e => Nat.le_trans (hB4).size (hf5 ad e)
        have hC5:=Lib.hid hc5
        have r1_y5:=Lib.hid (r1_y4.out.below hb5)
        have bk_y5:=Lib.hid (bk_y4.out.below hb5 bk_y4.out.lt)
        clear hr5 hc5 hf5 hb5
        go_wp2_with fail
        refine HKK.out _ _ (HK.out _ hB5) (fun hH2 => ?_)
        clear HKK K
        replace hHeld:=hH2
        clear hH2
        try simp only [jA,jB,jC,Act.put,jD,jE,jF]
        refine tk 10 ?_
        try simp only [jA,jB,jC,Act.put,jD,jE,jF]
        have HNE1:Hid (∀ ad,A1=some ad→ad.block ≠ g):=NEB_r1
        have HNE2:Hid (∀ ad,A2=some ad→ad.block ≠ g):=NEC_r2
        have z0:=bk_y5.out.cell 0
        have z1:=bk_y5.out.cell 1
        have z2:=bk_y5.out.cell 2
        have f0:=bk_y5.out.frozen 0
        have f1:=bk_y5.out.frozen 1
        have f2:=bk_y5.out.frozen 2
        simp at z0 z1 z2
        refine wpAnyH_ready (rs := [12]) (by kernel_rfl) (by simp) ?_
        refine (AllReadyH.cons rfl (fun K hK => ?_) AllReadyH.nil)
        have HKK:=Lib.hid hK
        clear hK
        go_simp
        obtain ⟨v,hv⟩:∃ v,v=((y5.setCell ⟨g,0,none⟩ (.slice A1 (y.charge.l.length+1) e1)).setCell ⟨g,1,none⟩ (.slice A2 (y.heat.l.length+1) e2)).setCell ⟨g,2,none⟩ (.slice y.start.A y.start.l.length y.start.c):=⟨_,rfl⟩
        rw [← hv]
        have hgv:y5.grownBy v (some g):=by rw [hv]; exact only_setCell (p:=⟨g,2,none⟩) (only_setCell (p:=⟨g,1,none⟩) (only_setCell (p:=⟨g,0,none⟩) (grown_id _ _) (.inl rfl) _) (.inl rfl) _) (.inl rfl) _
        have hkv:Blk v g 48 #[.slice A1 (y.charge.l.length+1) e1,.slice A2 (y.heat.l.length+1) e2,.slice y.start.A y.start.l.length y.start.c]:=by rw [hv]; have:=(((bk_y5).out.set_ 0 (.slice A1 (y.charge.l.length+1) e1)).set_ 1 (.slice A2 (y.heat.l.length+1) e2)).set_ 2 (.slice y.start.A y.start.l.length y.start.c); simpa using this
        have hBv:Below wi.heap.size wi v:=(hB5).grown hgv (hB5).size (fun k e => by injection e with e; rw [← e]; exact HGG.out)
        clear hv z0 z1 z2 f0 f1 f2
        refine HKK.out _ _ (HK.out _ hBv) (fun hH2 => ?_)
        clear HKK K
        replace hHeld:=hH2
        clear hH2
        try simp only [jA,jB,jC,Act.put,jD,jE,jF]
        refine wpAnyH_done (by kernel_rfl) ?_ _
        have HFN:Hid (SCut x b2 y f2 w wi v c h g ⟨⟨A1,e1,y.charge.l ++ [c]⟩,⟨A2,e2,y.heat.l ++ [h]⟩,y.start⟩):=scut_mk hX2.out hR2.out hQ.out hG.out HCB.out hBv hkv (r1_y5.out.other hgv (fun ad e hh => HNE1.out ad e (by injection hh))) (r2_y5.out.other hgv (fun ad e hh => HNE2.out ad e (by injection hh))) hC1.out hF1.out hF5.out
        clear hkv hgv hBv hHeld d0 d1 d2
        go_wp2_with fail
        go_meet
        exact ⟨g,_,rfl,HFN.out⟩
      ·have HKK:=Lib.hid hK
       clear hK
       go_simp
       obtain ⟨y6,hWn⟩:∃ v,v=(wi.alloc (.cells #[.slice none 0 0,.slice none 0 0,.slice none 0 0] 48)).drew:=⟨_,rfl⟩
       obtain ⟨g,hg⟩:∃ n,n=wi.heap.size:=⟨_,rfl⟩
       rw [← hWn, ← hg]
       have hb6:Below wi.drew.heap.size wi.drew y6:=by rw [hWn]; exact (below_al (Below.refl _ _):Below _ _ (wi.drew.alloc (.cells #[.slice none 0 0,.slice none 0 0,.slice none 0 0] 48)))
       have hk6:Blk y6 g 48 #[.slice none 0 0,.slice none 0 0,.slice none 0 0]:=by rw [hWn,hg]; exact Blk.new wi.drew _ _
       have hB6:Below wi.heap.size wi y6:=below_tr (Below.drew (Below.refl wi.heap.size wi)) hb6
       have bk_y6:=Lib.hid hk6
       have HGG:Hid (wi.heap.size ≤ g):=by show _ ≤ _; rw [hg]; exact ((Below.drew (Below.refl wi.heap.size wi))).size
       clear hWn hg hb6 hk6
       refine HKK.out _ _ (HK.out _ hB6) (fun hH2 => ?_)
       clear HKK K
       replace hHeld:=hH2
       clear hH2
       try simp only [jA,jB,jC,Act.put,jD,jE,jF]
       refine wpAnyH_ready (rs := [5]) (by kernel_rfl) (by simp) ?_
       refine (AllReadyH.cons rfl (fun K hK => ?_) AllReadyH.nil)
       have HKK:=Lib.hid hK
       clear hK
       go_simp
       refine (HW1.out c _ (HQC.out _ hB6).1).mono ?_
       rintro e' y7 ⟨A1,e1,rfl,hr7,hc7,hf7,hb7⟩
       have hB7:Below wi.heap.size wi y7:=below_tr hB6 hb7
       have NEC_r1:Hid (∀ ad,A1=some ad→ad.block ≠ g):=fun ad e => by have h1:=hf7 ad e; have h2:=bk_y6.out.lt; omega
       have r1_y7:=Lib.hid hr7
       have hF7:Hid (∀ ad,A1=some ad→wi.heap.size ≤ ad.block):=fun ad e => Nat.le_trans (hB6).size (hf7 ad e)
       have hC7:=Lib.hid hc7
       have bk_y7:=Lib.hid (bk_y6.out.below hb7 bk_y6.out.lt)
       clear hr7 hc7 hf7 hb7
       go_wp2_with fail
       refine HKK.out _ _ (HK.out _ hB7) (fun hH2 => ?_)
       clear HKK K
       replace hHeld:=hH2
       clear hH2
       try simp only [jA,jB,jC,Act.put,jD,jE,jF]
       refine wpAnyH_ready (rs := [9]) (by kernel_rfl) (by simp) ?_
       refine (AllReadyH.cons rfl (fun K hK => ?_) AllReadyH.nil)
       have HKK:=Lib.hid hK
       clear hK
       go_simp
       refine (HW2.out h _ (HQC.out _ hB7).2).mono ?_
       rintro e' y8 ⟨A2,e2,rfl,hr8,hc8,hf8,hb8⟩
       have hB8:Below wi.heap.size wi y8:=below_tr hB7 hb8
       have NEC_r2:Hid (∀ ad,A2=some ad→ad.block ≠ g):=fun ad e => by have h1:=hf8 ad e; have h2:=bk_y7.out.lt; omega
       have r2_y8:=Lib.hid hr8
       have hF8:Hid (∀ ad,A2=some ad→wi.heap.size ≤ ad.block):=fun ad e => Nat.le_trans (hB7).size (hf8 ad e)
       have hC8:=Lib.hid hc8
       have r1_y8:=Lib.hid (r1_y7.out.below hb8)
       have bk_y8:=Lib.hid (bk_y7.out.below hb8 bk_y7.out.lt)
       clear hr8 hc8 hf8 hb8
       go_wp2_with fail
       refine HKK.out _ _ (HK.out _ hB8) (fun hH2 => ?_)
       clear HKK K
       replace hHeld:=hH2
       clear hH2
       try simp only [jA,jB,jC,Act.put,jD,jE,jF]
       refine tk 10 ?_
       try simp only [jA,jB,jC,Act.put,jD,jE,jF]
       have HNE1:Hid (∀ ad,A1=some ad→ad.block ≠ g):=NEC_r1
       have HNE2:Hid (∀ ad,A2=some ad→ad.block ≠ g):=NEC_r2
       have z0:=bk_y8.out.cell 0
       have z1:=bk_y8.out.cell 1
       have z2:=bk_y8.out.cell 2
       have f0:=bk_y8.out.frozen 0
       have f1:=bk_y8.out.frozen 1
       have f2:=bk_y8.out.frozen 2
       simp at z0 z1 z2
       refine wpAnyH_ready (rs := [12]) (by kernel_rfl) (by simp) ?_
       refine (AllReadyH.cons rfl (fun K hK => ?_) AllReadyH.nil)
       have HKK:=Lib.hid hK
       clear hK
       go_simp
       obtain ⟨v,hv⟩:∃ v,v=((y8.setCell ⟨g,0,none⟩ (.slice A1 (y.charge.l.length+1) e1)).setCell ⟨g,1,none⟩ (.slice A2 (y.heat.l.length+1) e2)).setCell ⟨g,2,none⟩ (.slice y.start.A y.start.l.length y.start.c):=⟨_,rfl⟩
       rw [← hv]
       have hgv:y8.grownBy v (some g):=by rw [hv]; exact only_setCell (p:=⟨g,2,none⟩) (only_setCell (p:=⟨g,1,none⟩) (only_setCell (p:=⟨g,0,none⟩) (grown_id _ _) (.inl rfl) _) (.inl rfl) _) (.inl rfl) _
       have hkv:Blk v g 48 #[.slice A1 (y.charge.l.length+1) e1,.slice A2 (y.heat.l.length+1) e2,.slice y.start.A y.start.l.length y.start.c]:=by rw [hv]; have:=(((bk_y8).out.set_ 0 (.slice A1 (y.charge.l.length+1) e1)).set_ 1 (.slice A2 (y.heat.l.length+1) e2)).set_ 2 (.slice y.start.A y.start.l.length y.start.c); simpa using this
       have hBv:Below wi.heap.size wi v:=(hB8).grown hgv (hB8).size (fun k e => by injection e with e; rw [← e]; exact HGG.out)
       clear hv z0 z1 z2 f0 f1 f2
       refine HKK.out _ _ (HK.out _ hBv) (fun hH2 => ?_)
       clear HKK K
       replace hHeld:=hH2
       clear hH2
       try simp only [jA,jB,jC,Act.put,jD,jE,jF]
       refine wpAnyH_done (by kernel_rfl) ?_ _
       have HFN:Hid (SCut x b2 y f2 w wi v c h g ⟨⟨A1,e1,y.charge.l ++ [c]⟩,⟨A2,e2,y.heat.l ++ [h]⟩,y.start⟩):=scut_mk hX2.out hR2.out hQ.out hG.out HCB.out hBv hkv (r1_y8.out.other hgv (fun ad e hh => HNE1.out ad e (by injection hh))) (r2_y8.out.other hgv (fun ad e hh => HNE2.out ad e (by injection hh))) hC7.out hF7.out hF8.out
       clear hkv hgv hBv hHeld d0 d1 d2
       go_wp2_with fail
       go_meet
       exact ⟨g,_,rfl,HFN.out⟩
     case rest =>
      obtain ⟨g,m,rfl,hcut0⟩:=hcut
      obtain ⟨e1,e2,e3,e4,e5,e6,e7,e8⟩:=hcut0.out
      have HM:=Lib.hid e1
      have HY:=Lib.hid e2
      have HMF:=Lib.hid e3
      have HAM:=Lib.hid e6
      have HX3:=Lib.hid e7
      have HR3:=Lib.hid e8
      have hm1:m.charge.l.length=y.charge.l.length+1:=by rw [e4,List.length_append]; rfl
      have hm2:m.heat.l.length=y.heat.l.length+1:=by rw [e5,List.length_append]; rfl
      have hm3:∀ k,k < m.heat.l.length→0 ≤ m.heat.l.getD k 0∧m.heat.l.getD k 0 ≤ x.steps:=by rw [e5]; exact heat_push HHB.out hh0 hlh
      have hll0:=HLL.out
      have hll0:y.heat.l.length=y.charge.l.length:=hll0
      have hr0:=HR0.out
      have HE1:Hid (m.charge.l.length ≤ x.buy.l.length):=by show _ ≤ _; omega
      have HE2:Hid (m.heat.l.length=m.charge.l.length):=by show _=_; omega
      have HE3:=Lib.hid hm3
      have HE4:Hid (x.buy.l.length=m.charge.l.length+r):=by show _=_; omega
      clear e1 e2 e3 e4 e5 e6 e7 e8 hm1 hm2 hm3 hll0 hr0 hcut0 hX2 hR2 HK HQC
      go_wp2_with (first | refine wpList_load_midP (by rfl) _ rfl w.heap.size rfl x (SR.range_p HX3.out.s) ?_ | refine wpList_load_planG (by rfl) _ rfl g rfl m HY.out.p ?_)
      refine (HPO.out m _ (hP.out.below HX3.out.bel) HY.out.r HMF.out HE1.out HE2.out (fun k hk => HE3.out k (by rw [HE2.out]; exact hk))).mono ?_
      rintro e w4 ⟨pb,rfl,hpb,hb4⟩
      have HX4:=Lib.hid (HX3.out.below hb4)
      have HY4:=Lib.hid (HY.out.below hb4)
      have HR4:=Lib.hid (HR3.out.below hb4)
      have HPB:=Lib.hid hpb
      clear hb4 HX3 HY HR3 hpb
      cases pb
      ·have HSB:Hid (x.p.seen (Vh V y.x c (h+1)) f2 b2.x):=by
        show _
        refine see_bad HKL.out HLL.out (fun z hz => ?_) hS2.out
        have h1:=HPB.out (by first | trivial | rfl)
        rw [← HM.out] at hz
        exact Pn.ext_bad hz (show m.heat.l.length=m.charge.l.length from HE2.out) (show m.charge.l.length ≤ x.buy.l.length from HE1.out) h1
       go_wp2_with fail
       go_roundw
       case rel => exact ⟨h+1,b2,f2,by omega,by omega,by go_num,HSB.out,HR4.out,hF2.out,HX4.out,hA2.out⟩
       case measure => simp [intOf]; omega
      ·go_upto_region 15 with fail
       go_wp2_with (first | refine wpList_load_S rfl _ rfl w.heap.size rfl x b2 f2 HX4.out.s ?_ | refine wpList_load_planG (by rfl) _ rfl g rfl m HY4.out.p ?_)
       refine (HIH.out (Vh V y.x c h) b2 m f2 _ (hP.out.below HX4.out.bel) HR4.out hF2.out HY4.out.r HMF.out hS2.out HE2.out HE4.out HE3.out).mono ?_
       rintro e w5 ⟨b3,f3,rfl,hrb,hfb,hsb,haw,hb5⟩
       have hsz:=HX4.out.lt
       have HA3:Hid (SAway b b3 y w):=⟨haw _ (by omega) hA2.out.1 (HAM.out _ (HGW.out) (PnAway.old hQ.out)),fun g hg h1 h2 => haw g (by omega) (hA2.out.2 g hg h1 h2) (HAM.out g (by have:=HGW.out; omega) h2)⟩
       clear haw hsz
       have HX5:=Lib.hid (HX4.out.below hb5)
       rw [HM.out] at hsb
       have HSM:=Lib.hid (see_more HKL.out HLL.out hsb)
       have HRB:=Lib.hid hrb
       have HFB:=Lib.hid hfb
       clear hb5 HX4 HY4 HR4 hrb hfb hsb
       go_wp2_with (refine wpList_store_blk rfl 92 _ _ rfl w.heap.size rfl (SR.cs x b3 f3) (by kernel_rfl) (by kernel_rfl) (SR.cs_one _ _ _) HX5.out.s rfl ?_)
       intro w6 hB6 hg6
       have HX6:=Lib.hid (HX5.out.set hB6 hg6)
       have HR6:=Lib.hid (HRB.out.away HA3.out.1 hg6 (by omega) (by omega))
       clear hB6 hg6 HX5
       go_wp2_with fail
       go_roundw
       case rel => exact ⟨h+1,b3,f3,by omega,by omega,by go_num,HSM.out,HR6.out,HFB.out,HX6.out,HA3.out⟩
       case measure => simp [intOf]; omega
    ·have HSO:=Lib.hid (see_out HKL.out (show x.steps < h by omega) hS2.out)
     go_wp2_with fail
     go_roundw
     case rel => exact ⟨c+1,b2,f2,by omega,by omega,by go_num,HSO.out,hR2.out,hF2.out,hX2.out,hA2.out⟩
     case measure => simp [intOf]; omega
  ·have k8:=hX1.out.s.cell 8
   simp [SR.cs] at k8
   have HSE:=Lib.hid (see_end HKL.out (show x.bat.charge < c by omega) hS1.out)
   go_upto_region 16 with fail
   clear k8
   go_wp2_with (first | refine wpList_load_S rfl _ rfl w.heap.size rfl x b1 f1 hX1.out.s ?_ | refine wpList_store_blk rfl 92 _ _ rfl (w.heap.size+1+1) rfl (SR.cs x b1 f1) (by kernel_rfl) (by kernel_rfl) (SR.cs_one _ _ _) hX1.out.r rfl ?_)
   intro w5 hB5 hg5
   have hbe:Below w.heap.size w w5:=hX1.out.bel.grown hg5 hX1.out.bel.size (fun k e => by injection e with e; omega)
   have hRb5:RPn w5 b1:=hR1.out.away hA1.out.1 hg5 (by omega) (by omega)
   have HBE:=Lib.hid hbe
   have HB5:=Lib.hid hB5
   have HRB:=Lib.hid hRb5
   clear hbe hB5 hg5 hRb5
   go_wp2_with fail
   exact slots_ret HB5.out HRB.out hF1.out HSE.out hA1.out.2 HBE.out rfl
end Go.Proofs.YtnppngaabfhkpaaGreat
