/-
  The walks of layer 43 (optimum), part 11: Best whole, Cost.
-/
import Derived.Test.YtnppngaabfhkpaaGreatEU10
namespace Go.Proofs.YtnppngaabfhkpaaGreat
open Go.RowKit
attribute [local go_sem ↓] Go.wp_at_zero Go.wp_at_succ
theorem best_any (x:PbM) (w:World) (hP:RPb w x) (hF:x.Fit):Calls Tryz.prog 24 #[x.v] w (BestOut x.p.best x.p.bestE w):=by
 by_cases hc:x.p.chk=0
 ·cases hl:x.p.lim with
  | true => exact best_run x w hP hF hc hl
  | false => exact best_bad x w hP hF (.inr hl)
 ·exact best_bad x w hP hF (.inl hc)
structure PB (x:PbM) (w wr:World):Prop where
 p:Blk wr w.heap.size 31 x.cs
 bel:Below w.heap.size w wr
theorem PB.start (x:PbM) (w:World):PB x w (w.alloc (.cells x.cs 31)):=⟨Blk.new _ _ _,below_al (Below.refl _ _)⟩
theorem PB.below {x:PbM} {w wr w1:World} (h:PB x w wr) (hb:Below wr.heap.size wr w1):PB x w w1:=⟨h.p.below hb h.p.lt,h.bel.trans (hb.mono h.bel.size)⟩
theorem PB.pr {x:PbM} {w wr:World} (h:PB x w wr) (hP:RPb w x):RPb wr x:=hP.below h.bel
structure QB (y:PnM) (w wr:World):Prop where
 q:Blk wr w.heap.size 48 y.cs
 bel:Below w.heap.size w wr
theorem QB.start (y:PnM) (w:World):QB y w (w.alloc (.cells y.cs 48)):=⟨Blk.new _ _ _,below_al (Below.refl _ _)⟩
theorem QB.below {y:PnM} {w wr w1:World} (h:QB y w wr) (hb:Below wr.heap.size wr w1):QB y w w1:=⟨h.q.below hb h.q.lt,h.bel.trans (hb.mono h.bel.size)⟩
theorem QB.up {y:PnM} {w wr w1:World} (h:QB y w wr) (hb:Below (w.heap.size+1) wr w1):QB y w w1:=⟨h.q.below hb (by omega),h.bel.trans (hb.mono (by omega))⟩
theorem Pn.zip_take {x:Pn} {k:Nat} (h:x.charge.length=x.heat.length) (hk:k < x.charge.length):flatM (x.ways.take (k+1))=flatM (x.ways.take k) ++ [x.charge.getD k 0,x.heat.getD k 0]:=by
 have hl:k < x.ways.length:=by unfold Pn.ways; rw [List.length_zip]; omega
 rw [List.take_succ_eq_append_getElem hl]
 unfold flatM
 rw [List.flatMap_append]
 congr 1
 have hk2:k < x.heat.length:=by omega
 simp [Pn.ways,List.getD,hk,hk2]
theorem ltL_drop {a b:List Int} {i:Nat} (h1:i < a.length) (h2:i < b.length):ltL (a.drop i) (b.drop i)=if a.getD i 0 < b.getD i 0 then true else if b.getD i 0 < a.getD i 0 then false else ltL (a.drop (i+1)) (b.drop (i+1)):=by
 rw [List.drop_eq_getElem_cons h1,List.drop_eq_getElem_cons h2,getD_eq h1,getD_eq h2]
 rfl
structure B3 (x:PbM) (a b:PnM) (w wr:World):Prop where
 p:Blk wr w.heap.size 31 x.cs
 a:Blk wr (w.heap.size+1) 48 a.cs
 b:Blk wr (w.heap.size+2) 48 b.cs
 bel:Below w.heap.size w wr
theorem B3.start (x:PbM) (a b:PnM) (w:World):B3 x a b w (((w.alloc (.cells x.cs 31)).alloc (.cells a.cs 48)).alloc (.cells b.cs 48)):=by
 obtain ⟨h1,h2,h3,h4⟩:=two_boxes (w:=w) (cs:=x.cs) (t:=31) (cs2:=a.cs) (t2:=48) (Below.refl _ _)
 have h5:Below w.heap.size w ((w.alloc (.cells x.cs 31)).alloc (.cells a.cs 48)):=h4
 generalize hW:(w.alloc (.cells x.cs 31)).alloc (.cells a.cs 48)=W at *
 have hs:W.heap.size=w.heap.size+2:=by rw [← hW]; simp
 have h6:=Blk.new W 48 b.cs
 rw [hs] at h6
 have hb:Below W.heap.size W (W.alloc (.cells b.cs 48)):=below_al (Below.refl _ _)
 exact ⟨h1.below hb h1.lt,h2.below hb h2.lt,h6,h5.trans (hb.mono h5.size)⟩
theorem B3.below {x:PbM} {a b:PnM} {w wr w1:World} (h:B3 x a b w wr) (hb:Below wr.heap.size wr w1):B3 x a b w w1:=⟨h.p.below hb h.p.lt,h.a.below hb h.a.lt,h.b.below hb h.b.lt,h.bel.trans (hb.mono h.bel.size)⟩
theorem B3.pr {x:PbM} {a b:PnM} {w wr:World} (h:B3 x a b w wr) (hP:RPb w x):RPb wr x:=hP.below h.bel
theorem Pb.err_sized {p:Pb} {x:Pn} (h:p.err x=0):p.chk=0∧x.charge.length=p.n∧x.heat.length=p.n∧x.start.length=p.loads.length:=by
 have hc:p.chk=0:=Classical.byContradiction fun q => by rw [(Pb.err_chk (x:=x) q).1] at h; exact q h
 have hf:p.form x=0:=Classical.byContradiction fun q => by rw [(Pb.err_form hc q).1] at h; exact q h
 have h3:=(Pb.form_good hf).1
 simp only [Pb.sized,decide_eq_true_eq] at h3
 exact ⟨hc,h3⟩
set_option maxRecDepth 100000 in
set_option maxHeartbeats 16000000 in
theorem rlist_any (y:PnM) (n:Nat) (w:World) (hQ:RPn w y) (hn:y.charge.l.length=n) (heq:y.heat.l.length=n) (h1:n ≤ 1000) (h3:y.start.l.length ≤ 1000) :
  Calls Tryz.prog 108 #[y.v,.int .i64 n] w (IntsOut y.x.list w):=by
 have HQ:=Lib.hid hQ
 obtain ⟨i0,hi,hz0,hz1,hz2⟩:=info_parts Tryz.infoInt
 have hst0:=QB.start y w
 have hzt:=fun k (hk:k < n) => Pn.zip_take (x:=y.x) (k:=k) (by show y.charge.l.length=y.heat.l.length; omega) (by show k < y.charge.l.length; omega)
 have HZT:=Lib.hid hzt
 have hwl:y.x.ways.length=n:=by unfold Pn.ways; rw [List.length_zip]; show min y.charge.l.length y.heat.l.length=_; omega
 have HWL:=Lib.hid hwl
 have hon:=ints_one y.start.l
 simp only [PnM.v]
 obtain ⟨W,hW⟩:∃ W,W=w.alloc (.cells #[.slice y.charge.A y.charge.l.length y.charge.c,.slice y.heat.A y.heat.l.length y.heat.c,.slice y.start.A y.start.l.length y.start.c] 48):=⟨_,rfl⟩
 have hWz:W.heap.size=w.heap.size+1:=by rw [hW]; simp
 rw [show w.alloc (.cells y.cs 48)=W from hW.symm] at hst0
 have HO:=Lib.hid (World.ownsRow_lit (base:=w.heap.size+1) (e:=3) (size:=1) W #[] 0 (by omega) (by unfold maxLen; omega) rfl)
 have hRS:=hQ.start.below hst0.bel
 have HRS:Hid (Reads (W.alloc (.cells #[] 3)) (W.heap.size+1) 1 y.start.A y.start.l.length (ints y.start.l)):=by
  have h:=hRS.alloc (.cells #[] 3)
  unfold RInts at h
  rw [World.size_alloc] at h
  exact h
 have hst:=Lib.hid hst0
 have hWH:=Lib.hid hW
 have HWZ:=Lib.hid hWz
 have HON:=Lib.hid hon
 have HCN:=Lib.hid hn
 have HHN:=Lib.hid heq
 obtain ⟨sl,hsl⟩:∃ z,z=y.start.l.length:=⟨_,rfl⟩
 have HSL:=Lib.hid hsl
 rw [← hsl] at HRS h3
 rw [← hsl]
 clear hst0 hW hWz hQ hzt hwl heq hn hRS hon hsl
 go_enter Tryz.func108,Tryz.ntmps108
 go_upto_region 1 with fail
 rw [show w.alloc (.cells #[.slice y.charge.A y.charge.l.length y.charge.c,.slice y.heat.A y.heat.l.length y.heat.c,.slice y.start.A sl y.start.c] 48)=W by rw [hWH.out,HSL.out]]
 have c2:=hst.out.q.cell 2
 simp [PnM.cs] at c2
 rw [← HSL.out] at c2
 have c2b:=cell_below c2 (below_al (Below.refl W.heap.size W):Below W.heap.size W (W.alloc (.cells #[] 3)))
 go_wp2_with (at_builtin; refine wpList_append_any _ rfl _ _ 22 rfl (w.heap.size+1) 3 i0 (.int .i64 0) 1 8 Tryz.underlying22 hi hz0 hz1 hz2 rfl (by decide) _ _ _ rfl HO.out _ _ _ _ (ints y.start.l) rfl HRS.out HON.out (by unfold maxLen; omega) (by omega) (by have:=HWZ.out; simp; omega) ?_)
 intro v' w5 hown5 hg5 hv5
 have hB5:Below (w.heap.size+1) W w5:=((Below.refl (w.heap.size+1) W).alloc (by have:=HWZ.out; omega) (.cells #[] 3)).grown hg5 (by have:=HWZ.out; simp; omega) (fun k hk => (HO.out.lt k hk).1)
 have HX1:=Lib.hid (hst.out.up hB5)
 have HO1:=Lib.hid hown5
 clear hown5 hg5 hv5 hB5 hst c2 c2b HO HRS
 go_wp2_with fail
 go_loopw [6,5] (fun s6 s5 wr => ∃ (k:Nat) (sv:Value),k ≤ n∧s6 = .int .i64 k∧sv=s5∧Hid (QB y w wr)∧Hid (wr.ownsRow (w.heap.size+1) 3 1 sv (sl+2 * k) (ints (y.start.l ++ flatM (y.x.ways.take k)))))
  (fun s6 _ _ => n - (intOf s6).toNat)
 case atStart => exact ⟨0,_,by omega,rfl,rfl,HX1.out,(by have h:=HO1.out; show World.ownsRow _ _ _ _ _ _ _; simpa [flatM] using h)⟩
 case round =>
  obtain ⟨k,sv,hk,rfl,rfl,hQB,hOW⟩:=hrel
  obtain ⟨wo,hwo⟩:∃ wo:World,wo=wr:=⟨_,rfl⟩
  subst hwo
  by_cases hlt:k < n
  ·have hcn:=HCN.out
   have hhn:=HHN.out
   have j1:(0:Int) ≤ (k:Int):=by omega
   have j0:(k:Int) < (n:Int):=by omega
   have j2:(k:Int) < (y.charge.l.length:Int):=by omega
   have j3:(k:Int) < (y.heat.l.length:Int):=by omega
   have q1:k < y.charge.l.length:=by omega
   have q2:k < y.heat.l.length:=by omega
   obtain ⟨bC,oC,hCA,lC,eC0⟩:=HQ.out.charge.at' q1
   obtain ⟨bH,oH,hHA,lH,eH0⟩:=HQ.out.heat.at' q2
   have hzk:=HZT.out k hlt
   rw [getD_eq q1] at eC0
   rw [getD_eq q2] at eH0
   have g1:y.x.charge.getD k 0=y.charge.l.getD k 0:=rfl
   have g2:y.x.heat.getD k 0=y.heat.l.getD k 0:=rfl
   rw [g1,g2] at hzk
   generalize y.charge.l.getD k 0=cz at *
   generalize y.heat.l.getD k 0=hz at *
   have eC:=cell_below eC0 hQB.out.bel
   have eH:=cell_below eH0 hQB.out.bel
   have HZK:Hid (ints (y.start.l ++ flatM (y.x.ways.take (k+1)))=ints (y.start.l ++ flatM (y.x.ways.take k)) ++ [.int .i64 cz,.int .i64 hz]):=by
    show _=_
    rw [hzk, ← List.append_assoc,ints_append]
    rfl
   have c0:=hQB.out.q.cell 0
   have c1:=hQB.out.q.cell 1
   simp [PnM.cs] at c0 c1
   rw [hCA] at c0
   rw [hHA] at c1
   have hne:∀ b,b < w.heap.size+1→∀ {W0:World} {nn:Nat} {xs:List Value},W0.ownsRow (w.heap.size+1) 3 1 sv nn xs→some b ≠ sv.ownBlock:=fun b hb W0 nn xs h e => by have:=(h.lt b e.symm).1; omega
   have HNE:Hid (some w.heap.size ≠ sv.ownBlock∧some bC ≠ sv.ownBlock∧some bH ≠ sv.ownBlock):=⟨hne _ (by omega) hOW.out,hne _ (by omega) hOW.out,hne _ (by omega) hOW.out⟩
   rw [hCA,hHA]
   have hsz:w.heap.size+1 ≤ wo.heap.size:=hQB.out.q.lt
   clear hzk g1 g2 hCA hHA eC0 eH0 hne hcn hhn q1 q2
   go_upto_region 5 with fail
   refine wp_region_held_drew (S:=(fun w' => w'.cell? ⟨w.heap.size,0,none⟩=some (.slice (some ⟨bC,oC,none⟩) y.charge.l.length y.charge.c)∧w'.cell? ⟨w.heap.size,1,none⟩=some (.slice (some ⟨bH,oH,none⟩) y.heat.l.length y.heat.c)∧w'.cell? ⟨bC,oC+k,none⟩=some (.int .i64 cz)∧w'.cell? ⟨bH,oH+k,none⟩=some (.int .i64 hz))) (by kernel_rfl) (⟨cell_below c0 (Below.drew (Below.refl wo.heap.size wo)),cell_below c1 (Below.drew (Below.refl wo.heap.size wo)),cell_below eC (Below.drew (Below.refl wo.heap.size wo)),cell_below eH (Below.drew (Below.refl wo.heap.size wo))⟩) (fun hHeld => ?_)
   refine tk 0 ?_
   try simp only [jA,jB,Act.put,jD,jE,jF]
   refine tk 1 ?_
   try simp only [jA,jB,jC,Act.put,jD,jE,jF]
   refine tk 2 ?_
   try simp only [jA,jB,jC,Act.put,jD,jE,jF]
   refine tk 3 ?_
   try simp only [jA,jB,jC,Act.put,jD,jE,jF]
   refine tk 4 ?_
   try simp only [jA,jB,jC,Act.put,jD,jE,jF]
   refine tk 5 ?_
   try simp only [jA,jB,jC,Act.put,jD,jE,jF]
   refine tk 6 ?_
   try simp only [jA,jB,jC,Act.put,jD,jE,jF]
   refine tk 7 ?_
   try simp only [jA,jB,jC,Act.put,jD,jE,jF]
   refine tk 8 ?_
   try simp only [jA,jB,jC,Act.put,jD,jE,jF]
   refine tk 9 ?_
   try simp only [jA,jB,jC,Act.put,jD,jE,jF]
   refine tk 10 ?_
   try simp only [jA,jB,jC,Act.put,jD,jE,jF]
   refine wpAnyH_ready (rs := [11]) (by kernel_rfl) (by simp) ?_
   refine (AllReadyH.cons rfl (fun K hK => ?_) AllReadyH.nil)
   have HKK:=Lib.hid hK
   clear hK
   go_simp
   obtain ⟨y1,hy1⟩:∃ v,v=(wo.alloc (.cells #[.int .i64 cz,.int .i64 hz] 3)).drew:=⟨_,rfl⟩
   obtain ⟨bb,hbb⟩:∃ n,n=wo.heap.size:=⟨_,rfl⟩
   rw [← hy1, ← hbb]
   have hbn:Below wo.heap.size wo y1:=by rw [hy1]; exact Below.drew (below_al (Below.refl _ _))
   have HLY:Hid (RInts y1 (some ⟨bb,0,none⟩) [cz,hz]):=by show RInts _ _ _; rw [hy1,hbb]; exact (rints_lit wo.drew #[.int .i64 cz,.int .i64 hz] 3 (l := [cz,hz]) rfl)
   have HOy:=Lib.hid (own_below hOW.out hbn)
   have HQy:=Lib.hid (hQB.out.below hbn)
   have hyz:w.heap.size+1 ≤ y1.heap.size:=by have:=hbn.size; omega
   clear hy1 hbb
   refine HKK.out _ _ (⟨cell_below c0 hbn,cell_below c1 hbn,cell_below eC hbn,cell_below eH hbn⟩) (fun hH2 => ?_)
   clear HKK K
   replace hHeld:=hH2
   clear hH2
   try simp only [jA,jB,jC,Act.put,jD,jE,jF]
   refine wpAnyH_ready (rs := [12]) (by kernel_rfl) (by simp) ?_
   refine (AllReadyH.cons rfl (fun K hK => ?_) AllReadyH.nil)
   have HKK:=Lib.hid hK
   clear hK
   refine step_append_any _ (by rfl) _ _ _ (by rfl) (w.heap.size+1) 3 i0 (.int .i64 0) 1 8 Tryz.underlying22 hi hz0 hz1 hz2 rfl (by decide) _ (sl+2 * k) _ (by rfl) HOy.out y1.heap.size (some ⟨bb,0,none⟩) 2 2 [.int .i64 cz,.int .i64 hz] (by rfl) (show Reads _ _ 1 _ 2 _ from HLY.out) (by intro u hu; simp at hu; rcases hu with rfl | rfl <;> rfl) (by unfold maxLen; omega) (by omega) hyz ?_
   intro v1 y2 hob hgb hvb
   have hB2:Below (w.heap.size+1) y1 y2:=(Below.refl (w.heap.size+1) y1).grown hgb hyz (fun q hq => (HOy.out.lt q hq).1)
   have HX5:=Lib.hid (HQy.out.up hB2)
   have HO5:Hid (y2.ownsRow (w.heap.size+1) 3 1 v1 (sl+2 * (k+1)) (ints (y.start.l ++ flatM (y.x.ways.take (k+1))))):=by
    show World.ownsRow _ _ _ _ _ _ _
    rw [HZK.out]
    exact hob
   refine HKK.out _ _ (⟨cell_grown hgb (cell_below c0 hbn) HNE.out.1,cell_grown hgb (cell_below c1 hbn) HNE.out.1,cell_grown hgb (cell_below eC hbn) HNE.out.2.1,cell_grown hgb (cell_below eH hbn) HNE.out.2.2⟩) (fun hH2 => ?_)
   clear HKK K
   replace hHeld:=hH2
   clear hH2
   try simp only [jA,jB,jC,Act.put,jD,jE,jF]
   refine tk 13 ?_
   try simp only [jA,jB,jC,Act.put,jD,jE,jF]
   refine wpAnyH_done (by kernel_rfl) ?_ _
   clear hHeld hob hgb hvb hB2 c0 c1 eC eH
   go_wp2_with fail
   go_roundw
   case rel => exact ⟨k+1,_,by omega,by go_num,rfl,HX5.out,HO5.out⟩
   case measure => simp [intOf]; omega
  ·have hke:k=n:=by omega
   have j2:¬ (k:Int) < (n:Int):=by omega
   have hO2:=hOW.out
   have hwl:=HWL.out
   rw [List.take_of_length_le (by omega)] at hO2
   have hfin:=Lib.hid (ints_out hO2 (show w.heap.size ≤ w.heap.size+1 by omega) hQB.out.bel)
   clear hO2 hke hwl
   go_wp2_with fail
   go_ret
   exact hfin.out
set_option maxRecDepth 100000 in
set_option maxHeartbeats 16000000 in
theorem rbetter_any (x:PbM) (a b:PnM) (w:World) (hP0:RPb w x) (hA0:RPn w a) (hB0:RPn w b) (hF:x.Fit) (hFa:a.Fit) (hFb:b.Fit) (hl:x.loads.length ≤ 1000) :
  Calls Tryz.prog 95 #[x.v,a.v,b.v] w fun e w' => e = .returned (.bool (x.p.better a.x b.x))∧Below w.heap.size w w':=by
 have hP:=Lib.hid hP0
 have hA:=Lib.hid hA0
 have hB:=Lib.hid hB0
 have hva:=fun W (h:RPb W x) (h2:RPn W a) => rrun_any x a W h h2 hF hFa
 have hvb:=fun W (h:RPb W x) (h2:RPn W b) => rrun_any x b W h h2 hF hFb
 have hbt:x.p.better a.x b.x=if x.p.err a.x ≠ 0 then false else if x.p.err b.x ≠ 0 then true else if (x.p.trace a.x).cost < (x.p.trace b.x).cost then true else if (x.p.trace b.x).cost < (x.p.trace a.x).cost then false else ltL a.x.list b.x.list:=rfl
 have hll:x.p.loads.length=x.loads.length:=by simp [PbM.p]
 have hn0:x.p.n=x.buy.l.length:=rfl
 have hla:x.p.err a.x=0→a.charge.l.length=x.buy.l.length∧a.heat.l.length=x.buy.l.length∧x.buy.l.length ≤ 1000∧a.start.l.length=x.loads.length:=fun h => by
  obtain ⟨h1,h2,h3,h4⟩:=Pb.err_sized h
  have h5:=(Pb.nbd (Pb.good h1)).2
  have h2:a.charge.l.length=x.p.n:=h2
  have h3:a.heat.l.length=x.p.n:=h3
  have h4:a.start.l.length=x.p.loads.length:=h4
  omega
 have hlb:x.p.err b.x=0→b.charge.l.length=x.buy.l.length∧b.heat.l.length=x.buy.l.length∧x.buy.l.length ≤ 1000∧b.start.l.length=x.loads.length:=fun h => by
  obtain ⟨h1,h2,h3,h4⟩:=Pb.err_sized h
  have h5:=(Pb.nbd (Pb.good h1)).2
  have h2:b.charge.l.length=x.p.n:=h2
  have h3:b.heat.l.length=x.p.n:=h3
  have h4:b.start.l.length=x.p.loads.length:=h4
  omega
 have hLA:=fun (h:x.p.err a.x=0) W (q:RPn W a) => rlist_any a x.buy.l.length W q (hla h).1 (hla h).2.1 (hla h).2.2.1 (by rw [(hla h).2.2.2]; exact hl)
 have hLB:=fun (h:x.p.err b.x=0) W (q:RPn W b) => rlist_any b x.buy.l.length W q (hlb h).1 (hlb h).2.1 (hlb h).2.2.1 (by rw [(hlb h).2.2.2]; exact hl)
 have hlen:x.p.err a.x=0→x.p.err b.x=0→a.x.list.length=b.x.list.length∧a.x.list.length ≤ 4000:=fun h h' => by
  obtain ⟨h1,h2,h3,h4⟩:=hla h
  obtain ⟨k1,k2,k3,k4⟩:=hlb h'
  unfold Pn.list
  rw [List.length_append,flatM_len,List.length_append,flatM_len]
  have z1:a.x.ways.length=x.buy.l.length:=by unfold Pn.ways; rw [List.length_zip]; show min a.charge.l.length a.heat.l.length=_; omega
  have z2:b.x.ways.length=x.buy.l.length:=by unfold Pn.ways; rw [List.length_zip]; show min b.charge.l.length b.heat.l.length=_; omega
  have h5:a.x.start.length=a.start.l.length:=rfl
  have h6:b.x.start.length=b.start.l.length:=rfl
  omega
 rw [hbt]
 clear hbt hll hla hlb hn0 hP0 hA0 hB0 hF hFa hFb hl
 have hst0:=B3.start x a b w
 simp only [PbM.v,PnM.v]
 obtain ⟨W,hW⟩:∃ W,W=((w.alloc (.cells x.cs 31)).alloc (.cells #[.slice a.charge.A a.charge.l.length a.charge.c,.slice a.heat.A a.heat.l.length a.heat.c,.slice a.start.A a.start.l.length a.start.c] 48)).alloc (.cells #[.slice b.charge.A b.charge.l.length b.charge.c,.slice b.heat.A b.heat.l.length b.heat.c,.slice b.start.A b.start.l.length b.start.c] 48):=⟨_,rfl⟩
 simp only [PbM.cs] at hW
 rw [show ((w.alloc (.cells x.cs 31)).alloc (.cells a.cs 48)).alloc (.cells b.cs 48)=W from hW.symm] at hst0
 have hst:=Lib.hid hst0
 have hWH:=Lib.hid hW
 clear hst0 hW
 generalize x.p.err a.x=ea at *
 generalize x.p.err b.x=eb at *
 generalize x.p.trace a.x=ta at *
 generalize x.p.trace b.x=tb at *
 generalize a.x.list=la at *
 generalize b.x.list=lb at *
 have HVA:=Lib.hid hva
 have HVB:=Lib.hid hvb
 clear hva hvb
 by_cases ha:ea=0
 ·rw [if_neg (by simp [ha])]
  by_cases hb:eb=0
  ·rw [if_neg (by simp [hb])]
   have HLA:=Lib.hid (hLA ha)
   have HLB:=Lib.hid (hLB hb)
   have HNE:=Lib.hid (hlen ha hb)
   have ha1:(ea != 0)=false:=by simp [ha]
   have hb1:(eb != 0)=false:=by simp [hb]
   clear hLA hLB hlen ha hb
   by_cases h1:ta.cost=tb.cost
   ·rw [if_neg (by omega),if_neg (by omega)]
    obtain ⟨he,hle⟩:=HNE.out
    have hdr:=fun i (q1:i < la.length) => ltL_drop (a:=la) (b:=lb) q1 (by omega)
    have HDR:=Lib.hid hdr
    obtain ⟨T,hT⟩:∃ T,T=ltL la lb:=⟨_,rfl⟩
    have HT0:Hid (T=ltL (la.drop 0) (lb.drop 0)):=hT
    rw [← hT]
    have HEQ:=Lib.hid he
    clear hdr hT he
    go_enter Tryz.func95,Tryz.ntmps95
    go_upto_region 1 with fail
    rw [← hWH.out]
    clear hWH
    go_wp2_with (first | refine wpList_load_problem rfl _ rfl w.heap.size rfl x hst.out.p ?_ | refine wpList_load_plan rfl _ rfl (w.heap.size+1) rfl a hst.out.a ?_ | refine wpList_load_plan rfl _ rfl (w.heap.size+2) rfl b hst.out.b ?_)
    refine (HVA.out _ (hst.out.pr hP.out) (hA.out.below hst.out.bel)).mono ?_
    rintro e w1 ⟨ma,hma,rfl, -,hb1⟩
    have HX1:=Lib.hid (hst.out.below hb1)
    have HCA:Hid (ma.cost=ta.cost):=by show _=_; rw [← hma]; rfl
    clear hb1 hst hma
    simp only [TrM.v]
    go_upto_region 2 with fail
    obtain ⟨w2,hw2⟩:∃ v,v=w1.alloc (.cells #[.slice ma.net.A ma.net.l.length ma.net.c,.slice ma.level.A ma.level.l.length ma.level.c,.slice ma.temp.A ma.temp.l.length ma.temp.c,.int .i64 ma.cost] 128):=⟨_,rfl⟩
    obtain ⟨g1,hg1⟩:∃ n,n=w1.heap.size:=⟨_,rfl⟩
    try rw [← hw2, ← hg1]
    have hb2:Below w1.heap.size w1 w2:=by rw [hw2]; exact below_al (Below.refl _ _)
    have hk2:Blk w2 g1 128 #[.slice ma.net.A ma.net.l.length ma.net.c,.slice ma.level.A ma.level.l.length ma.level.c,.slice ma.temp.A ma.temp.l.length ma.temp.c,.int .i64 ma.cost]:=by rw [hw2,hg1]; exact Blk.new _ _ _
    have HX2:=Lib.hid (HX1.out.below hb2)
    have HK2:=Lib.hid hk2
    clear hw2 hg1 hb2 hk2 HX1
    go_wp2_with (first | refine wpList_load_problem rfl _ rfl w.heap.size rfl x HX2.out.p ?_ | refine wpList_load_plan rfl _ rfl (w.heap.size+1) rfl a HX2.out.a ?_ | refine wpList_load_plan rfl _ rfl (w.heap.size+2) rfl b HX2.out.b ?_)
    refine (HVB.out _ (HX2.out.pr hP.out) (hB.out.below HX2.out.bel)).mono ?_
    rintro e w3 ⟨mb,hmb,rfl, -,hb3⟩
    have HX3:=Lib.hid (HX2.out.below hb3)
    have HK3:=Lib.hid (HK2.out.below hb3 HK2.out.lt)
    have HCB:Hid (mb.cost=tb.cost):=by show _=_; rw [← hmb]; rfl
    clear hb3 HX2 HK2 hmb
    simp only [TrM.v]
    go_upto_region 3 with fail
    obtain ⟨w4,hw4⟩:∃ v,v=w3.alloc (.cells #[.slice mb.net.A mb.net.l.length mb.net.c,.slice mb.level.A mb.level.l.length mb.level.c,.slice mb.temp.A mb.temp.l.length mb.temp.c,.int .i64 mb.cost] 128):=⟨_,rfl⟩
    obtain ⟨g2,hg2⟩:∃ n,n=w3.heap.size:=⟨_,rfl⟩
    try rw [← hw4, ← hg2]
    have hb4:Below w3.heap.size w3 w4:=by rw [hw4]; exact below_al (Below.refl _ _)
    have hk4:Blk w4 g2 128 #[.slice mb.net.A mb.net.l.length mb.net.c,.slice mb.level.A mb.level.l.length mb.level.c,.slice mb.temp.A mb.temp.l.length mb.temp.c,.int .i64 mb.cost]:=by rw [hw4,hg2]; exact Blk.new _ _ _
    have HX4:=Lib.hid (HX3.out.below hb4)
    have HKA:=Lib.hid (HK3.out.below hb4 HK3.out.lt)
    have HKB:=Lib.hid hk4
    clear hw4 hg2 hb4 hk4 HX3 HK3
    have hcn:(ma.cost != mb.cost)=false:=by rw [bne_eq_false_iff_eq,HCA.out,HCB.out]; exact h1
    clear h1
    have y0:=HKA.out.cell 3
    have y1:=HKB.out.cell 3
    simp at y0 y1
    obtain ⟨c0, -⟩:=PbC.of_blk HX4.out.p
    go_upto_region 8 with fail
    clear y0 y1 c0
    have a0:=HX4.out.a.cell 0
    have a1:=HX4.out.a.cell 1
    have a2:=HX4.out.a.cell 2
    have b0:=HX4.out.b.cell 0
    have b1:=HX4.out.b.cell 1
    have b2:=HX4.out.b.cell 2
    simp [PnM.cs] at a0 a1 a2 b0 b1 b2
    refine wp_region_held_drew (S:=(fun w' => Below w4.heap.size w4 w'∧w'.cell? ⟨w.heap.size+1,0,none⟩=some (.slice a.charge.A a.charge.l.length a.charge.c)∧w'.cell? ⟨w.heap.size+1,1,none⟩=some (.slice a.heat.A a.heat.l.length a.heat.c)∧w'.cell? ⟨w.heap.size+1,2,none⟩=some (.slice a.start.A a.start.l.length a.start.c)∧w'.cell? ⟨w.heap.size+2,0,none⟩=some (.slice b.charge.A b.charge.l.length b.charge.c)∧w'.cell? ⟨w.heap.size+2,1,none⟩=some (.slice b.heat.A b.heat.l.length b.heat.c)∧w'.cell? ⟨w.heap.size+2,2,none⟩=some (.slice b.start.A b.start.l.length b.start.c))) (by kernel_rfl) (⟨(Below.drew (Below.refl _ _)),a0,a1,a2,b0,b1,b2⟩) (fun hHeld => ?_)
    refine tk 0 ?_
    try simp only [jA,jB,Act.put,jD,jE,jF]
    refine tk 1 ?_
    try simp only [jA,jB,jC,Act.put,jD,jE,jF]
    refine tk 3 ?_
    try simp only [jA,jB,jC,Act.put,jD,jE,jF]
    refine tk 4 ?_
    try simp only [jA,jB,jC,Act.put,jD,jE,jF]
    refine wpAnyH_ready (rs := [2]) (by kernel_rfl) (by simp) ?_
    refine AllReadyH.cons rfl (fun K hK => ?_) AllReadyH.nil
    have HKK:=Lib.hid hK
    clear hK
    go_simp
    refine (HLA.out _ ((hA.out.below HX4.out.bel).below (Below.drew (Below.refl w4.heap.size w4)))).mono ?_
    rintro e' w5 ⟨A1,c1,rfl,hr1,hf1,hbw5⟩
    have hBw5:=below_tr hHeld.1 hbw5
    go_wp2_with fail
    refine HKK.out _ _ (⟨hBw5,cell_below a0 hBw5,cell_below a1 hBw5,cell_below a2 hBw5,cell_below b0 hBw5,cell_below b1 hBw5,cell_below b2 hBw5⟩) (fun hH2 => ?_)
    clear HKK K
    replace hHeld:=hH2
    clear hH2
    try simp only [jA,jB,jC,Act.put,jD,jE,jF]
    refine wpAnyH_ready (rs := [5]) (by kernel_rfl) (by simp) ?_
    refine AllReadyH.cons rfl (fun K hK => ?_) AllReadyH.nil
    have HKK:=Lib.hid hK
    clear hK
    go_simp
    refine (HLB.out _ ((hB.out.below HX4.out.bel).below hBw5)).mono ?_
    rintro e' w6 ⟨A2,c2,rfl,hr2,hf2,hbw6⟩
    have hBw6:=below_tr hHeld.1 hbw6
    go_wp2_with fail
    refine HKK.out _ _ (⟨hBw6,cell_below a0 hBw6,cell_below a1 hBw6,cell_below a2 hBw6,cell_below b0 hBw6,cell_below b1 hBw6,cell_below b2 hBw6⟩) (fun hH2 => ?_)
    clear HKK K
    replace hHeld:=hH2
    clear hH2
    try simp only [jA,jB,jC,Act.put,jD,jE,jF]
    refine tk 6 ?_
    try simp only [jA,jB,jC,Act.put,jD,jE,jF]
    refine tk 7 ?_
    try simp only [jA,jB,jC,Act.put,jD,jE,jF]
    refine wpAnyH_done (by kernel_rfl) ?_ _
    have HB6:=Lib.hid (HX4.out.bel.trans (hBw6.mono HX4.out.bel.size))
    have HR1:=Lib.hid (hr1.below hbw6)
    have HR2:=Lib.hid hr2
    clear hHeld hr1 hr2 hf1 hf2 hBw5 hBw6 hbw5 hbw6 a0 a1 a2 b0 b1 b2 HX4
    go_wp2_with fail
    go_loopw [14] (fun s14 wr => ∃ k:Nat,k ≤ la.length∧s14 = .int .i64 k∧Hid (Below w6.heap.size w6 wr)∧Hid (T=ltL (la.drop k) (lb.drop k)))
     (fun s14 _ => la.length - (intOf s14).toNat)
    case atStart => exact ⟨0,by omega,rfl,Below.refl _ _,HT0.out⟩
    case round =>
     obtain ⟨k,hk,rfl,hBk,hTK⟩:=hrel
     obtain ⟨wo,hwo⟩:∃ wo:World,wo=wr:=⟨_,rfl⟩
     subst hwo
     by_cases hlt:k < la.length
     ·have hlb:k < lb.length:=by have:=HEQ.out; omega
      obtain ⟨bA,oA,hAA,_,eA⟩:=HR1.out.at' hlt
      rw [getD_eq hlt] at eA
      obtain ⟨bB,oB,hBA,_,eB⟩:=HR2.out.at' hlb
      rw [getD_eq hlb] at eB
      have j1:(0:Int) ≤ (k:Int):=by omega
      have j2:(k:Int) < (la.length:Int):=by omega
      have j3:(k:Int) < (lb.length:Int):=by omega
      have hT2:=hTK.out
      rw [HDR.out k hlt] at hT2
      have eA:=cell_below eA hBk.out
      have eB:=cell_below eB hBk.out
      rw [hAA,hBA]
      clear hAA hBA
      generalize la.getD k 0=av at *
      generalize lb.getD k 0=bv at *
      by_cases q:av=bv
      ·subst q
       rw [if_neg (Int.lt_irrefl _),if_neg (Int.lt_irrefl _)] at hT2
       have hne:(av != av)=false:=by simp
       have HT2:=Lib.hid hT2
       clear hT2
       go_upto_region 12 with fail
       refine wp_region_held_drew (S:=(fun w' => w'.cell? ⟨bA,oA+k,none⟩=some (.int .i64 av)∧w'.cell? ⟨bB,oB+k,none⟩=some (.int .i64 av))) (by kernel_rfl) (⟨cell_below eA (Below.drew (Below.refl _ _)),cell_below eB (Below.drew (Below.refl _ _))⟩) (fun hHeld => ?_)
       refine tk 0 ?_
       try simp only [jA,jB,Act.put,jD,jE,jF]
       refine tk 1 ?_
       try simp only [jA,jB,jC,Act.put,jD,jE,jF]
       refine tk 2 ?_
       try simp only [jA,jB,jC,Act.put,jD,jE,jF]
       refine tk 3 ?_
       try simp only [jA,jB,jC,Act.put,jD,jE,jF]
       refine tk 4 ?_
       try simp only [jA,jB,jC,Act.put,jD,jE,jF]
       refine tk 5 ?_
       try simp only [jA,jB,jC,Act.put,jD,jE,jF]
       refine tk 6 ?_
       try simp only [jA,jB,jC,Act.put,jD,jE,jF]
       refine tk 7 ?_
       try simp only [jA,jB,jC,Act.put,jD,jE,jF]
       refine tk 8 ?_
       try simp only [jA,jB,jC,Act.put,jD,jE,jF]
       refine wpAnyH_done (by kernel_rfl) ?_ _
       clear hHeld
       have hBn:=Lib.hid (below_tr hBk.out (Below.drew (Below.refl wo.heap.size wo)))
       go_wp2_with fail
       go_roundw
       case rel => exact ⟨k+1,by omega,by go_num,hBn.out,HT2.out⟩
       case measure => simp [intOf]; omega
      ·have hT3:T=decide (av < bv):=by
        rw [hT2]
        by_cases q2:av < bv
        ·simp [q2]
        ·rw [if_neg q2,if_pos (by omega)]; simp [q2]
       have hne:(av != bv)=true:=by rw [bne_iff_ne]; exact q
       have HT3:=Lib.hid hT3
       clear hT2 hT3 q
       go_upto_region 12 with fail
       refine wp_region_held_drew (S:=(fun w' => w'.cell? ⟨bA,oA+k,none⟩=some (.int .i64 av)∧w'.cell? ⟨bB,oB+k,none⟩=some (.int .i64 bv))) (by kernel_rfl) (⟨cell_below eA (Below.drew (Below.refl _ _)),cell_below eB (Below.drew (Below.refl _ _))⟩) (fun hHeld => ?_)
       refine tk 0 ?_
       try simp only [jA,jB,Act.put,jD,jE,jF]
       refine tk 1 ?_
       try simp only [jA,jB,jC,Act.put,jD,jE,jF]
       refine tk 2 ?_
       try simp only [jA,jB,jC,Act.put,jD,jE,jF]
       refine tk 3 ?_
       try simp only [jA,jB,jC,Act.put,jD,jE,jF]
       refine tk 4 ?_
       try simp only [jA,jB,jC,Act.put,jD,jE,jF]
       refine tk 5 ?_
       try simp only [jA,jB,jC,Act.put,jD,jE,jF]
       refine tk 6 ?_
       try simp only [jA,jB,jC,Act.put,jD,jE,jF]
       refine tk 7 ?_
       try simp only [jA,jB,jC,Act.put,jD,jE,jF]
       refine tk 8 ?_
       try simp only [jA,jB,jC,Act.put,jD,jE,jF]
       refine wpAnyH_done (by kernel_rfl) ?_ _
       clear hHeld
       have eA:=cell_below eA (Below.drew (Below.refl wo.heap.size wo))
       have eB:=cell_below eB (Below.drew (Below.refl wo.heap.size wo))
       go_upto_region 13 with fail
       refine wp_region_held_drew (S:=(fun w' => w'.cell? ⟨bA,oA+k,none⟩=some (.int .i64 av)∧w'.cell? ⟨bB,oB+k,none⟩=some (.int .i64 bv))) (by kernel_rfl) (⟨cell_below eA (Below.drew (Below.refl _ _)),cell_below eB (Below.drew (Below.refl _ _))⟩) (fun hHeld => ?_)
       refine tk 0 ?_
       try simp only [jA,jB,Act.put,jD,jE,jF]
       refine tk 1 ?_
       try simp only [jA,jB,jC,Act.put,jD,jE,jF]
       refine tk 2 ?_
       try simp only [jA,jB,jC,Act.put,jD,jE,jF]
       refine tk 3 ?_
       try simp only [jA,jB,jC,Act.put,jD,jE,jF]
       refine tk 4 ?_
       try simp only [jA,jB,jC,Act.put,jD,jE,jF]
       refine tk 5 ?_
       try simp only [jA,jB,jC,Act.put,jD,jE,jF]
       refine tk 6 ?_
       try simp only [jA,jB,jC,Act.put,jD,jE,jF]
       refine tk 7 ?_
       try simp only [jA,jB,jC,Act.put,jD,jE,jF]
       refine tk 8 ?_
       try simp only [jA,jB,jC,Act.put,jD,jE,jF]
       refine tk 9 ?_
       try simp only [jA,jB,jC,Act.put,jD,jE,jF]
       refine wpAnyH_done (by kernel_rfl) ?_ _
       clear hHeld
       have hBn:=Lib.hid (HB6.out.trans ((below_tr hBk.out (below_tr (Below.drew (Below.refl wo.heap.size wo)) (Below.drew (Below.refl wo.drew.heap.size wo.drew)))).mono HB6.out.size))
       go_wp2_with fail
       go_ret
       exact ⟨by rw [HT3.out]; rfl,hBn.out⟩
     ·have hke:k=la.length:=by omega
      have j2:¬ (k:Int) < (la.length:Int):=by omega
      have HT2:Hid (T=false):=by
       show _=_
       have:=HEQ.out
       rw [hTK.out,(List.drop_eq_nil_of_le (by omega):la.drop k = []),(List.drop_eq_nil_of_le (by omega):lb.drop k = [])]
       rfl
      have hBn:=Lib.hid (HB6.out.trans (hBk.out.mono HB6.out.size))
      clear hke
      go_wp2_with fail
      go_ret
      exact ⟨by rw [HT2.out]; rfl,hBn.out⟩
   ·have hr:(if ta.cost < tb.cost then true else if tb.cost < ta.cost then false else ltL la lb)=decide (ta.cost < tb.cost):=by
     by_cases q:ta.cost < tb.cost
     ·simp [q]
     ·rw [if_neg q,if_pos (by omega)]; simp [q]
    rw [hr]
    clear hr
    go_enter Tryz.func95,Tryz.ntmps95
    go_upto_region 1 with fail
    rw [← hWH.out]
    clear hWH
    go_wp2_with (first | refine wpList_load_problem rfl _ rfl w.heap.size rfl x hst.out.p ?_ | refine wpList_load_plan rfl _ rfl (w.heap.size+1) rfl a hst.out.a ?_ | refine wpList_load_plan rfl _ rfl (w.heap.size+2) rfl b hst.out.b ?_)
    refine (HVA.out _ (hst.out.pr hP.out) (hA.out.below hst.out.bel)).mono ?_
    rintro e w1 ⟨ma,hma,rfl, -,hb1⟩
    have HX1:=Lib.hid (hst.out.below hb1)
    have HCA:Hid (ma.cost=ta.cost):=by show _=_; rw [← hma]; rfl
    clear hb1 hst hma
    simp only [TrM.v]
    go_upto_region 2 with fail
    obtain ⟨w2,hw2⟩:∃ v,v=w1.alloc (.cells #[.slice ma.net.A ma.net.l.length ma.net.c,.slice ma.level.A ma.level.l.length ma.level.c,.slice ma.temp.A ma.temp.l.length ma.temp.c,.int .i64 ma.cost] 128):=⟨_,rfl⟩
    obtain ⟨g1,hg1⟩:∃ n,n=w1.heap.size:=⟨_,rfl⟩
    try rw [← hw2, ← hg1]
    have hb2:Below w1.heap.size w1 w2:=by rw [hw2]; exact below_al (Below.refl _ _)
    have hk2:Blk w2 g1 128 #[.slice ma.net.A ma.net.l.length ma.net.c,.slice ma.level.A ma.level.l.length ma.level.c,.slice ma.temp.A ma.temp.l.length ma.temp.c,.int .i64 ma.cost]:=by rw [hw2,hg1]; exact Blk.new _ _ _
    have HX2:=Lib.hid (HX1.out.below hb2)
    have HK2:=Lib.hid hk2
    clear hw2 hg1 hb2 hk2 HX1
    go_wp2_with (first | refine wpList_load_problem rfl _ rfl w.heap.size rfl x HX2.out.p ?_ | refine wpList_load_plan rfl _ rfl (w.heap.size+1) rfl a HX2.out.a ?_ | refine wpList_load_plan rfl _ rfl (w.heap.size+2) rfl b HX2.out.b ?_)
    refine (HVB.out _ (HX2.out.pr hP.out) (hB.out.below HX2.out.bel)).mono ?_
    rintro e w3 ⟨mb,hmb,rfl, -,hb3⟩
    have HX3:=Lib.hid (HX2.out.below hb3)
    have HK3:=Lib.hid (HK2.out.below hb3 HK2.out.lt)
    have HCB:Hid (mb.cost=tb.cost):=by show _=_; rw [← hmb]; rfl
    clear hb3 HX2 HK2 hmb
    simp only [TrM.v]
    go_upto_region 3 with fail
    obtain ⟨w4,hw4⟩:∃ v,v=w3.alloc (.cells #[.slice mb.net.A mb.net.l.length mb.net.c,.slice mb.level.A mb.level.l.length mb.level.c,.slice mb.temp.A mb.temp.l.length mb.temp.c,.int .i64 mb.cost] 128):=⟨_,rfl⟩
    obtain ⟨g2,hg2⟩:∃ n,n=w3.heap.size:=⟨_,rfl⟩
    try rw [← hw4, ← hg2]
    have hb4:Below w3.heap.size w3 w4:=by rw [hw4]; exact below_al (Below.refl _ _)
    have hk4:Blk w4 g2 128 #[.slice mb.net.A mb.net.l.length mb.net.c,.slice mb.level.A mb.level.l.length mb.level.c,.slice mb.temp.A mb.temp.l.length mb.temp.c,.int .i64 mb.cost]:=by rw [hw4,hg2]; exact Blk.new _ _ _
    have HX4:=Lib.hid (HX3.out.below hb4)
    have HKA:=Lib.hid (HK3.out.below hb4 HK3.out.lt)
    have HKB:=Lib.hid hk4
    clear hw4 hg2 hb4 hk4 HX3 HK3
    have hcn:(ma.cost != mb.cost)=true:=by rw [bne_iff_ne,HCA.out,HCB.out]; exact h1
    clear h1
    have y0:=HKA.out.cell 3
    have y1:=HKB.out.cell 3
    simp at y0 y1
    go_wp2_with fail
    go_ret
    exact ⟨by rw [HCA.out,HCB.out]; rfl,HX4.out.bel⟩
  ·rw [if_pos hb]
   have ha1:(ea != 0)=false:=by simp [ha]
   have ha2:(ea == 0)=true:=by simp [ha]
   have hb1:(eb != 0)=true:=by simp [hb]
   clear hLA hLB hlen ha hb
   go_enter Tryz.func95,Tryz.ntmps95
   go_upto_region 1 with fail
   rw [← hWH.out]
   clear hWH
   go_wp2_with (first | refine wpList_load_problem rfl _ rfl w.heap.size rfl x hst.out.p ?_ | refine wpList_load_plan rfl _ rfl (w.heap.size+1) rfl a hst.out.a ?_ | refine wpList_load_plan rfl _ rfl (w.heap.size+2) rfl b hst.out.b ?_)
   refine (HVA.out _ (hst.out.pr hP.out) (hA.out.below hst.out.bel)).mono ?_
   rintro e w1 ⟨ma,hma,rfl, -,hb1⟩
   have HX1:=Lib.hid (hst.out.below hb1)
   have HCA:Hid (ma.cost=ta.cost):=by show _=_; rw [← hma]; rfl
   clear hb1 hst hma
   simp only [TrM.v]
   go_upto_region 2 with fail
   obtain ⟨w2,hw2⟩:∃ v,v=w1.alloc (.cells #[.slice ma.net.A ma.net.l.length ma.net.c,.slice ma.level.A ma.level.l.length ma.level.c,.slice ma.temp.A ma.temp.l.length ma.temp.c,.int .i64 ma.cost] 128):=⟨_,rfl⟩
   obtain ⟨g1,hg1⟩:∃ n,n=w1.heap.size:=⟨_,rfl⟩
   try rw [← hw2, ← hg1]
   have hb2:Below w1.heap.size w1 w2:=by rw [hw2]; exact below_al (Below.refl _ _)
   have hk2:Blk w2 g1 128 #[.slice ma.net.A ma.net.l.length ma.net.c,.slice ma.level.A ma.level.l.length ma.level.c,.slice ma.temp.A ma.temp.l.length ma.temp.c,.int .i64 ma.cost]:=by rw [hw2,hg1]; exact Blk.new _ _ _
   have HX2:=Lib.hid (HX1.out.below hb2)
   have HK2:=Lib.hid hk2
   clear hw2 hg1 hb2 hk2 HX1
   go_wp2_with (first | refine wpList_load_problem rfl _ rfl w.heap.size rfl x HX2.out.p ?_ | refine wpList_load_plan rfl _ rfl (w.heap.size+1) rfl a HX2.out.a ?_ | refine wpList_load_plan rfl _ rfl (w.heap.size+2) rfl b HX2.out.b ?_)
   refine (HVB.out _ (HX2.out.pr hP.out) (hB.out.below HX2.out.bel)).mono ?_
   rintro e w3 ⟨mb,hmb,rfl, -,hb3⟩
   have HX3:=Lib.hid (HX2.out.below hb3)
   have HK3:=Lib.hid (HK2.out.below hb3 HK2.out.lt)
   have HCB:Hid (mb.cost=tb.cost):=by show _=_; rw [← hmb]; rfl
   clear hb3 HX2 HK2 hmb
   simp only [TrM.v]
   go_upto_region 3 with fail
   obtain ⟨w4,hw4⟩:∃ v,v=w3.alloc (.cells #[.slice mb.net.A mb.net.l.length mb.net.c,.slice mb.level.A mb.level.l.length mb.level.c,.slice mb.temp.A mb.temp.l.length mb.temp.c,.int .i64 mb.cost] 128):=⟨_,rfl⟩
   obtain ⟨g2,hg2⟩:∃ n,n=w3.heap.size:=⟨_,rfl⟩
   try rw [← hw4, ← hg2]
   have hb4:Below w3.heap.size w3 w4:=by rw [hw4]; exact below_al (Below.refl _ _)
   have hk4:Blk w4 g2 128 #[.slice mb.net.A mb.net.l.length mb.net.c,.slice mb.level.A mb.level.l.length mb.level.c,.slice mb.temp.A mb.temp.l.length mb.temp.c,.int .i64 mb.cost]:=by rw [hw4,hg2]; exact Blk.new _ _ _
   have HX4:=Lib.hid (HX3.out.below hb4)
   have HKA:=Lib.hid (HK3.out.below hb4 HK3.out.lt)
   have HKB:=Lib.hid hk4
   clear hw4 hg2 hb4 hk4 HX3 HK3
   go_wp2_with fail
   go_ret
   exact ⟨rfl,HX4.out.bel⟩
 ·rw [if_pos ha]
  have ha1:(ea != 0)=true:=by simp [ha]
  have ha2:(ea == 0)=false:=by simp [ha]
  clear hLA hLB hlen ha
  go_enter Tryz.func95,Tryz.ntmps95
  go_upto_region 1 with fail
  rw [← hWH.out]
  clear hWH
  go_wp2_with (first | refine wpList_load_problem rfl _ rfl w.heap.size rfl x hst.out.p ?_ | refine wpList_load_plan rfl _ rfl (w.heap.size+1) rfl a hst.out.a ?_ | refine wpList_load_plan rfl _ rfl (w.heap.size+2) rfl b hst.out.b ?_)
  refine (HVA.out _ (hst.out.pr hP.out) (hA.out.below hst.out.bel)).mono ?_
  rintro e w1 ⟨ma,hma,rfl, -,hb1⟩
  have HX1:=Lib.hid (hst.out.below hb1)
  have HCA:Hid (ma.cost=ta.cost):=by show _=_; rw [← hma]; rfl
  clear hb1 hst hma
  simp only [TrM.v]
  go_upto_region 2 with fail
  obtain ⟨w2,hw2⟩:∃ v,v=w1.alloc (.cells #[.slice ma.net.A ma.net.l.length ma.net.c,.slice ma.level.A ma.level.l.length ma.level.c,.slice ma.temp.A ma.temp.l.length ma.temp.c,.int .i64 ma.cost] 128):=⟨_,rfl⟩
  obtain ⟨g1,hg1⟩:∃ n,n=w1.heap.size:=⟨_,rfl⟩
  try rw [← hw2, ← hg1]
  have hb2:Below w1.heap.size w1 w2:=by rw [hw2]; exact below_al (Below.refl _ _)
  have hk2:Blk w2 g1 128 #[.slice ma.net.A ma.net.l.length ma.net.c,.slice ma.level.A ma.level.l.length ma.level.c,.slice ma.temp.A ma.temp.l.length ma.temp.c,.int .i64 ma.cost]:=by rw [hw2,hg1]; exact Blk.new _ _ _
  have HX2:=Lib.hid (HX1.out.below hb2)
  have HK2:=Lib.hid hk2
  clear hw2 hg1 hb2 hk2 HX1
  go_wp2_with (first | refine wpList_load_problem rfl _ rfl w.heap.size rfl x HX2.out.p ?_ | refine wpList_load_plan rfl _ rfl (w.heap.size+1) rfl a HX2.out.a ?_ | refine wpList_load_plan rfl _ rfl (w.heap.size+2) rfl b HX2.out.b ?_)
  refine (HVB.out _ (HX2.out.pr hP.out) (hB.out.below HX2.out.bel)).mono ?_
  rintro e w3 ⟨mb,hmb,rfl, -,hb3⟩
  have HX3:=Lib.hid (HX2.out.below hb3)
  have HK3:=Lib.hid (HK2.out.below hb3 HK2.out.lt)
  have HCB:Hid (mb.cost=tb.cost):=by show _=_; rw [← hmb]; rfl
  clear hb3 HX2 HK2 hmb
  simp only [TrM.v]
  go_upto_region 3 with fail
  obtain ⟨w4,hw4⟩:∃ v,v=w3.alloc (.cells #[.slice mb.net.A mb.net.l.length mb.net.c,.slice mb.level.A mb.level.l.length mb.level.c,.slice mb.temp.A mb.temp.l.length mb.temp.c,.int .i64 mb.cost] 128):=⟨_,rfl⟩
  obtain ⟨g2,hg2⟩:∃ n,n=w3.heap.size:=⟨_,rfl⟩
  try rw [← hw4, ← hg2]
  have hb4:Below w3.heap.size w3 w4:=by rw [hw4]; exact below_al (Below.refl _ _)
  have hk4:Blk w4 g2 128 #[.slice mb.net.A mb.net.l.length mb.net.c,.slice mb.level.A mb.level.l.length mb.level.c,.slice mb.temp.A mb.temp.l.length mb.temp.c,.int .i64 mb.cost]:=by rw [hw4,hg2]; exact Blk.new _ _ _
  have HX4:=Lib.hid (HX3.out.below hb4)
  have HKA:=Lib.hid (HK3.out.below hb4 HK3.out.lt)
  have HKB:=Lib.hid hk4
  clear hw4 hg2 hb4 hk4 HX3 HK3
  go_wp2_with fail
  go_ret
  exact ⟨rfl,HX4.out.bel⟩
end Go.Proofs.YtnppngaabfhkpaaGreat
