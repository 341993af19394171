/-
  The walks of layer 44 (control), part 6: the problem of the next slot.
-/
import Derived.Test.YtnppngaabfhkpaaGreatEC4
namespace Go.Proofs.YtnppngaabfhkpaaGreat
open Go.RowKit
attribute [local go_sem ↓] Go.wp_at_zero Go.wp_at_succ
section
variable {ops:Array Oper} {rest:List Oper} {o:Oper} {a:Act} {W:World} {Q:Exit→Act→World→Prop}
theorem wpList_load_problemD (hgd:o.guard=none) (s:Operand) (ho:o.op = .load 31 s) (g:Nat) (hx:a.eval s = .pointer (some ⟨g,0,none⟩)) (x:PbM) {t:TypeId} (h:Blk W g t x.cs) (hk:wpList Tryz.prog ops Q rest (a.put o.dst (.agg #[.slice x.buy.A x.buy.l.length x.buy.c,.slice x.sell.A x.sell.l.length x.sell.c,.int .i64 x.fuse,.slice x.solar.A x.solar.l.length x.solar.c,.slice x.demand.A x.demand.l.length x.demand.c,.slice x.outside.A x.outside.l.length x.outside.c,.int .i64 x.bat.cap,.int .i64 x.bat.reserve,.int .i64 x.bat.charge,.int .i64 x.bat.discharge,.int .i64 x.bat.eff,.int .i64 x.gain,.int .i64 x.loss,.int .i64 x.steps,.int .i64 x.power,.slice x.low.A x.low.l.length x.low.c,.slice x.high.A x.high.l.length x.high.c,.slice x.LA x.loads.length x.lc,.int .i64 x.level,.int .i64 x.temp])) W) :
  wpList Tryz.prog ops Q (o :: rest) a W:=wpList_load_blk 31 (by kernel_rfl) (by kernel_rfl) hgd s ho g hx h hk
end
def PbM.nil:PbM:=⟨⟨none,0, []⟩,⟨none,0, []⟩,0,⟨none,0, []⟩,⟨none,0, []⟩,⟨none,0, []⟩,⟨0,0,0,0,0⟩,0,0,0,0,⟨none,0, []⟩,⟨none,0, []⟩,none,0, [],0,0⟩
theorem PbM.cs_oneC (x:PbM):x.cs.all (·.oneCell')=true:=by simp [PbM.cs,Value.oneCell']
structure PbNew (B:Nat) (x:PbM):Prop where
 buy:∀ ad,x.buy.A=some ad→B ≤ ad.block
 sell:∀ ad,x.sell.A=some ad→B ≤ ad.block
 solar:∀ ad,x.solar.A=some ad→B ≤ ad.block
 demand:∀ ad,x.demand.A=some ad→B ≤ ad.block
 outside:∀ ad,x.outside.A=some ad→B ≤ ad.block
 low:∀ ad,x.low.A=some ad→B ≤ ad.block
 high:∀ ad,x.high.A=some ad→B ≤ ad.block
 loads:∀ ad,x.LA=some ad→B ≤ ad.block
 profs:∀ y ∈ x.loads, ∀ ad,y.A=some ad→B ≤ ad.block
def AdvOut (p:Pb) (d:Dc) (w:World) (e:Ending) (w':World):Prop :=
 (p.advE d=0∧∃ (m:PbM) (A2:Option Addr) (c2:Nat),e = .returned (.tuple #[m.v,.slice A2 (p.whichs d p.loads.length).length c2,.int .i64 0])∧m.p=p.adv d∧RPb w' m∧m.Fit∧m.Cap∧PbNew w.heap.size m∧RInts w' A2 (natI (p.whichs d p.loads.length))∧(p.whichs d p.loads.length).length ≤ c2∧(∀ ad,A2=some ad→w.heap.size ≤ ad.block)∧Below w.heap.size w w') ∨
 (p.advE d ≠ 0∧e = .returned (.tuple #[PbM.nil.v,.slice none 0 0,.int .i64 (p.advE d)])∧Below w.heap.size w w')
theorem RLoads.far {w w':World} {A:Option Addr} {l:List LdM} {k:Nat} (h:RLoads w A l) (hg:w.grownBy w' (some k)) (hA:∀ ad,A=some ad→ad.block ≠ k) (hp:∀ y ∈ l, ∀ ad,y.A=some ad→ad.block ≠ k):RLoads w' A l:=by
 refine ⟨⟨h.cells.1,fun hn => ?_⟩,fun y hy => (h.profs y hy).other hg fun ad e h2 => hp y hy ad e (by injection h2)⟩
 obtain ⟨ad,e,hb,hc⟩:=h.cells.2 hn
 refine ⟨ad,e,Nat.lt_of_lt_of_le hb hg.size,fun j u hu => ?_⟩
 rw [World.cell?_of_block (hg.block (ad.add j).block (by rw [block_of_add]; exact hb) (by rw [block_of_add]; intro h2; injection h2 with h2; exact hA ad e h2))]
 exact hc j u hu
structure AD (x:PbM) (d:DcM) (w wr:World):Prop where
 p:Blk wr w.heap.size 31 x.cs
 q:Blk wr (w.heap.size+1) 39 d.cs
 r:Blk wr (w.heap.size+2) 31 PbM.nil.cs
 bel:Below w.heap.size w wr
section
variable {x:PbM} {d:DcM} {w wr w1:World}
theorem AD.start (x:PbM) (d:DcM) (w:World):AD x d w (((w.alloc (.cells x.cs 31)).alloc (.cells d.cs 39)).alloc (.cells PbM.nil.cs 31)):=by
 obtain ⟨h1,h2,h3,h4,h5⟩:=three_boxes (w:=w) (cs:=x.cs) (t:=31) (cs2:=d.cs) (t2:=39) (cs3:=PbM.nil.cs) (t3:=31) (Below.refl _ _)
 exact ⟨h1,h2,h3,h5⟩
theorem AD.lt (h:AD x d w wr):w.heap.size+3 ≤ wr.heap.size:=h.r.lt
theorem AD.below (h:AD x d w wr) (hb:Below wr.heap.size wr w1):AD x d w w1:=⟨h.p.below hb h.p.lt,h.q.below hb h.q.lt,h.r.below hb h.r.lt,h.bel.trans (hb.mono h.bel.size)⟩
end
theorem adv_ret {tmps:Array Value} {w W:World} {cs:Array Value} {A2:Option Addr} {n c2:Nat} {er:Int} {P:Ending→World→Prop} {t:TypeId} (hs:cs.size=20) (h:Blk W (w.heap.size+2) t cs)
  (h4:tmps.getD 4 undef = .pointer (some ⟨w.heap.size+2,0,none⟩)) (h5:tmps.getD 5 undef = .slice A2 n c2) (h6:tmps.getD 6 undef = .int .i64 er)
  (hP:P (.returned (.tuple #[.agg cs,.slice A2 n c2,.int .i64 er])) W) :
  bodyPost Tryz.prog Tryz.f34 P .ret { tmps:=tmps,defers := [] } W:=by
 have hl:=run_load_blk (P:=Tryz.prog) (ty:=31) (by kernel_rfl) (by rw [hs]; kernel_rfl) h
 have h4':tmps[4]?.getD undef = .pointer (some ⟨w.heap.size+2,0,none⟩):=by simpa using h4
 have h5':tmps[5]?.getD undef = .slice A2 n c2:=by simpa using h5
 have h6':tmps[6]?.getD undef = .int .i64 er:=by simpa using h6
 refine bodyPost_ret (v := .tuple #[.agg cs,.slice A2 n c2,.int .i64 er]) (by simp [results,Tryz.results34,h4',h5',h6',asAddr,hl]) rfl hP
theorem Pb.nexts_fit {p:Pb} {d:Dc} (g:p.Good) (h:p.okTo d p.loads.length=true):∀ y ∈ p.nexts d p.loads.length,y.prof.length ≤ 24 ∧ -1 ≤ y.late∧y.late ≤ 96:=by
 intro y hy
 unfold Pb.nexts at hy
 rw [List.mem_map] at hy
 obtain ⟨i,hi,rfl⟩:=hy
 have hi2:=(Pb.whichs_mem.1 hi).1
 have hl:=Ld.good (Pb.load_at g hi2)
 have l1:=hl.l1; have l2:=hl.n1; have l3:=hl.e0; have l4:=hl.el; have l5:=hl.p1; have l6:=hl.p; have l7:=hl.p0
 simp only [Pb.okTo,List.all_eq_true,List.mem_range] at h
 have ho:=h i hi2
 cases hb:d.starts.getD i false
 ·rw [hb] at ho
  have hcan:(p.loads.getD i Ld.zero).canShift 1=true:=by simpa [Ld.okNext] using ho
  have e:(p.loads.getD i Ld.zero).next false=(p.loads.getD i Ld.zero).moved 1:=by unfold Ld.next; rw [if_neg (by decide),Ld.shift_yes hcan]
  rw [e]
  show (p.loads.getD i Ld.zero).prof.length ≤ 24 ∧ -1 ≤ (p.loads.getD i Ld.zero).late - clampK 1∧(p.loads.getD i Ld.zero).late - clampK 1 ≤ 96
  unfold clampK
  rw [if_neg (by omega),if_neg (by omega)]
  omega
 ·show ((p.loads.getD i Ld.zero).prof.drop 1).length ≤ 24 ∧ -1 ≤ ((p.loads.getD i Ld.zero).prof.length:Int) - 1∧((p.loads.getD i Ld.zero).prof.length:Int) - 1 ≤ 96
  rw [List.length_drop]
  omega
set_option maxRecDepth 100000 in
set_option maxHeartbeats 64000000 in
theorem advance_any (x:PbM) (d:DcM) (w:World) (hP0:RPb w x) (hF:x.Fit) (hC:x.Cap) (hD0:RBools w d.A d.l) :
  Calls Tryz.prog 34 #[x.v,d.v] w (AdvOut x.p d.d w):=by
 have hP:=Lib.hid hP0
 have hD:=Lib.hid hD0
 have hap:=fun W (h:RPb W x) (h2:RBools W d.A d.l) => apply_any x d W h hF h2
 have hst0:=AD.start x d w
 simp only [PbM.v,DcM.v]
 obtain ⟨W,hW⟩:∃ W,W=((w.alloc (.cells x.cs 31)).alloc (.cells #[.int .i64 d.charge,.int .i64 d.heat,.slice d.A d.l.length d.c] 39)).alloc (.cells #[.slice none 0 0,.slice none 0 0,.int .i64 0,.slice none 0 0,.slice none 0 0,.slice none 0 0,.int .i64 0,.int .i64 0,.int .i64 0,.int .i64 0,.int .i64 0,.int .i64 0,.int .i64 0,.int .i64 0,.int .i64 0,.slice none 0 0,.slice none 0 0,.slice none 0 0,.int .i64 0,.int .i64 0] 31):=⟨_,rfl⟩
 simp only [PbM.cs] at hW
 rw [show ((w.alloc (.cells x.cs 31)).alloc (.cells d.cs 39)).alloc (.cells PbM.nil.cs 31)=W from hW.symm] at hst0
 have hst:=Lib.hid hst0
 have hWH:=Lib.hid hW
 clear hst0 hW hP0 hD0
 unfold ApplyOut at hap
 by_cases he:x.p.doE d.d=0
 ·have hc:x.p.chk=0:=Classical.byContradiction fun h => by rw [Pb.do_chk h] at he; exact h he
  have hcd:x.p.canDo d.d=0:=Classical.byContradiction fun h => by rw [Pb.do_can hc h] at he; exact h he
  have hg:=Pb.good hc
  obtain ⟨k1,k2,k3⟩:=Pb.ap_ok he
  rw [k1,k2,k3,he] at hap
  have hdl:d.l.length=x.loads.length:=by have h:d.l.length=x.p.loads.length:=(Pb.can_good hcd).1; rw [PbM.loads_len] at h; exact h
  have hnb:=Pb.nbd hg
  have hn1:1 ≤ x.buy.l.length:=hnb.1
  have hn2:x.buy.l.length ≤ 96:=hnb.2
  have n_buy:x.buy.l.length=x.buy.l.length:=rfl
  have n_sell:x.sell.l.length=x.buy.l.length:=(Tf.good hg.t).len
  have n_solar:x.solar.l.length=x.buy.l.length:=hg.lens.1
  have n_demand:x.demand.l.length=x.buy.l.length:=hg.lens.2.1
  have n_outside:x.outside.l.length=x.buy.l.length:=hg.lens.2.2
  have n_low:x.low.l.length=x.buy.l.length:=(Pb.room_ok hg).2.1
  have n_high:x.high.l.length=x.buy.l.length:=(Pb.room_ok hg).2.2.1
  have hae:x.p.advE d.d=if x.buy.l.length=1 then 2 else if x.p.okTo d.d x.p.loads.length=false then 20 else 0:=by unfold Pb.advE; rw [if_neg (fun e => e he)]; rfl
  have hlo:=fun W (h:RPb W x) (h2:RBools W d.A d.l) => cloads_any x d W h hF hC h2 hc hdl
  have hnf:=fun h => Pb.nexts_fit (d:=d.d) hg h
  have hadv:x.p.adv d.d=⟨⟨x.buy.l.drop 1,x.sell.l.drop 1,x.fuse⟩,x.solar.l.drop 1,x.demand.l.drop 1,x.outside.l.drop 1,x.bat,⟨x.gain,x.loss,x.steps,x.power,x.low.l.drop 1,x.high.l.drop 1⟩,x.p.nexts d.d x.p.loads.length,x.p.nextLv d.d,x.p.nextTm d.d⟩:=rfl
  have hT_buy:=fun W (h:RInts W x.buy.A x.buy.l) => crest_any x.buy.A x.buy.c x.buy.l W h (by omega) hC.buy (by omega)
  have hT_sell:=fun W (h:RInts W x.sell.A x.sell.l) => crest_any x.sell.A x.sell.c x.sell.l W h (by omega) hC.sell (by omega)
  have hT_solar:=fun W (h:RInts W x.solar.A x.solar.l) => crest_any x.solar.A x.solar.c x.solar.l W h (by omega) hC.solar (by omega)
  have hT_demand:=fun W (h:RInts W x.demand.A x.demand.l) => crest_any x.demand.A x.demand.c x.demand.l W h (by omega) hC.demand (by omega)
  have hT_outside:=fun W (h:RInts W x.outside.A x.outside.l) => crest_any x.outside.A x.outside.c x.outside.l W h (by omega) hC.outside (by omega)
  have hT_low:=fun W (h:RInts W x.low.A x.low.l) => crest_any x.low.A x.low.c x.low.l W h (by omega) hC.low (by omega)
  have hT_high:=fun W (h:RInts W x.high.A x.high.l) => crest_any x.high.A x.high.c x.high.l W h (by omega) hC.high (by omega)
  have hfl:(x.buy.l.drop 1).length ≤ maxLen:=by rw [List.length_drop]; unfold maxLen; omega
  generalize hE_buy:x.buy.l.drop 1=dbuy at *
  generalize hE_sell:x.sell.l.drop 1=dsell at *
  generalize hE_solar:x.solar.l.drop 1=dsolar at *
  generalize hE_demand:x.demand.l.drop 1=ddemand at *
  generalize hE_outside:x.outside.l.drop 1=doutside at *
  generalize hE_low:x.low.l.drop 1=dlow at *
  generalize hE_high:x.high.l.drop 1=dhigh at *
  have HT_buy:=Lib.hid hT_buy
  have HT_sell:=Lib.hid hT_sell
  have HT_solar:=Lib.hid hT_solar
  have HT_demand:=Lib.hid hT_demand
  have HT_outside:=Lib.hid hT_outside
  have HT_low:=Lib.hid hT_low
  have HT_high:=Lib.hid hT_high
  generalize x.p.nextLv d.d=nlv at *
  generalize x.p.nextTm d.d=ntm at *
  generalize x.p.nextNet d.d=nnt at *
  have HAP:=Lib.hid hap
  have HAE:=Lib.hid hae
  have HLO:=Lib.hid hlo
  have HNF:=Lib.hid hnf
  have HADV:=Lib.hid hadv
  have HFL:=Lib.hid hfl
  have HN1:=Lib.hid hn1
  clear hap hae hlo hnf hadv hfl hc hcd hg k1 k2 k3 he hdl hnb n_buy n_sell n_solar n_demand n_outside n_low n_high hF hC hT_buy hT_sell hT_solar hT_demand hT_outside hT_low hT_high       
  go_enter Tryz.func34,Tryz.ntmps34
  go_upto_region 1 with fail
  rw [← hWH.out]
  clear hWH
  go_wp2_with (first | refine wpList_load_problemG (by rfl) _ rfl w.heap.size rfl x hst.out.p ?_ | refine wpList_load_decG (by rfl) _ rfl (w.heap.size+1) rfl d hst.out.q ?_)
  refine (HAP.out _ (hP.out.below hst.out.bel) (hD.out.below hst.out.bel)).mono ?_
  rintro e w1 ⟨rfl,hb1⟩
  have HX1:=Lib.hid (hst.out.below hb1)
  clear hb1 hst HAP
  go_upto_region 4 with fail
  have c0:=HX1.out.p.cell 0
  simp [PbM.cs] at c0
  by_cases h1:x.buy.l.length=1
  ·have q1:((x.buy.l.length:Int) == 1)=true:=by rw [beq_iff_eq]; omega
   have HE2:Hid (x.p.advE d.d=2):=by show _=_; rw [HAE.out,if_pos h1]
   clear h1
   go_wp2_with (refine wpList_store_blk rfl 31 _ _ rfl (w.heap.size+2) rfl PbM.nil.cs rfl (by kernel_rfl) (PbM.cs_oneC _) HX1.out.r rfl ?_)
   intro w5 hB5 hg5
   have hb5:Below w.heap.size w w5:=HX1.out.bel.grown hg5 HX1.out.bel.size (fun k e => by injection e with e; omega)
   have HB5:=Lib.hid hB5
   have HBE:=Lib.hid hb5
   clear hB5 hg5 hb5 c0 q1
   go_wp2_with fail
   refine adv_ret (cs:=PbM.nil.cs) rfl HB5.out rfl rfl rfl (.inr ⟨by rw [HE2.out]; decide,by rw [HE2.out]; rfl,HBE.out⟩)
  ·have q1:((x.buy.l.length:Int) == 1)=false:=by rw [beq_eq_false_iff_ne]; omega
   have HAE2:Hid (x.p.advE d.d=if x.p.okTo d.d x.p.loads.length=false then 20 else 0):=by show _=_; rw [HAE.out,if_neg h1]
   clear h1 HAE
   go_upto_region 6 with fail
   have c17:=HX1.out.p.cell 17
   have d2:=HX1.out.q.cell 2
   simp [PbM.cs] at c17
   simp [DcM.cs] at d2
   clear c0 q1
   go_wp2_with fail
   refine (HLO.out _ (hP.out.below HX1.out.bel) (hD.out.below HX1.out.bel)).mono ?_
   rintro e w2 (⟨hok,AL,cL,AW,cW,ms,rfl,hrl,hcl,hrw,hcw,hms,hmf,hfl,hfw,hb2⟩ | ⟨hok,rfl,hb2⟩)
   rotate_left
   ·have HX2:=Lib.hid (HX1.out.below hb2)
    have HE2:Hid (x.p.advE d.d=20):=by show _=_; rw [HAE2.out,if_pos hok]
    clear hb2 HX1 hok c17 d2
    go_wp2_with (refine wpList_store_blk rfl 31 _ _ rfl (w.heap.size+2) rfl PbM.nil.cs rfl (by kernel_rfl) (PbM.cs_oneC _) HX2.out.r rfl ?_)
    intro w5 hB5 hg5
    have hb5:Below w.heap.size w w5:=HX2.out.bel.grown hg5 HX2.out.bel.size (fun k e => by injection e with e; omega)
    have HB5:=Lib.hid hB5
    have HBE:=Lib.hid hb5
    clear hB5 hg5 hb5
    go_wp2_with fail
    refine adv_ret (cs:=PbM.nil.cs) rfl HB5.out rfl rfl rfl (.inr ⟨by rw [HE2.out]; decide,by rw [HE2.out]; rfl,HBE.out⟩)
   ·have HX2:=Lib.hid (HX1.out.below hb2)
    have HE2:Hid (x.p.advE d.d=0):=by show _=_; rw [HAE2.out,if_neg (by rw [hok]; decide)]
    have HNF2:=Lib.hid (HNF.out hok)
    have HRL:=Lib.hid hrl
    have HRW:=Lib.hid hrw
    have HCL:=Lib.hid hcl
    have HCW:=Lib.hid hcw
    have HMS:=Lib.hid hms
    have HMF:=Lib.hid hmf
    have h1s:=HX1.out.bel.size
    have HFW:Hid (∀ ad,AW=some ad→w.heap.size+3 ≤ ad.block):=fun ad e => Nat.le_trans HX1.out.lt (hfw ad e)
    have HFA:Hid (∀ ad,AL=some ad→w.heap.size+3 ≤ ad.block):=fun ad e => Nat.le_trans HX1.out.lt (hfl ad e)
    have HFP:Hid (∀ y ∈ ms, ∀ ad,y.A=some ad→w.heap.size+3 ≤ ad.block):=fun y hy ad e => Nat.le_trans HX1.out.lt ((hmf y hy).2.2 ad e)
    clear hb2 HX1 hok c17 d2 hrl hrw hcl hcw hms hmf hfl hfw h1s HNF HAE2 HLO
    go_upto_region 9 with fail
    go_wp2_with (first | refine wpList_load_problemD rfl _ rfl w.heap.size rfl x HX2.out.p ?_ | refine wpList_store_blk rfl 31 _ _ rfl w2.heap.size rfl x.cs rfl (by kernel_rfl) (PbM.cs_oneC _) (Blk.new w2 _ _) rfl ?_)
    intro w3 hB3 hg3
    have hb3:Below w2.heap.size w2 w3:=((Below.refl w2.heap.size w2).alloc (Nat.le_refl _) (.cells #[.slice none 0 0,.slice none 0 0,.int .i64 0,.slice none 0 0,.slice none 0 0,.slice none 0 0,.int .i64 0,.int .i64 0,.int .i64 0,.int .i64 0,.int .i64 0,.int .i64 0,.int .i64 0,.int .i64 0,.int .i64 0,.slice none 0 0,.slice none 0 0,.slice none 0 0,.int .i64 0,.int .i64 0] 31)).grown hg3 (by simp) (fun k e => by injection e with e; omega)
    obtain ⟨g,hg⟩:∃ n,n=w2.heap.size:=⟨_,rfl⟩
    rw [← hg] at hB3
    have HGg:Hid (w2.heap.size ≤ g):=by show _ ≤ _; omega
    have HBB:=Lib.hid hb3
    have HBK:Hid (Blk w3 g 31 #[.slice x.buy.A x.buy.l.length x.buy.c,.slice x.sell.A x.sell.l.length x.sell.c,.int .i64 x.fuse,.slice x.solar.A x.solar.l.length x.solar.c,.slice x.demand.A x.demand.l.length x.demand.c,.slice x.outside.A x.outside.l.length x.outside.c,.int .i64 x.bat.cap,.int .i64 x.bat.reserve,.int .i64 x.bat.charge,.int .i64 x.bat.discharge,.int .i64 x.bat.eff,.int .i64 x.gain,.int .i64 x.loss,.int .i64 x.steps,.int .i64 x.power,.slice x.low.A x.low.l.length x.low.c,.slice x.high.A x.high.l.length x.high.c,.slice x.LA x.loads.length x.lc,.int .i64 x.level,.int .i64 x.temp]):=hB3
    have HP2:=Lib.hid (hP.out.below HX2.out.bel)
    go_upto_region 10 with fail
    rw [← hg]
    clear hB3 hg3 hb3 hg
    have c0:=cell_below (HX2.out.p.cell 0) (HBB.out)
    have c1:=cell_below (HX2.out.p.cell 1) (HBB.out)
    simp [PbM.cs] at c0 c1
    have HGW10:Hid (g < w3.heap.size):=HBK.out.lt
    refine wp_region_held_drew (S:=(fun w' => w'.cell? ⟨w.heap.size,0,none⟩=some (.slice x.buy.A x.buy.l.length x.buy.c)∧w'.cell? ⟨w.heap.size,1,none⟩=some (.slice x.sell.A x.sell.l.length x.sell.c))) (by kernel_rfl) (⟨c0,c1⟩) (fun hHeld => ?_)
    refine tk 0 ?_
    try simp only [jA,jB,Act.put,jD,jE,jF]
    refine tk 1 ?_
    try simp only [jA,jB,jC,Act.put,jD,jE,jF]
    refine tk 2 ?_
    try simp only [jA,jB,jC,Act.put,jD,jE,jF]
    refine tk 4 ?_
    try simp only [jA,jB,jC,Act.put,jD,jE,jF]
    refine tk 5 ?_
    try simp only [jA,jB,jC,Act.put,jD,jE,jF]
    refine tk 6 ?_
    try simp only [jA,jB,jC,Act.put,jD,jE,jF]
    refine wpAnyH_ready (rs := [3]) (by kernel_rfl) (by simp) ?_
    refine (AllReadyH.cons rfl (fun K hK => ?_) AllReadyH.nil)
    have HKK:=Lib.hid hK
    clear hK
    go_simp
    refine (HT_buy.out _ (HP2.out.buy.below ((Below.drew (HBB.out))))).mono ?_
    rintro e' yw1 ⟨Abuy,cbuy,rfl,hr1,hc1,hf1,hb1⟩
    have hq1:Below w3.heap.size w3 yw1:=below_tr (Below.drew (Below.refl w3.heap.size w3)) hb1
    have HB_yw1:=Lib.hid ((HBB.out).trans (hq1.mono (Below.size (HBB.out))))
    have HS_yw1:Hid (w3.heap.size ≤ yw1.heap.size):=Nat.le_trans ((Nat.le_refl w3.heap.size)) hq1.size
    have bk_yw1:=Lib.hid (HBK.out.below hq1 HBK.out.lt)
    have HL_buy_yw1:=Lib.hid hr1
    have HC_buy:=Lib.hid hc1
    have HF_buy:Hid (∀ ad,Abuy=some ad→g < ad.block):=fun ad e => by have h1:w3.heap.size ≤ ad.block:=hf1 ad e; have h2:=HGW10.out; have h3:=(Nat.le_refl w3.heap.size); omega
    clear hr1 hc1 hf1
    clear hb1
    go_wp2_with fail
    refine HKK.out _ _ (⟨(cell_below c0 hq1),(cell_below c1 hq1)⟩) (fun hH2 => ?_)
    clear HKK K
    replace hHeld:=hH2
    clear hH2
    try simp only [jA,jB,jC,Act.put,jD,jE,jF]
    refine tk 8 ?_
    try simp only [jA,jB,jC,Act.put,jD,jE,jF]
    refine tk 9 ?_
    try simp only [jA,jB,jC,Act.put,jD,jE,jF]
    refine wpAnyH_ready (rs := [7]) (by kernel_rfl) (by simp) ?_
    refine (AllReadyH.cons rfl (fun K hK => ?_) AllReadyH.nil)
    have HKK:=Lib.hid hK
    clear hK
    go_simp
    refine (HT_sell.out _ (HP2.out.sell.below (HB_yw1.out))).mono ?_
    rintro e' yw2 ⟨Asell,csell,rfl,hr2,hc2,hf2,hb2⟩
    have hq2:Below yw1.heap.size yw1 yw2:=hb2
    have HB_yw2:=Lib.hid ((HB_yw1.out).trans (hq2.mono (Below.size (HB_yw1.out))))
    have HS_yw2:Hid (w3.heap.size ≤ yw2.heap.size):=Nat.le_trans (HS_yw1.out) hq2.size
    have bk_yw2:=Lib.hid (bk_yw1.out.below hq2 bk_yw1.out.lt)
    have l_buy_yw2:=Lib.hid (HL_buy_yw1.out.below hq2)
    have HL_sell_yw2:=Lib.hid hr2
    have HC_sell:=Lib.hid hc2
    have HF_sell:Hid (∀ ad,Asell=some ad→g < ad.block):=fun ad e => by have h1:yw1.heap.size ≤ ad.block:=hf2 ad e; have h2:=HGW10.out; have h3:=HS_yw1.out; omega
    clear hr2 hc2 hf2
    clear hb2
    go_wp2_with fail
    refine HKK.out _ _ (⟨(cell_below (cell_below c0 hq1) hq2),(cell_below (cell_below c1 hq1) hq2)⟩) (fun hH2 => ?_)
    clear HKK K
    replace hHeld:=hH2
    clear hH2
    try simp only [jA,jB,jC,Act.put,jD,jE,jF]
    refine wpAnyH_ready (rs := [10]) (by kernel_rfl) (by simp) ?_
    refine (AllReadyH.cons rfl (fun K hK => ?_) AllReadyH.nil)
    have z0:=bk_yw2.out.cell 0
    have f0:=bk_yw2.out.frozen 0
    simp at z0
    have HKK:=Lib.hid hK
    clear hK
    go_simp
    obtain ⟨yw3,hv⟩:∃ v,v=yw2.setCell ⟨g,0,none⟩ (.slice Abuy dbuy.length cbuy):=⟨_,rfl⟩
    rw [← hv]
    have hgv3:yw2.grownBy yw3 (some g):=by rw [hv]; exact only_setCell (p:=⟨g,0,none⟩) (grown_id _ _) (.inl rfl) _
    have bk_yw3:Hid (Blk yw3 g 31 #[.slice Abuy dbuy.length cbuy,.slice x.sell.A x.sell.l.length x.sell.c,.int .i64 x.fuse,.slice x.solar.A x.solar.l.length x.solar.c,.slice x.demand.A x.demand.l.length x.demand.c,.slice x.outside.A x.outside.l.length x.outside.c,.int .i64 x.bat.cap,.int .i64 x.bat.reserve,.int .i64 x.bat.charge,.int .i64 x.bat.discharge,.int .i64 x.bat.eff,.int .i64 x.gain,.int .i64 x.loss,.int .i64 x.steps,.int .i64 x.power,.slice x.low.A x.low.l.length x.low.c,.slice x.high.A x.high.l.length x.high.c,.slice x.LA x.loads.length x.lc,.int .i64 x.level,.int .i64 x.temp]):=by show Blk _ _ _ _; rw [hv]; have:=(bk_yw2.out).set_ 0 (.slice Abuy dbuy.length cbuy); simpa using this
    have HB_yw3:=Lib.hid ((HB_yw2.out).grown hgv3 (Below.size (HB_yw2.out)) (fun k e => by injection e with e; have h2:=HGg.out; have h3:=(HBB.out).size; omega))
    have HS_yw3:Hid (w3.heap.size ≤ yw3.heap.size):=Nat.le_trans (HS_yw2.out) hgv3.size
    have l_buy_yw3:=Lib.hid (l_buy_yw2.out.other hgv3 (fun ad e h => by injection h with h; have:=HF_buy.out ad e; omega))
    have l_sell_yw3:=Lib.hid (HL_sell_yw2.out.other hgv3 (fun ad e h => by injection h with h; have:=HF_sell.out ad e; omega))
    clear hv z0 f0
    refine HKK.out _ _ (⟨(cell_grown hgv3 (cell_below (cell_below c0 hq1) hq2) (by intro e; have e:=Option.some.inj e; have h1:=HGg.out; have h2:=HX2.out.lt; simp at e; omega)),(cell_grown hgv3 (cell_below (cell_below c1 hq1) hq2) (by intro e; have e:=Option.some.inj e; have h1:=HGg.out; have h2:=HX2.out.lt; simp at e; omega))⟩) (fun hH2 => ?_)
    clear HKK K
    replace hHeld:=hH2
    clear hH2
    try simp only [jA,jB,jC,Act.put,jD,jE,jF]
    refine tk 11 ?_
    try simp only [jA,jB,jC,Act.put,jD,jE,jF]
    refine tk 12 ?_
    try simp only [jA,jB,jC,Act.put,jD,jE,jF]
    refine wpAnyH_ready (rs := [13]) (by kernel_rfl) (by simp) ?_
    refine (AllReadyH.cons rfl (fun K hK => ?_) AllReadyH.nil)
    have z1:=bk_yw3.out.cell 1
    have f1:=bk_yw3.out.frozen 1
    simp at z1
    have HKK:=Lib.hid hK
    clear hK
    go_simp
    obtain ⟨yw4,hv⟩:∃ v,v=yw3.setCell ⟨g,1,none⟩ (.slice Asell dsell.length csell):=⟨_,rfl⟩
    rw [← hv]
    have hgv4:yw3.grownBy yw4 (some g):=by rw [hv]; exact only_setCell (p:=⟨g,1,none⟩) (grown_id _ _) (.inl rfl) _
    have bk_yw4:Hid (Blk yw4 g 31 #[.slice Abuy dbuy.length cbuy,.slice Asell dsell.length csell,.int .i64 x.fuse,.slice x.solar.A x.solar.l.length x.solar.c,.slice x.demand.A x.demand.l.length x.demand.c,.slice x.outside.A x.outside.l.length x.outside.c,.int .i64 x.bat.cap,.int .i64 x.bat.reserve,.int .i64 x.bat.charge,.int .i64 x.bat.discharge,.int .i64 x.bat.eff,.int .i64 x.gain,.int .i64 x.loss,.int .i64 x.steps,.int .i64 x.power,.slice x.low.A x.low.l.length x.low.c,.slice x.high.A x.high.l.length x.high.c,.slice x.LA x.loads.length x.lc,.int .i64 x.level,.int .i64 x.temp]):=by show Blk _ _ _ _; rw [hv]; have:=(bk_yw3.out).set_ 1 (.slice Asell dsell.length csell); simpa using this
    have HB_yw4:=Lib.hid ((HB_yw3.out).grown hgv4 (Below.size (HB_yw3.out)) (fun k e => by injection e with e; have h2:=HGg.out; have h3:=(HBB.out).size; omega))
    have HS_yw4:Hid (w3.heap.size ≤ yw4.heap.size):=Nat.le_trans (HS_yw3.out) hgv4.size
    have l_buy_yw4:=Lib.hid (l_buy_yw3.out.other hgv4 (fun ad e h => by injection h with h; have:=HF_buy.out ad e; omega))
    have l_sell_yw4:=Lib.hid (l_sell_yw3.out.other hgv4 (fun ad e h => by injection h with h; have:=HF_sell.out ad e; omega))
    clear hv z1 f1
    refine HKK.out _ _ (⟨(cell_grown hgv4 (cell_grown hgv3 (cell_below (cell_below c0 hq1) hq2) (by intro e; have e:=Option.some.inj e; have h1:=HGg.out; have h2:=HX2.out.lt; simp at e; omega)) (by intro e; have e:=Option.some.inj e; have h1:=HGg.out; have h2:=HX2.out.lt; simp at e; omega)),(cell_grown hgv4 (cell_grown hgv3 (cell_below (cell_below c1 hq1) hq2) (by intro e; have e:=Option.some.inj e; have h1:=HGg.out; have h2:=HX2.out.lt; simp at e; omega)) (by intro e; have e:=Option.some.inj e; have h1:=HGg.out; have h2:=HX2.out.lt; simp at e; omega))⟩) (fun hH2 => ?_)
    clear HKK K
    replace hHeld:=hH2
    clear hH2
    try simp only [jA,jB,jC,Act.put,jD,jE,jF]
    refine wpAnyH_done (by kernel_rfl) ?_ _
    clear hHeld c0 c1
    go_upto_region 11 with fail
    have c3:=cell_below (HX2.out.p.cell 3) (HB_yw4.out)
    have c4:=cell_below (HX2.out.p.cell 4) (HB_yw4.out)
    have c5:=cell_below (HX2.out.p.cell 5) (HB_yw4.out)
    simp [PbM.cs] at c3 c4 c5
    have HGW11:Hid (g < yw4.heap.size):=bk_yw4.out.lt
    refine wp_region_held_drew (S:=(fun w' => w'.cell? ⟨w.heap.size,3,none⟩=some (.slice x.solar.A x.solar.l.length x.solar.c)∧w'.cell? ⟨w.heap.size,4,none⟩=some (.slice x.demand.A x.demand.l.length x.demand.c)∧w'.cell? ⟨w.heap.size,5,none⟩=some (.slice x.outside.A x.outside.l.length x.outside.c))) (by kernel_rfl) (⟨c3,c4,c5⟩) (fun hHeld => ?_)
    refine tk 0 ?_
    try simp only [jA,jB,Act.put,jD,jE,jF]
    refine tk 1 ?_
    try simp only [jA,jB,jC,Act.put,jD,jE,jF]
    refine tk 3 ?_
    try simp only [jA,jB,jC,Act.put,jD,jE,jF]
    refine tk 4 ?_
    try simp only [jA,jB,jC,Act.put,jD,jE,jF]
    refine tk 6 ?_
    try simp only [jA,jB,jC,Act.put,jD,jE,jF]
    refine tk 7 ?_
    try simp only [jA,jB,jC,Act.put,jD,jE,jF]
    refine wpAnyH_ready (rs := [2]) (by kernel_rfl) (by simp) ?_
    refine (AllReadyH.cons rfl (fun K hK => ?_) AllReadyH.nil)
    have HKK:=Lib.hid hK
    clear hK
    go_simp
    refine (HT_solar.out _ (HP2.out.solar.below ((Below.drew (HB_yw4.out))))).mono ?_
    rintro e' yw5 ⟨Asolar,csolar,rfl,hr5,hc5,hf5,hb5⟩
    have hq5:Below yw4.heap.size yw4 yw5:=below_tr (Below.drew (Below.refl yw4.heap.size yw4)) hb5
    have HB_yw5:=Lib.hid ((HB_yw4.out).trans (hq5.mono (Below.size (HB_yw4.out))))
    have HS_yw5:Hid (yw4.heap.size ≤ yw5.heap.size):=Nat.le_trans ((Nat.le_refl yw4.heap.size)) hq5.size
    have bk_yw5:=Lib.hid (bk_yw4.out.below hq5 bk_yw4.out.lt)
    have l_buy_yw5:=Lib.hid (l_buy_yw4.out.below hq5)
    have l_sell_yw5:=Lib.hid (l_sell_yw4.out.below hq5)
    have HL_solar_yw5:=Lib.hid hr5
    have HC_solar:=Lib.hid hc5
    have HF_solar:Hid (∀ ad,Asolar=some ad→g < ad.block):=fun ad e => by have h1:yw4.heap.size ≤ ad.block:=hf5 ad e; have h2:=HGW11.out; have h3:=(Nat.le_refl yw4.heap.size); omega
    clear hr5 hc5 hf5
    clear hb5
    go_wp2_with fail
    refine HKK.out _ _ (⟨(cell_below c3 hq5),(cell_below c4 hq5),(cell_below c5 hq5)⟩) (fun hH2 => ?_)
    clear HKK K
    replace hHeld:=hH2
    clear hH2
    try simp only [jA,jB,jC,Act.put,jD,jE,jF]
    refine tk 9 ?_
    try simp only [jA,jB,jC,Act.put,jD,jE,jF]
    refine wpAnyH_ready (rs := [5]) (by kernel_rfl) (by simp) ?_
    refine (AllReadyH.cons rfl (fun K hK => ?_) AllReadyH.nil)
    have HKK:=Lib.hid hK
    clear hK
    go_simp
    refine (HT_demand.out _ (HP2.out.demand.below (HB_yw5.out))).mono ?_
    rintro e' yw6 ⟨Ademand,cdemand,rfl,hr6,hc6,hf6,hb6⟩
    have hq6:Below yw5.heap.size yw5 yw6:=hb6
    have HB_yw6:=Lib.hid ((HB_yw5.out).trans (hq6.mono (Below.size (HB_yw5.out))))
    have HS_yw6:Hid (yw4.heap.size ≤ yw6.heap.size):=Nat.le_trans (HS_yw5.out) hq6.size
    have bk_yw6:=Lib.hid (bk_yw5.out.below hq6 bk_yw5.out.lt)
    have l_buy_yw6:=Lib.hid (l_buy_yw5.out.below hq6)
    have l_sell_yw6:=Lib.hid (l_sell_yw5.out.below hq6)
    have l_solar_yw6:=Lib.hid (HL_solar_yw5.out.below hq6)
    have HL_demand_yw6:=Lib.hid hr6
    have HC_demand:=Lib.hid hc6
    have HF_demand:Hid (∀ ad,Ademand=some ad→g < ad.block):=fun ad e => by have h1:yw5.heap.size ≤ ad.block:=hf6 ad e; have h2:=HGW11.out; have h3:=HS_yw5.out; omega
    clear hr6 hc6 hf6
    clear hb6
    go_wp2_with fail
    refine HKK.out _ _ (⟨(cell_below (cell_below c3 hq5) hq6),(cell_below (cell_below c4 hq5) hq6),(cell_below (cell_below c5 hq5) hq6)⟩) (fun hH2 => ?_)
    clear HKK K
    replace hHeld:=hH2
    clear hH2
    try simp only [jA,jB,jC,Act.put,jD,jE,jF]
    refine wpAnyH_ready (rs := [8]) (by kernel_rfl) (by simp) ?_
    refine (AllReadyH.cons rfl (fun K hK => ?_) AllReadyH.nil)
    have HKK:=Lib.hid hK
    clear hK
    go_simp
    refine (HT_outside.out _ (HP2.out.outside.below (HB_yw6.out))).mono ?_
    rintro e' yw7 ⟨Aoutside,coutside,rfl,hr7,hc7,hf7,hb7⟩
    have hq7:Below yw6.heap.size yw6 yw7:=hb7
    have HB_yw7:=Lib.hid ((HB_yw6.out).trans (hq7.mono (Below.size (HB_yw6.out))))
    have HS_yw7:Hid (yw4.heap.size ≤ yw7.heap.size):=Nat.le_trans (HS_yw6.out) hq7.size
    have bk_yw7:=Lib.hid (bk_yw6.out.below hq7 bk_yw6.out.lt)
    have l_buy_yw7:=Lib.hid (l_buy_yw6.out.below hq7)
    have l_sell_yw7:=Lib.hid (l_sell_yw6.out.below hq7)
    have l_solar_yw7:=Lib.hid (l_solar_yw6.out.below hq7)
    have l_demand_yw7:=Lib.hid (HL_demand_yw6.out.below hq7)
    have HL_outside_yw7:=Lib.hid hr7
    have HC_outside:=Lib.hid hc7
    have HF_outside:Hid (∀ ad,Aoutside=some ad→g < ad.block):=fun ad e => by have h1:yw6.heap.size ≤ ad.block:=hf7 ad e; have h2:=HGW11.out; have h3:=HS_yw6.out; omega
    clear hr7 hc7 hf7
    clear hb7
    go_wp2_with fail
    refine HKK.out _ _ (⟨(cell_below (cell_below (cell_below c3 hq5) hq6) hq7),(cell_below (cell_below (cell_below c4 hq5) hq6) hq7),(cell_below (cell_below (cell_below c5 hq5) hq6) hq7)⟩) (fun hH2 => ?_)
    clear HKK K
    replace hHeld:=hH2
    clear hH2
    try simp only [jA,jB,jC,Act.put,jD,jE,jF]
    refine wpAnyH_ready (rs := [10]) (by kernel_rfl) (by simp) ?_
    refine (AllReadyH.cons rfl (fun K hK => ?_) AllReadyH.nil)
    have z3:=bk_yw7.out.cell 3
    have f3:=bk_yw7.out.frozen 3
    simp at z3
    have HKK:=Lib.hid hK
    clear hK
    go_simp
    obtain ⟨yw8,hv⟩:∃ v,v=yw7.setCell ⟨g,3,none⟩ (.slice Asolar dsolar.length csolar):=⟨_,rfl⟩
    rw [← hv]
    have hgv8:yw7.grownBy yw8 (some g):=by rw [hv]; exact only_setCell (p:=⟨g,3,none⟩) (grown_id _ _) (.inl rfl) _
    have bk_yw8:Hid (Blk yw8 g 31 #[.slice Abuy dbuy.length cbuy,.slice Asell dsell.length csell,.int .i64 x.fuse,.slice Asolar dsolar.length csolar,.slice x.demand.A x.demand.l.length x.demand.c,.slice x.outside.A x.outside.l.length x.outside.c,.int .i64 x.bat.cap,.int .i64 x.bat.reserve,.int .i64 x.bat.charge,.int .i64 x.bat.discharge,.int .i64 x.bat.eff,.int .i64 x.gain,.int .i64 x.loss,.int .i64 x.steps,.int .i64 x.power,.slice x.low.A x.low.l.length x.low.c,.slice x.high.A x.high.l.length x.high.c,.slice x.LA x.loads.length x.lc,.int .i64 x.level,.int .i64 x.temp]):=by show Blk _ _ _ _; rw [hv]; have:=(bk_yw7.out).set_ 3 (.slice Asolar dsolar.length csolar); simpa using this
    have HB_yw8:=Lib.hid ((HB_yw7.out).grown hgv8 (Below.size (HB_yw7.out)) (fun k e => by injection e with e; have h2:=HGg.out; have h3:=(HB_yw4.out).size; omega))
    have HS_yw8:Hid (yw4.heap.size ≤ yw8.heap.size):=Nat.le_trans (HS_yw7.out) hgv8.size
    have l_buy_yw8:=Lib.hid (l_buy_yw7.out.other hgv8 (fun ad e h => by injection h with h; have:=HF_buy.out ad e; omega))
    have l_sell_yw8:=Lib.hid (l_sell_yw7.out.other hgv8 (fun ad e h => by injection h with h; have:=HF_sell.out ad e; omega))
    have l_solar_yw8:=Lib.hid (l_solar_yw7.out.other hgv8 (fun ad e h => by injection h with h; have:=HF_solar.out ad e; omega))
    have l_demand_yw8:=Lib.hid (l_demand_yw7.out.other hgv8 (fun ad e h => by injection h with h; have:=HF_demand.out ad e; omega))
    have l_outside_yw8:=Lib.hid (HL_outside_yw7.out.other hgv8 (fun ad e h => by injection h with h; have:=HF_outside.out ad e; omega))
    clear hv z3 f3
    refine HKK.out _ _ (⟨(cell_grown hgv8 (cell_below (cell_below (cell_below c3 hq5) hq6) hq7) (by intro e; have e:=Option.some.inj e; have h1:=HGg.out; have h2:=HX2.out.lt; simp at e; omega)),(cell_grown hgv8 (cell_below (cell_below (cell_below c4 hq5) hq6) hq7) (by intro e; have e:=Option.some.inj e; have h1:=HGg.out; have h2:=HX2.out.lt; simp at e; omega)),(cell_grown hgv8 (cell_below (cell_below (cell_below c5 hq5) hq6) hq7) (by intro e; have e:=Option.some.inj e; have h1:=HGg.out; have h2:=HX2.out.lt; simp at e; omega))⟩) (fun hH2 => ?_)
    clear HKK K
    replace hHeld:=hH2
    clear hH2
    try simp only [jA,jB,jC,Act.put,jD,jE,jF]
    refine tk 11 ?_
    try simp only [jA,jB,jC,Act.put,jD,jE,jF]
    refine wpAnyH_ready (rs := [12]) (by kernel_rfl) (by simp) ?_
    refine (AllReadyH.cons rfl (fun K hK => ?_) AllReadyH.nil)
    have z4:=bk_yw8.out.cell 4
    have f4:=bk_yw8.out.frozen 4
    simp at z4
    have HKK:=Lib.hid hK
    clear hK
    go_simp
    obtain ⟨yw9,hv⟩:∃ v,v=yw8.setCell ⟨g,4,none⟩ (.slice Ademand ddemand.length cdemand):=⟨_,rfl⟩
    rw [← hv]
    have hgv9:yw8.grownBy yw9 (some g):=by rw [hv]; exact only_setCell (p:=⟨g,4,none⟩) (grown_id _ _) (.inl rfl) _
    have bk_yw9:Hid (Blk yw9 g 31 #[.slice Abuy dbuy.length cbuy,.slice Asell dsell.length csell,.int .i64 x.fuse,.slice Asolar dsolar.length csolar,.slice Ademand ddemand.length cdemand,.slice x.outside.A x.outside.l.length x.outside.c,.int .i64 x.bat.cap,.int .i64 x.bat.reserve,.int .i64 x.bat.charge,.int .i64 x.bat.discharge,.int .i64 x.bat.eff,.int .i64 x.gain,.int .i64 x.loss,.int .i64 x.steps,.int .i64 x.power,.slice x.low.A x.low.l.length x.low.c,.slice x.high.A x.high.l.length x.high.c,.slice x.LA x.loads.length x.lc,.int .i64 x.level,.int .i64 x.temp]):=by show Blk _ _ _ _; rw [hv]; have:=(bk_yw8.out).set_ 4 (.slice Ademand ddemand.length cdemand); simpa using this
    have HB_yw9:=Lib.hid ((HB_yw8.out).grown hgv9 (Below.size (HB_yw8.out)) (fun k e => by injection e with e; have h2:=HGg.out; have h3:=(HB_yw4.out).size; omega))
    have HS_yw9:Hid (yw4.heap.size ≤ yw9.heap.size):=Nat.le_trans (HS_yw8.out) hgv9.size
    have l_buy_yw9:=Lib.hid (l_buy_yw8.out.other hgv9 (fun ad e h => by injection h with h; have:=HF_buy.out ad e; omega))
    have l_sell_yw9:=Lib.hid (l_sell_yw8.out.other hgv9 (fun ad e h => by injection h with h; have:=HF_sell.out ad e; omega))
    have l_solar_yw9:=Lib.hid (l_solar_yw8.out.other hgv9 (fun ad e h => by injection h with h; have:=HF_solar.out ad e; omega))
    have l_demand_yw9:=Lib.hid (l_demand_yw8.out.other hgv9 (fun ad e h => by injection h with h; have:=HF_demand.out ad e; omega))
    have l_outside_yw9:=Lib.hid (l_outside_yw8.out.other hgv9 (fun ad e h => by injection h with h; have:=HF_outside.out ad e; omega))
    clear hv z4 f4
    refine HKK.out _ _ (⟨(cell_grown hgv9 (cell_grown hgv8 (cell_below (cell_below (cell_below c3 hq5) hq6) hq7) (by intro e; have e:=Option.some.inj e; have h1:=HGg.out; have h2:=HX2.out.lt; simp at e; omega)) (by intro e; have e:=Option.some.inj e; have h1:=HGg.out; have h2:=HX2.out.lt; simp at e; omega)),(cell_grown hgv9 (cell_grown hgv8 (cell_below (cell_below (cell_below c4 hq5) hq6) hq7) (by intro e; have e:=Option.some.inj e; have h1:=HGg.out; have h2:=HX2.out.lt; simp at e; omega)) (by intro e; have e:=Option.some.inj e; have h1:=HGg.out; have h2:=HX2.out.lt; simp at e; omega)),(cell_grown hgv9 (cell_grown hgv8 (cell_below (cell_below (cell_below c5 hq5) hq6) hq7) (by intro e; have e:=Option.some.inj e; have h1:=HGg.out; have h2:=HX2.out.lt; simp at e; omega)) (by intro e; have e:=Option.some.inj e; have h1:=HGg.out; have h2:=HX2.out.lt; simp at e; omega))⟩) (fun hH2 => ?_)
    clear HKK K
    replace hHeld:=hH2
    clear hH2
    try simp only [jA,jB,jC,Act.put,jD,jE,jF]
    refine tk 13 ?_
    try simp only [jA,jB,jC,Act.put,jD,jE,jF]
    refine wpAnyH_ready (rs := [14]) (by kernel_rfl) (by simp) ?_
    refine (AllReadyH.cons rfl (fun K hK => ?_) AllReadyH.nil)
    have z5:=bk_yw9.out.cell 5
    have f5:=bk_yw9.out.frozen 5
    simp at z5
    have HKK:=Lib.hid hK
    clear hK
    go_simp
    obtain ⟨yw10,hv⟩:∃ v,v=yw9.setCell ⟨g,5,none⟩ (.slice Aoutside doutside.length coutside):=⟨_,rfl⟩
    rw [← hv]
    have hgv10:yw9.grownBy yw10 (some g):=by rw [hv]; exact only_setCell (p:=⟨g,5,none⟩) (grown_id _ _) (.inl rfl) _
    have bk_yw10:Hid (Blk yw10 g 31 #[.slice Abuy dbuy.length cbuy,.slice Asell dsell.length csell,.int .i64 x.fuse,.slice Asolar dsolar.length csolar,.slice Ademand ddemand.length cdemand,.slice Aoutside doutside.length coutside,.int .i64 x.bat.cap,.int .i64 x.bat.reserve,.int .i64 x.bat.charge,.int .i64 x.bat.discharge,.int .i64 x.bat.eff,.int .i64 x.gain,.int .i64 x.loss,.int .i64 x.steps,.int .i64 x.power,.slice x.low.A x.low.l.length x.low.c,.slice x.high.A x.high.l.length x.high.c,.slice x.LA x.loads.length x.lc,.int .i64 x.level,.int .i64 x.temp]):=by show Blk _ _ _ _; rw [hv]; have:=(bk_yw9.out).set_ 5 (.slice Aoutside doutside.length coutside); simpa using this
    have HB_yw10:=Lib.hid ((HB_yw9.out).grown hgv10 (Below.size (HB_yw9.out)) (fun k e => by injection e with e; have h2:=HGg.out; have h3:=(HB_yw4.out).size; omega))
    have HS_yw10:Hid (yw4.heap.size ≤ yw10.heap.size):=Nat.le_trans (HS_yw9.out) hgv10.size
    have l_buy_yw10:=Lib.hid (l_buy_yw9.out.other hgv10 (fun ad e h => by injection h with h; have:=HF_buy.out ad e; omega))
    have l_sell_yw10:=Lib.hid (l_sell_yw9.out.other hgv10 (fun ad e h => by injection h with h; have:=HF_sell.out ad e; omega))
    have l_solar_yw10:=Lib.hid (l_solar_yw9.out.other hgv10 (fun ad e h => by injection h with h; have:=HF_solar.out ad e; omega))
    have l_demand_yw10:=Lib.hid (l_demand_yw9.out.other hgv10 (fun ad e h => by injection h with h; have:=HF_demand.out ad e; omega))
    have l_outside_yw10:=Lib.hid (l_outside_yw9.out.other hgv10 (fun ad e h => by injection h with h; have:=HF_outside.out ad e; omega))
    clear hv z5 f5
    refine HKK.out _ _ (⟨(cell_grown hgv10 (cell_grown hgv9 (cell_grown hgv8 (cell_below (cell_below (cell_below c3 hq5) hq6) hq7) (by intro e; have e:=Option.some.inj e; have h1:=HGg.out; have h2:=HX2.out.lt; simp at e; omega)) (by intro e; have e:=Option.some.inj e; have h1:=HGg.out; have h2:=HX2.out.lt; simp at e; omega)) (by intro e; have e:=Option.some.inj e; have h1:=HGg.out; have h2:=HX2.out.lt; simp at e; omega)),(cell_grown hgv10 (cell_grown hgv9 (cell_grown hgv8 (cell_below (cell_below (cell_below c4 hq5) hq6) hq7) (by intro e; have e:=Option.some.inj e; have h1:=HGg.out; have h2:=HX2.out.lt; simp at e; omega)) (by intro e; have e:=Option.some.inj e; have h1:=HGg.out; have h2:=HX2.out.lt; simp at e; omega)) (by intro e; have e:=Option.some.inj e; have h1:=HGg.out; have h2:=HX2.out.lt; simp at e; omega)),(cell_grown hgv10 (cell_grown hgv9 (cell_grown hgv8 (cell_below (cell_below (cell_below c5 hq5) hq6) hq7) (by intro e; have e:=Option.some.inj e; have h1:=HGg.out; have h2:=HX2.out.lt; simp at e; omega)) (by intro e; have e:=Option.some.inj e; have h1:=HGg.out; have h2:=HX2.out.lt; simp at e; omega)) (by intro e; have e:=Option.some.inj e; have h1:=HGg.out; have h2:=HX2.out.lt; simp at e; omega))⟩) (fun hH2 => ?_)
    clear HKK K
    replace hHeld:=hH2
    clear hH2
    try simp only [jA,jB,jC,Act.put,jD,jE,jF]
    refine wpAnyH_done (by kernel_rfl) ?_ _
    clear hHeld c3 c4 c5
    go_upto_region 12 with fail
    have c15:=cell_below (HX2.out.p.cell 15) (HB_yw10.out)
    have c16:=cell_below (HX2.out.p.cell 16) (HB_yw10.out)
    simp [PbM.cs] at c15 c16
    have HGW12:Hid (g < yw10.heap.size):=bk_yw10.out.lt
    refine wp_region_held_drew (S:=(fun w' => w'.cell? ⟨w.heap.size,15,none⟩=some (.slice x.low.A x.low.l.length x.low.c)∧w'.cell? ⟨w.heap.size,16,none⟩=some (.slice x.high.A x.high.l.length x.high.c))) (by kernel_rfl) (⟨c15,c16⟩) (fun hHeld => ?_)
    refine tk 0 ?_
    try simp only [jA,jB,Act.put,jD,jE,jF]
    refine tk 1 ?_
    try simp only [jA,jB,jC,Act.put,jD,jE,jF]
    refine tk 2 ?_
    try simp only [jA,jB,jC,Act.put,jD,jE,jF]
    refine tk 4 ?_
    try simp only [jA,jB,jC,Act.put,jD,jE,jF]
    refine tk 5 ?_
    try simp only [jA,jB,jC,Act.put,jD,jE,jF]
    refine tk 6 ?_
    try simp only [jA,jB,jC,Act.put,jD,jE,jF]
    refine wpAnyH_ready (rs := [3]) (by kernel_rfl) (by simp) ?_
    refine (AllReadyH.cons rfl (fun K hK => ?_) AllReadyH.nil)
    have HKK:=Lib.hid hK
    clear hK
    go_simp
    refine (HT_low.out _ (HP2.out.low.below ((Below.drew (HB_yw10.out))))).mono ?_
    rintro e' yw11 ⟨Alow,clow,rfl,hr11,hc11,hf11,hb11⟩
    have hq11:Below yw10.heap.size yw10 yw11:=below_tr (Below.drew (Below.refl yw10.heap.size yw10)) hb11
    have HB_yw11:=Lib.hid ((HB_yw10.out).trans (hq11.mono (Below.size (HB_yw10.out))))
    have HS_yw11:Hid (yw10.heap.size ≤ yw11.heap.size):=Nat.le_trans ((Nat.le_refl yw10.heap.size)) hq11.size
    have bk_yw11:=Lib.hid (bk_yw10.out.below hq11 bk_yw10.out.lt)
    have l_buy_yw11:=Lib.hid (l_buy_yw10.out.below hq11)
    have l_sell_yw11:=Lib.hid (l_sell_yw10.out.below hq11)
    have l_solar_yw11:=Lib.hid (l_solar_yw10.out.below hq11)
    have l_demand_yw11:=Lib.hid (l_demand_yw10.out.below hq11)
    have l_outside_yw11:=Lib.hid (l_outside_yw10.out.below hq11)
    have HL_low_yw11:=Lib.hid hr11
    have HC_low:=Lib.hid hc11
    have HF_low:Hid (∀ ad,Alow=some ad→g < ad.block):=fun ad e => by have h1:yw10.heap.size ≤ ad.block:=hf11 ad e; have h2:=HGW12.out; have h3:=(Nat.le_refl yw10.heap.size); omega
    clear hr11 hc11 hf11
    clear hb11
    go_wp2_with fail
    refine HKK.out _ _ (⟨(cell_below c15 hq11),(cell_below c16 hq11)⟩) (fun hH2 => ?_)
    clear HKK K
    replace hHeld:=hH2
    clear hH2
    try simp only [jA,jB,jC,Act.put,jD,jE,jF]
    refine tk 8 ?_
    try simp only [jA,jB,jC,Act.put,jD,jE,jF]
    refine tk 9 ?_
    try simp only [jA,jB,jC,Act.put,jD,jE,jF]
    refine wpAnyH_ready (rs := [7]) (by kernel_rfl) (by simp) ?_
    refine (AllReadyH.cons rfl (fun K hK => ?_) AllReadyH.nil)
    have HKK:=Lib.hid hK
    clear hK
    go_simp
    refine (HT_high.out _ (HP2.out.high.below (HB_yw11.out))).mono ?_
    rintro e' yw12 ⟨Ahigh,chigh,rfl,hr12,hc12,hf12,hb12⟩
    have hq12:Below yw11.heap.size yw11 yw12:=hb12
    have HB_yw12:=Lib.hid ((HB_yw11.out).trans (hq12.mono (Below.size (HB_yw11.out))))
    have HS_yw12:Hid (yw10.heap.size ≤ yw12.heap.size):=Nat.le_trans (HS_yw11.out) hq12.size
    have bk_yw12:=Lib.hid (bk_yw11.out.below hq12 bk_yw11.out.lt)
    have l_buy_yw12:=Lib.hid (l_buy_yw11.out.below hq12)
    have l_sell_yw12:=Lib.hid (l_sell_yw11.out.below hq12)
    have l_solar_yw12:=Lib.hid (l_solar_yw11.out.below hq12)
    have l_demand_yw12:=Lib.hid (l_demand_yw11.out.below hq12)
    have l_outside_yw12:=Lib.hid (l_outside_yw11.out.below hq12)
    have l_low_yw12:=Lib.hid (HL_low_yw11.out.below hq12)
    have HL_high_yw12:=Lib.hid hr12
    have HC_high:=Lib.hid hc12
    have HF_high:Hid (∀ ad,Ahigh=some ad→g < ad.block):=fun ad e => by have h1:yw11.heap.size ≤ ad.block:=hf12 ad e; have h2:=HGW12.out; have h3:=HS_yw11.out; omega
    clear hr12 hc12 hf12
    clear hb12
    go_wp2_with fail
    refine HKK.out _ _ (⟨(cell_below (cell_below c15 hq11) hq12),(cell_below (cell_below c16 hq11) hq12)⟩) (fun hH2 => ?_)
    clear HKK K
    replace hHeld:=hH2
    clear hH2
    try simp only [jA,jB,jC,Act.put,jD,jE,jF]
    refine wpAnyH_ready (rs := [10]) (by kernel_rfl) (by simp) ?_
    refine (AllReadyH.cons rfl (fun K hK => ?_) AllReadyH.nil)
    have z15:=bk_yw12.out.cell 15
    have f15:=bk_yw12.out.frozen 15
    simp at z15
    have HKK:=Lib.hid hK
    clear hK
    go_simp
    obtain ⟨yw13,hv⟩:∃ v,v=yw12.setCell ⟨g,15,none⟩ (.slice Alow dlow.length clow):=⟨_,rfl⟩
    rw [← hv]
    have hgv13:yw12.grownBy yw13 (some g):=by rw [hv]; exact only_setCell (p:=⟨g,15,none⟩) (grown_id _ _) (.inl rfl) _
    have bk_yw13:Hid (Blk yw13 g 31 #[.slice Abuy dbuy.length cbuy,.slice Asell dsell.length csell,.int .i64 x.fuse,.slice Asolar dsolar.length csolar,.slice Ademand ddemand.length cdemand,.slice Aoutside doutside.length coutside,.int .i64 x.bat.cap,.int .i64 x.bat.reserve,.int .i64 x.bat.charge,.int .i64 x.bat.discharge,.int .i64 x.bat.eff,.int .i64 x.gain,.int .i64 x.loss,.int .i64 x.steps,.int .i64 x.power,.slice Alow dlow.length clow,.slice x.high.A x.high.l.length x.high.c,.slice x.LA x.loads.length x.lc,.int .i64 x.level,.int .i64 x.temp]):=by show Blk _ _ _ _; rw [hv]; have:=(bk_yw12.out).set_ 15 (.slice Alow dlow.length clow); simpa using this
    have HB_yw13:=Lib.hid ((HB_yw12.out).grown hgv13 (Below.size (HB_yw12.out)) (fun k e => by injection e with e; have h2:=HGg.out; have h3:=(HB_yw10.out).size; omega))
    have HS_yw13:Hid (yw10.heap.size ≤ yw13.heap.size):=Nat.le_trans (HS_yw12.out) hgv13.size
    have l_buy_yw13:=Lib.hid (l_buy_yw12.out.other hgv13 (fun ad e h => by injection h with h; have:=HF_buy.out ad e; omega))
    have l_sell_yw13:=Lib.hid (l_sell_yw12.out.other hgv13 (fun ad e h => by injection h with h; have:=HF_sell.out ad e; omega))
    have l_solar_yw13:=Lib.hid (l_solar_yw12.out.other hgv13 (fun ad e h => by injection h with h; have:=HF_solar.out ad e; omega))
    have l_demand_yw13:=Lib.hid (l_demand_yw12.out.other hgv13 (fun ad e h => by injection h with h; have:=HF_demand.out ad e; omega))
    have l_outside_yw13:=Lib.hid (l_outside_yw12.out.other hgv13 (fun ad e h => by injection h with h; have:=HF_outside.out ad e; omega))
    have l_low_yw13:=Lib.hid (l_low_yw12.out.other hgv13 (fun ad e h => by injection h with h; have:=HF_low.out ad e; omega))
    have l_high_yw13:=Lib.hid (HL_high_yw12.out.other hgv13 (fun ad e h => by injection h with h; have:=HF_high.out ad e; omega))
    clear hv z15 f15
    refine HKK.out _ _ (⟨(cell_grown hgv13 (cell_below (cell_below c15 hq11) hq12) (by intro e; have e:=Option.some.inj e; have h1:=HGg.out; have h2:=HX2.out.lt; simp at e; omega)),(cell_grown hgv13 (cell_below (cell_below c16 hq11) hq12) (by intro e; have e:=Option.some.inj e; have h1:=HGg.out; have h2:=HX2.out.lt; simp at e; omega))⟩) (fun hH2 => ?_)
    clear HKK K
    replace hHeld:=hH2
    clear hH2
    try simp only [jA,jB,jC,Act.put,jD,jE,jF]
    refine tk 11 ?_
    try simp only [jA,jB,jC,Act.put,jD,jE,jF]
    refine tk 12 ?_
    try simp only [jA,jB,jC,Act.put,jD,jE,jF]
    refine wpAnyH_ready (rs := [13]) (by kernel_rfl) (by simp) ?_
    refine (AllReadyH.cons rfl (fun K hK => ?_) AllReadyH.nil)
    have z16:=bk_yw13.out.cell 16
    have f16:=bk_yw13.out.frozen 16
    simp at z16
    have HKK:=Lib.hid hK
    clear hK
    go_simp
    obtain ⟨yw14,hv⟩:∃ v,v=yw13.setCell ⟨g,16,none⟩ (.slice Ahigh dhigh.length chigh):=⟨_,rfl⟩
    rw [← hv]
    have hgv14:yw13.grownBy yw14 (some g):=by rw [hv]; exact only_setCell (p:=⟨g,16,none⟩) (grown_id _ _) (.inl rfl) _
    have bk_yw14:Hid (Blk yw14 g 31 #[.slice Abuy dbuy.length cbuy,.slice Asell dsell.length csell,.int .i64 x.fuse,.slice Asolar dsolar.length csolar,.slice Ademand ddemand.length cdemand,.slice Aoutside doutside.length coutside,.int .i64 x.bat.cap,.int .i64 x.bat.reserve,.int .i64 x.bat.charge,.int .i64 x.bat.discharge,.int .i64 x.bat.eff,.int .i64 x.gain,.int .i64 x.loss,.int .i64 x.steps,.int .i64 x.power,.slice Alow dlow.length clow,.slice Ahigh dhigh.length chigh,.slice x.LA x.loads.length x.lc,.int .i64 x.level,.int .i64 x.temp]):=by show Blk _ _ _ _; rw [hv]; have:=(bk_yw13.out).set_ 16 (.slice Ahigh dhigh.length chigh); simpa using this
    have HB_yw14:=Lib.hid ((HB_yw13.out).grown hgv14 (Below.size (HB_yw13.out)) (fun k e => by injection e with e; have h2:=HGg.out; have h3:=(HB_yw10.out).size; omega))
    have HS_yw14:Hid (yw10.heap.size ≤ yw14.heap.size):=Nat.le_trans (HS_yw13.out) hgv14.size
    have l_buy_yw14:=Lib.hid (l_buy_yw13.out.other hgv14 (fun ad e h => by injection h with h; have:=HF_buy.out ad e; omega))
    have l_sell_yw14:=Lib.hid (l_sell_yw13.out.other hgv14 (fun ad e h => by injection h with h; have:=HF_sell.out ad e; omega))
    have l_solar_yw14:=Lib.hid (l_solar_yw13.out.other hgv14 (fun ad e h => by injection h with h; have:=HF_solar.out ad e; omega))
    have l_demand_yw14:=Lib.hid (l_demand_yw13.out.other hgv14 (fun ad e h => by injection h with h; have:=HF_demand.out ad e; omega))
    have l_outside_yw14:=Lib.hid (l_outside_yw13.out.other hgv14 (fun ad e h => by injection h with h; have:=HF_outside.out ad e; omega))
    have l_low_yw14:=Lib.hid (l_low_yw13.out.other hgv14 (fun ad e h => by injection h with h; have:=HF_low.out ad e; omega))
    have l_high_yw14:=Lib.hid (l_high_yw13.out.other hgv14 (fun ad e h => by injection h with h; have:=HF_high.out ad e; omega))
    clear hv z16 f16
    refine HKK.out _ _ (⟨(cell_grown hgv14 (cell_grown hgv13 (cell_below (cell_below c15 hq11) hq12) (by intro e; have e:=Option.some.inj e; have h1:=HGg.out; have h2:=HX2.out.lt; simp at e; omega)) (by intro e; have e:=Option.some.inj e; have h1:=HGg.out; have h2:=HX2.out.lt; simp at e; omega)),(cell_grown hgv14 (cell_grown hgv13 (cell_below (cell_below c16 hq11) hq12) (by intro e; have e:=Option.some.inj e; have h1:=HGg.out; have h2:=HX2.out.lt; simp at e; omega)) (by intro e; have e:=Option.some.inj e; have h1:=HGg.out; have h2:=HX2.out.lt; simp at e; omega))⟩) (fun hH2 => ?_)
    clear HKK K
    replace hHeld:=hH2
    clear hH2
    try simp only [jA,jB,jC,Act.put,jD,jE,jF]
    refine wpAnyH_done (by kernel_rfl) ?_ _
    clear hHeld c15 c16
    go_upto_region 13 with fail
    have z17:=bk_yw14.out.cell 17
    have f17:=bk_yw14.out.frozen 17
    have z18:=bk_yw14.out.cell 18
    have f18:=bk_yw14.out.frozen 18
    have z19:=bk_yw14.out.cell 19
    have f19:=bk_yw14.out.frozen 19
    simp at z17 z18 z19
    go_upto_region 14 with fail
    obtain ⟨v,hv⟩:∃ v,v=((yw14.setCell ⟨g,18,none⟩ (.int .i64 nlv)).setCell ⟨g,19,none⟩ (.int .i64 ntm)).setCell ⟨g,17,none⟩ (.slice AL ms.length cL):=⟨_,rfl⟩
    rw [← hv]
    have hgv:yw14.grownBy v (some g):=by rw [hv]; exact only_setCell (p:=⟨g,17,none⟩) (only_setCell (p:=⟨g,19,none⟩) (only_setCell (p:=⟨g,18,none⟩) (grown_id _ _) (.inl rfl) _) (.inl rfl) _) (.inl rfl) _
    obtain ⟨m,hm⟩:∃ m:PbM,m=⟨⟨Abuy,cbuy,dbuy⟩,⟨Asell,csell,dsell⟩,x.fuse,⟨Asolar,csolar,dsolar⟩,⟨Ademand,cdemand,ddemand⟩,⟨Aoutside,coutside,doutside⟩,x.bat,x.gain,x.loss,x.steps,x.power,⟨Alow,clow,dlow⟩,⟨Ahigh,chigh,dhigh⟩,AL,cL,ms,nlv,ntm⟩:=⟨_,rfl⟩
    have hkv:Blk v g 31 m.cs:=by rw [hv,hm]; have:=((bk_yw14.out.set_ 18 (.int .i64 nlv)).set_ 19 (.int .i64 ntm)).set_ 17 (.slice AL ms.length cL); simpa [PbM.cs] using this
    have hbv:Below w2.heap.size w2 v:=(HB_yw14.out).grown hgv (Below.size (HB_yw14.out)) (fun k e => by injection e with e; have:=HGg.out; omega)
    have HKV:=Lib.hid hkv
    have HBV:=Lib.hid hbv
    have HXV:=Lib.hid (HX2.out.below hbv)
    have HV_buy:=Lib.hid (l_buy_yw14.out.other hgv (fun ad e h => by injection h with h; have:=HF_buy.out ad e; omega))
    have HV_sell:=Lib.hid (l_sell_yw14.out.other hgv (fun ad e h => by injection h with h; have:=HF_sell.out ad e; omega))
    have HV_solar:=Lib.hid (l_solar_yw14.out.other hgv (fun ad e h => by injection h with h; have:=HF_solar.out ad e; omega))
    have HV_demand:=Lib.hid (l_demand_yw14.out.other hgv (fun ad e h => by injection h with h; have:=HF_demand.out ad e; omega))
    have HV_outside:=Lib.hid (l_outside_yw14.out.other hgv (fun ad e h => by injection h with h; have:=HF_outside.out ad e; omega))
    have HV_low:=Lib.hid (l_low_yw14.out.other hgv (fun ad e h => by injection h with h; have:=HF_low.out ad e; omega))
    have HV_high:=Lib.hid (l_high_yw14.out.other hgv (fun ad e h => by injection h with h; have:=HF_high.out ad e; omega))
    have HMM:=Lib.hid hm
    clear hv hgv hkv hbv z17 z18 z19 f17 f18 f19 hm
    go_wp2_with (first | refine wpList_load_problemD rfl _ rfl g rfl m HKV.out ?_ | refine wpList_store_blk rfl 31 _ _ rfl (w.heap.size+2) rfl m.cs rfl (by kernel_rfl) (PbM.cs_oneC _) HXV.out.r rfl ?_)
    intro w9 hB9 hg9
    have hb9:Below w.heap.size w w9:=HXV.out.bel.grown hg9 HXV.out.bel.size (fun k e => by injection e with e; omega)
    have hx2:=HX2.out.lt
    have hgg:=HGg.out
    have r_buy:=HV_buy.out.other hg9 (fun ad e h => by injection h with h; have:=HF_buy.out ad e; omega)
    have r_sell:=HV_sell.out.other hg9 (fun ad e h => by injection h with h; have:=HF_sell.out ad e; omega)
    have r_solar:=HV_solar.out.other hg9 (fun ad e h => by injection h with h; have:=HF_solar.out ad e; omega)
    have r_demand:=HV_demand.out.other hg9 (fun ad e h => by injection h with h; have:=HF_demand.out ad e; omega)
    have r_outside:=HV_outside.out.other hg9 (fun ad e h => by injection h with h; have:=HF_outside.out ad e; omega)
    have r_low:=HV_low.out.other hg9 (fun ad e h => by injection h with h; have:=HF_low.out ad e; omega)
    have r_high:=HV_high.out.other hg9 (fun ad e h => by injection h with h; have:=HF_high.out ad e; omega)
    have r_l:=(HRL.out.below HBV.out).far hg9 (fun ad e h => by have:=HFA.out ad e; omega) (fun y hy ad e h => by have:=HFP.out y hy ad e; omega)
    have r_w:=(HRW.out.below HBV.out).other hg9 (fun ad e h => by injection h with h; have:=HFW.out ad e; omega)
    have hmp:m.p=x.p.adv d.d:=by rw [HADV.out, ← HMS.out,HMM.out]; rfl
    have HAD:Hid (AdvOut x.p d.d w (.returned (.tuple #[.agg m.cs,.slice AW (x.p.whichs d.d x.p.loads.length).length cW,.int .i64 0])) w9):=by
     refine .inl ⟨HE2.out,m,AW,cW,rfl,hmp,?_,?_,?_,?_,r_w,HCW.out,(fun ad e => by have:=HFW.out ad e; omega),hb9⟩
     ·rw [HMM.out]; exact ⟨r_buy,r_sell,r_solar,r_demand,r_outside,r_low,r_high,r_l⟩
     ·rw [HMM.out]; exact ⟨fun y hy => (HMF.out y hy).2.1,fun y hy => by have h1:=(HNF2.out y.r (by rw [← HMS.out]; exact List.mem_map.2 ⟨y,hy,rfl⟩)).1; unfold maxLen; omega,HCL.out,HFL.out,fun y hy => by have h1:=(HNF2.out y.r (by rw [← HMS.out]; exact List.mem_map.2 ⟨y,hy,rfl⟩)).2; omega⟩
     ·rw [HMM.out]; exact ⟨HC_buy.out,HC_sell.out,HC_solar.out,HC_demand.out,HC_outside.out,HC_low.out,HC_high.out,HCL.out,fun y hy => (HMF.out y hy).1⟩
     ·rw [HMM.out]; exact ⟨fun ad e => by have:=HF_buy.out ad e; omega,fun ad e => by have:=HF_sell.out ad e; omega,fun ad e => by have:=HF_solar.out ad e; omega,fun ad e => by have:=HF_demand.out ad e; omega,fun ad e => by have:=HF_outside.out ad e; omega,fun ad e => by have:=HF_low.out ad e; omega,fun ad e => by have:=HF_high.out ad e; omega,fun ad e => by have:=HFA.out ad e; omega,fun y hy ad e => by have:=HFP.out y hy ad e; omega⟩
    have HB9:=Lib.hid hB9
    clear hB9 hg9 hb9 hx2 hgg r_buy r_sell r_solar r_demand r_outside r_low r_high r_l r_w hmp
    go_wp2_with fail
    exact adv_ret (cs:=m.cs) rfl HB9.out rfl rfl rfl HAD.out
 ·have HBD:=Pb.ap_bad he
  have hae:x.p.advE d.d=x.p.doE d.d:=by unfold Pb.advE; rw [if_pos he]
  rw [HBD.1,HBD.2.1,HBD.2.2] at hap
  have q0:(x.p.doE d.d != 0)=true:=by simp [he]
  have HE0:=Lib.hid he
  have HAP:=Lib.hid hap
  have HAE:=Lib.hid hae
  generalize x.p.doE d.d=er at *
  clear HBD hae hap he hF hC
  go_enter Tryz.func34,Tryz.ntmps34
  go_upto_region 1 with fail
  rw [← hWH.out]
  clear hWH
  go_wp2_with (first | refine wpList_load_problemG (by rfl) _ rfl w.heap.size rfl x hst.out.p ?_ | refine wpList_load_decG (by rfl) _ rfl (w.heap.size+1) rfl d hst.out.q ?_)
  refine (HAP.out _ (hP.out.below hst.out.bel) (hD.out.below hst.out.bel)).mono ?_
  rintro e w1 ⟨rfl,hb1⟩
  have HX1:=Lib.hid (hst.out.below hb1)
  clear hb1 hst HAP
  go_upto_region 3 with fail
  clear q0
  go_wp2_with (refine wpList_store_blk rfl 31 _ _ rfl (w.heap.size+2) rfl PbM.nil.cs rfl (by kernel_rfl) (PbM.cs_oneC _) HX1.out.r rfl ?_)
  intro w5 hB5 hg5
  have hb5:Below w.heap.size w w5:=HX1.out.bel.grown hg5 HX1.out.bel.size (fun k e => by injection e with e; omega)
  have HB5:=Lib.hid hB5
  have HBE:=Lib.hid hb5
  clear hB5 hg5 hb5
  go_wp2_with fail
  refine adv_ret (cs:=PbM.nil.cs) rfl HB5.out rfl rfl rfl (.inr ⟨by rw [HAE.out]; exact HE0.out,by rw [HAE.out]; rfl,HBE.out⟩)
end Go.Proofs.YtnppngaabfhkpaaGreat
