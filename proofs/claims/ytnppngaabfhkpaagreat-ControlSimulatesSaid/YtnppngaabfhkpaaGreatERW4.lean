/-
  The walks of layer 44's reference: Advance.
-/
import Derived.Test.YtnppngaabfhkpaaGreatECX
import Derived.Test.YtnppngaabfhkpaaGreatERW1
import Derived.Test.YtnppngaabfhkpaaGreatEOP7
namespace Go.Proofs.YtnppngaabfhkpaaGreat
open Go.RowKit
attribute [local go_sem ↓] Go.wp_at_zero Go.wp_at_succ
section
variable {ops:Array Oper} {rest:List Oper} {o:Oper} {a:Act} {W:World} {Q:Exit→Act→World→Prop}
theorem wpList_load_decR (hw:Region.wanted o (yielded ops a.tmps)=true) (s:Operand) (ho:o.op = .load 42 s) (g:Nat) (hx:a.eval s = .pointer (some ⟨g,0,none⟩)) (d:DcM) {t:TypeId} (h:Blk W g t d.cs) (hk:wpList Tryz.prog ops Q rest (a.put o.dst d.v) W) :
  wpList Tryz.prog ops Q (o :: rest) a W:=wpList_step fun _ hK => step_load_blk hw 42 (by kernel_rfl) (by kernel_rfl) s ho g hx h (hK _ _ hk)
end
structure AQ (x:PbM) (d:DcM) (w wr:World):Prop where
 p:Blk wr w.heap.size 31 x.cs
 q:Blk wr (w.heap.size+1) 42 d.cs
 r:Blk wr (w.heap.size+2) 31 PbM.nil.cs
 bel:Below w.heap.size w wr
section
variable {x:PbM} {d:DcM} {w wr w1:World}
theorem AQ.start (x:PbM) (d:DcM) (w:World):AQ x d w (((w.alloc (.cells x.cs 31)).alloc (.cells d.cs 42)).alloc (.cells PbM.nil.cs 31)):=by
 obtain ⟨h1,h2,h3,h4,h5⟩:=three_boxes (w:=w) (cs:=x.cs) (t:=31) (cs2:=d.cs) (t2:=42) (cs3:=PbM.nil.cs) (t3:=31) (Below.refl _ _)
 exact ⟨h1,h2,h3,h5⟩
theorem AQ.lt (h:AQ x d w wr):w.heap.size+3 ≤ wr.heap.size:=h.r.lt
theorem AQ.below (h:AQ x d w wr) (hb:Below wr.heap.size wr w1):AQ x d w w1:=⟨h.p.below hb h.p.lt,h.q.below hb h.q.lt,h.r.below hb h.r.lt,h.bel.trans (hb.mono h.bel.size)⟩
theorem AQ.grown {k:Option Nat} (h:AQ x d w wr) (hg:wr.grownBy w1 k) (hk:∀ q,k=some q→w.heap.size+3 ≤ q):AQ x d w w1 :=
 ⟨h.p.grown hg (by intro e; have:=hk _ e.symm; omega),h.q.grown hg (by intro e; have:=hk _ e.symm; omega),h.r.grown hg (by intro e; have:=hk _ e.symm; omega),h.bel.grown hg h.bel.size (fun q e => by have:=hk q e; omega)⟩
end
theorem radv_ret {tmps:Array Value} {w W:World} {cs:Array Value} {er:Int} {P:Ending→World→Prop} {t:TypeId} (hs:cs.size=20) (h:Blk W (w.heap.size+2) t cs)
  (h4:tmps.getD 4 undef = .pointer (some ⟨w.heap.size+2,0,none⟩)) (h5:tmps.getD 5 undef = .int .i64 er)
  (hP:P (.returned (.tuple #[.agg cs,.int .i64 er])) W) :
  bodyPost Tryz.prog Tryz.f30 P .ret { tmps:=tmps,defers := [] } W:=by
 have hl:=run_load_blk (P:=Tryz.prog) (ty:=31) (by kernel_rfl) (by rw [hs]; kernel_rfl) h
 have h4':tmps[4]?.getD undef = .pointer (some ⟨w.heap.size+2,0,none⟩):=by simpa using h4
 have h5':tmps[5]?.getD undef = .int .i64 er:=by simpa using h5
 refine bodyPost_ret (v := .tuple #[.agg cs,.int .i64 er]) (by simp [results,Tryz.results30,h4',h5',asAddr,hl]) rfl hP
def PbM.put (m:PbM) (A:Option Addr) (c:Nat) (rows:List LdM):PbM := { m with LA:=A,lc:=c,loads:=rows }
theorem PbM.put_set (m:PbM) (A A':Option Addr) (c c' n:Nat) (rows rows':List LdM) (hn:n=rows'.length) {w:World} {g:Nat} (h:Blk w g 31 (m.put A c rows).cs):Blk (w.setCell ⟨g,17,none⟩ (.slice A' n c')) g 31 (m.put A' c' rows').cs:=by
 subst hn
 have:=h.set_ 17 (.slice A' rows'.length c')
 simpa [PbM.put,PbM.cs] using this
structure R7 (w:World) (m:PbM):Prop where
 buy:RInts w m.buy.A m.buy.l
 sell:RInts w m.sell.A m.sell.l
 solar:RInts w m.solar.A m.solar.l
 demand:RInts w m.demand.A m.demand.l
 outside:RInts w m.outside.A m.outside.l
 low:RInts w m.low.A m.low.l
 high:RInts w m.high.A m.high.l
structure F7 (a b:Nat) (m:PbM):Prop where
 buy:∀ ad,m.buy.A=some ad→a < ad.block∧ad.block < b
 sell:∀ ad,m.sell.A=some ad→a < ad.block∧ad.block < b
 solar:∀ ad,m.solar.A=some ad→a < ad.block∧ad.block < b
 demand:∀ ad,m.demand.A=some ad→a < ad.block∧ad.block < b
 outside:∀ ad,m.outside.A=some ad→a < ad.block∧ad.block < b
 low:∀ ad,m.low.A=some ad→a < ad.block∧ad.block < b
 high:∀ ad,m.high.A=some ad→a < ad.block∧ad.block < b
section
variable {m:PbM} {w w1:World} {a b:Nat}
theorem R7.below (h:R7 w m) (hb:Below w.heap.size w w1):R7 w1 m:=⟨h.buy.below hb,h.sell.below hb,h.solar.below hb,h.demand.below hb,h.outside.below hb,h.low.below hb,h.high.below hb⟩
theorem R7.other {r:Option Nat} (h:R7 w m) (f:F7 a b m) (hg:w.grownBy w1 r) (hr:∀ q,r=some q→q ≤ a ∨ b ≤ q):R7 w1 m:=by
 have key:∀ {A:Option Addr} {l:List Int},RInts w A l→(∀ ad,A=some ad→a < ad.block∧ad.block < b)→RInts w1 A l:=fun h f => h.other hg fun ad e e2 => by
  have h1:=f ad e
  rcases hr _ e2.symm with h2 | h2 <;> omega
 exact ⟨key h.buy f.buy,key h.sell f.sell,key h.solar f.solar,key h.demand f.demand,key h.outside f.outside,key h.low f.low,key h.high f.high⟩
end
theorem LS.set {B:Nat} {w:World} {v v2:Value} {ls:List LdM} {is:List Nat} (h:LS B w v v2 ls is) {p:Addr} (hp:p.block < B) (u:Value):LS B (w.setCell p u) v v2 ls is :=
 ⟨own_setCell h.own hp u,own_setCell h.own2 hp u,h.ne,fun y hy => by
  obtain ⟨h1,h2,h3⟩:=h.profs y hy
  exact ⟨h1.setFar (fun ad e => by have:=(h3 ad e).1; omega) u,h2,fun ad e => by obtain ⟨a,b,c,d⟩:=h3 ad e; exact ⟨a,b,c,by simpa [World.setCell] using d⟩⟩⟩
structure AJ (x:PbM) (d:DcM) (w:World) (g bs:Nat) (m:PbM) (wr:World) (A:Option Addr) (c:Nat) (rows:List LdM):Prop where
 ad:AQ x d w wr
 blk:Blk wr g 31 (m.put A c rows).cs
 ls:LS bs wr (.slice A rows.length c) (.slice none 0 0) rows []
 rs:R7 wr m
 f7:F7 g bs m
 lt:w.heap.size+3 ≤ g
 lb:g < bs
 sz:bs ≤ wr.heap.size
structure AK (x:PbM) (d:DcM) (w:World) (g bs:Nat) (m:PbM) (wr:World) (A:Option Addr) (c:Nat) (rows:List LdM) (A':Option Addr) (c':Nat) (y:LdM):Prop where
 ad:AQ x d w wr
 blk:Blk wr g 31 (m.put A c rows).cs
 ls:LS bs wr (.slice A' (rows.length+1) c') (.slice none 0 0) (rows ++ [y]) []
 rs:R7 wr m
 f7:F7 g bs m
 lt:w.heap.size+3 ≤ g
 lb:g < bs
 sz:bs ≤ wr.heap.size
section
variable {x:PbM} {d:DcM} {w wr w1:World} {g bs c c':Nat} {m:PbM} {A A':Option Addr} {rows:List LdM} {y:LdM}
theorem AJ.below (h:AJ x d w g bs m wr A c rows) (hb:Below wr.heap.size wr w1):AJ x d w g bs m w1 A c rows :=
 ⟨h.ad.below hb,h.blk.below hb h.blk.lt,h.ls.below hb,h.rs.below hb,h.f7,h.lt,h.lb,Nat.le_trans h.sz hb.size⟩
theorem AJ.c17 (h:AJ x d w g bs m wr A c rows):wr.cell? ⟨g,17,none⟩=some (.slice A rows.length c):=by
 have:=h.blk.cell 17
 simpa [PbM.put,PbM.cs] using this
theorem AK.c17 (h:AK x d w g bs m wr A c rows A' c' y):wr.cell? ⟨g,17,none⟩=some (.slice A rows.length c):=by
 have:=h.blk.cell 17
 simpa [PbM.put,PbM.cs] using this
theorem AJ.push (h:AJ x d w g bs m wr A c rows) (hx:RInts wr y.A y.r.prof) (hc:y.r.prof.length ≤ y.c) (hf:∀ ad,y.A=some ad→bs ≤ ad.block∧some ad.block ≠ (Value.slice A rows.length c).ownBlock∧some ad.block ≠ (Value.slice none 0 0).ownBlock∧ad.block < wr.heap.size)
  (hown:w1.ownsRow bs 54 4 (.slice A' (rows.length+1) c') (rows.length+1) (ldCells rows ++ y.cells)) (hg:wr.grownBy w1 (Value.slice A rows.length c).ownBlock) (hv:(Value.slice A' (rows.length+1) c').ownBlock=(Value.slice A rows.length c).ownBlock ∨ ∃ q,(Value.slice A' (rows.length+1) c').ownBlock=some q∧wr.heap.size ≤ q) :
  AK x d w g bs m w1 A c rows A' c' y:=by
 have hq:∀ q,(Value.slice A rows.length c).ownBlock=some q→bs ≤ q:=fun q e => (h.ls.own.lt q e).1
 have h1:=h.lt
 have h2:=h.lb
 exact ⟨h.ad.grown hg (fun q e => by have:=hq q e; omega),h.blk.grown hg (fun e => by have:=hq _ e.symm; omega),h.ls.push1 hx hc hf hown hg hv,h.rs.other h.f7 hg (fun q e => .inr (hq q e)),h.f7,h.lt,h.lb,Nat.le_trans h.sz hg.size⟩
theorem AK.set (h:AK x d w g bs m wr A c rows A' c' y):AJ x d w g bs m (wr.setCell ⟨g,17,none⟩ (.slice A' (rows.length+1) c')) A' c' (rows ++ [y]):=by
 have e:rows.length+1=(rows ++ [y]).length:=by simp
 have hg:wr.grownBy (wr.setCell ⟨g,17,none⟩ (.slice A' (rows.length+1) c')) (some g):=only_setCell (p:=⟨g,17,none⟩) (grown_id _ _) (.inl rfl) _
 refine ⟨h.ad.grown hg (fun q e => by injection e with e; have:=h.lt; omega),PbM.put_set m A A' c c' _ rows _ e h.blk,?_,h.rs.other h.f7 hg (fun q e => .inl (by injection e with e; omega)),h.f7,h.lt,h.lb,by have:=h.sz; simpa [World.setCell] using this⟩
 have:=h.ls.set (p:=⟨g,17,none⟩) h.lb (.slice A' (rows.length+1) c')
 rwa [← e]
theorem AJ.fresh (h:AJ x d w g bs m wr A c rows) {B:Option Addr} {B2:Nat} (hf:∀ ad,B=some ad→wr.heap.size ≤ ad.block) (hlt:∀ ad,B=some ad→ad.block < B2) :
  ∀ ad,B=some ad→bs ≤ ad.block∧some ad.block ≠ (Value.slice A rows.length c).ownBlock∧some ad.block ≠ (Value.slice none 0 0).ownBlock∧ad.block < B2:=h.ls.fresh hf h.sz hlt
end
def AdvOutN (p:Pb) (d:Dc) (w:World) (e:Ending) (w':World):Prop :=
 (p.advE d=0∧∃ m:PbM,e = .returned (.tuple #[m.v,.int .i64 0])∧m.p=p.adv d∧RPb w' m∧m.Fit∧m.Cap∧PbNew w.heap.size m∧Below w.heap.size w w') ∨
 (p.advE d ≠ 0∧e = .returned (.tuple #[PbM.nil.v,.int .i64 (p.advE d)])∧Below w.heap.size w w')
set_option maxRecDepth 100000 in
set_option maxHeartbeats 64000000 in
theorem radvanceN_any (x:PbM) (d:DcM) (w:World) (hP0:RPb w x) (hF:x.Fit) (hC:x.Cap) (hD0:RBools w d.A d.l) :
  Calls Tryz.prog 30 #[x.v,d.v] w (AdvOutN x.p d.d w):=by
 have hP:=Lib.hid hP0
 have hD:=Lib.hid hD0
 have hap:=fun W (h:RPb W x) (h2:RBools W d.A d.l) => rapply_any x d W h hF h2
 have hst0:=AQ.start x d w
 simp only [PbM.v,DcM.v]
 obtain ⟨W,hW⟩:∃ W,W=((w.alloc (.cells x.cs 31)).alloc (.cells #[.int .i64 d.charge,.int .i64 d.heat,.slice d.A d.l.length d.c] 42)).alloc (.cells #[.slice none 0 0,.slice none 0 0,.int .i64 0,.slice none 0 0,.slice none 0 0,.slice none 0 0,.int .i64 0,.int .i64 0,.int .i64 0,.int .i64 0,.int .i64 0,.int .i64 0,.int .i64 0,.int .i64 0,.int .i64 0,.slice none 0 0,.slice none 0 0,.slice none 0 0,.int .i64 0,.int .i64 0] 31):=⟨_,rfl⟩
 simp only [PbM.cs] at hW
 rw [show ((w.alloc (.cells x.cs 31)).alloc (.cells d.cs 42)).alloc (.cells PbM.nil.cs 31)=W from hW.symm] at hst0
 have hst:=Lib.hid hst0
 have hWH:=Lib.hid hW
 clear hst0 hW hP0 hD0
 unfold ApplyOut at hap
 by_cases he:x.p.doE d.d=0
 ·have hc:x.p.chk=0:=Classical.byContradiction fun h => by rw [Pb.do_chk h] at he; exact h he
  have hcd:x.p.canDo d.d=0:=Classical.byContradiction fun h => by rw [Pb.do_can hc h] at he; exact h he
  have hg:=Pb.good hc
  obtain ⟨k1,k2,k3⟩:=Pb.ap_ok he
  rw [k1,k2,k3,he] at hap
  have hdl:d.l.length=x.loads.length:=by have h:d.l.length=x.p.loads.length:=(Pb.can_good hcd).1; rw [PbM.loads_len] at h; exact h
  have hnb:=Pb.nbd hg
  have hn1:1 ≤ x.buy.l.length:=hnb.1
  have hn2:x.buy.l.length ≤ 96:=hnb.2
  have n_buy:x.buy.l.length=x.buy.l.length:=rfl
  have n_sell:x.sell.l.length=x.buy.l.length:=(Tf.good hg.t).len
  have n_solar:x.solar.l.length=x.buy.l.length:=hg.lens.1
  have n_demand:x.demand.l.length=x.buy.l.length:=hg.lens.2.1
  have n_outside:x.outside.l.length=x.buy.l.length:=hg.lens.2.2
  have n_low:x.low.l.length=x.buy.l.length:=(Pb.room_ok hg).2.1
  have n_high:x.high.l.length=x.buy.l.length:=(Pb.room_ok hg).2.2.1
  have hae:x.p.advE d.d=if x.buy.l.length=1 then 2 else if x.p.okTo d.d x.p.loads.length=false then 20 else 0:=by unfold Pb.advE; rw [if_neg (fun e => e he)]; rfl
  have hl4:x.loads.length ≤ 4:=by have h1:=Pb.loads4 hg; have h2:=PbM.loads_len x; omega
  have hlk:=fun (k:Nat) (hk:k < x.loads.length) => (by have h:=Pb.load_at hg (i:=k) (by rw [PbM.loads_len]; exact hk); rw [PbM.load_at hk] at h; exact h:x.loads[k].r.chk x.p.n=0)
  have HLK:=Lib.hid hlk
  have HNM:=Lib.hid hF.names
  have HCP:=Lib.hid hC.profs
  have HDL:=Lib.hid hdl
  have HLN:=Lib.hid (PbM.loads_len x)
  have hsh:=fun (r:Ld) A c W (q:RInts W A r.prof) (h1:r.name.size ≤ maxLen) (h2:r.prof.length < 1000000000) => rlshiftC_any r A c 1 W q h1 h2
  have hrs:=fun A c (l:List Int) W (q:RInts W A l) (h1:1 ≤ l.length) (h2:l.length ≤ c) (h3:l.length ≤ 1000000000) => rtail44_any A c l W q h1 h2 h3
  simp only [Ld.v] at hsh
  have HSH:=Lib.hid hsh
  have HRS:=Lib.hid hrs
  have hnf:=fun h => Pb.nexts_fit (d:=d.d) hg h
  have hadv:x.p.adv d.d=⟨⟨x.buy.l.drop 1,x.sell.l.drop 1,x.fuse⟩,x.solar.l.drop 1,x.demand.l.drop 1,x.outside.l.drop 1,x.bat,⟨x.gain,x.loss,x.steps,x.power,x.low.l.drop 1,x.high.l.drop 1⟩,x.p.nexts d.d x.p.loads.length,x.p.nextLv d.d,x.p.nextTm d.d⟩:=rfl
  have hT_buy:=fun W (h:RInts W x.buy.A x.buy.l) => rtail44_any x.buy.A x.buy.c x.buy.l W h (by omega) hC.buy (by omega)
  have hp_buy:x.buy.l.length ≠ 1→x.buy.l.drop 1 ≠ []:=fun h h2 => by have h3:=congrArg List.length h2; rw [List.length_drop] at h3; simp at h3; omega
  have hT_sell:=fun W (h:RInts W x.sell.A x.sell.l) => rtail44_any x.sell.A x.sell.c x.sell.l W h (by omega) hC.sell (by omega)
  have hp_sell:x.buy.l.length ≠ 1→x.sell.l.drop 1 ≠ []:=fun h h2 => by have h3:=congrArg List.length h2; rw [List.length_drop] at h3; simp at h3; omega
  have hT_solar:=fun W (h:RInts W x.solar.A x.solar.l) => rtail44_any x.solar.A x.solar.c x.solar.l W h (by omega) hC.solar (by omega)
  have hp_solar:x.buy.l.length ≠ 1→x.solar.l.drop 1 ≠ []:=fun h h2 => by have h3:=congrArg List.length h2; rw [List.length_drop] at h3; simp at h3; omega
  have hT_demand:=fun W (h:RInts W x.demand.A x.demand.l) => rtail44_any x.demand.A x.demand.c x.demand.l W h (by omega) hC.demand (by omega)
  have hp_demand:x.buy.l.length ≠ 1→x.demand.l.drop 1 ≠ []:=fun h h2 => by have h3:=congrArg List.length h2; rw [List.length_drop] at h3; simp at h3; omega
  have hT_outside:=fun W (h:RInts W x.outside.A x.outside.l) => rtail44_any x.outside.A x.outside.c x.outside.l W h (by omega) hC.outside (by omega)
  have hp_outside:x.buy.l.length ≠ 1→x.outside.l.drop 1 ≠ []:=fun h h2 => by have h3:=congrArg List.length h2; rw [List.length_drop] at h3; simp at h3; omega
  have hT_low:=fun W (h:RInts W x.low.A x.low.l) => rtail44_any x.low.A x.low.c x.low.l W h (by omega) hC.low (by omega)
  have hp_low:x.buy.l.length ≠ 1→x.low.l.drop 1 ≠ []:=fun h h2 => by have h3:=congrArg List.length h2; rw [List.length_drop] at h3; simp at h3; omega
  have hT_high:=fun W (h:RInts W x.high.A x.high.l) => rtail44_any x.high.A x.high.c x.high.l W h (by omega) hC.high (by omega)
  have hp_high:x.buy.l.length ≠ 1→x.high.l.drop 1 ≠ []:=fun h h2 => by have h3:=congrArg List.length h2; rw [List.length_drop] at h3; simp at h3; omega
  have hfl:(x.buy.l.drop 1).length ≤ maxLen:=by rw [List.length_drop]; unfold maxLen; omega
  generalize hE_buy:x.buy.l.drop 1=dbuy at *
  generalize hE_sell:x.sell.l.drop 1=dsell at *
  generalize hE_solar:x.solar.l.drop 1=dsolar at *
  generalize hE_demand:x.demand.l.drop 1=ddemand at *
  generalize hE_outside:x.outside.l.drop 1=doutside at *
  generalize hE_low:x.low.l.drop 1=dlow at *
  generalize hE_high:x.high.l.drop 1=dhigh at *
  have HT_buy:=Lib.hid hT_buy
  have HP_buy:=Lib.hid hp_buy
  have HT_sell:=Lib.hid hT_sell
  have HP_sell:=Lib.hid hp_sell
  have HT_solar:=Lib.hid hT_solar
  have HP_solar:=Lib.hid hp_solar
  have HT_demand:=Lib.hid hT_demand
  have HP_demand:=Lib.hid hp_demand
  have HT_outside:=Lib.hid hT_outside
  have HP_outside:=Lib.hid hp_outside
  have HT_low:=Lib.hid hT_low
  have HP_low:=Lib.hid hp_low
  have HT_high:=Lib.hid hT_high
  have HP_high:=Lib.hid hp_high
  generalize x.p.nextLv d.d=nlv at *
  generalize x.p.nextTm d.d=ntm at *
  generalize x.p.nextNet d.d=nnt at *
  have HAP:=Lib.hid hap
  have HAE:=Lib.hid hae
  have HNF:=Lib.hid hnf
  have HADV:=Lib.hid hadv
  have HFL:=Lib.hid hfl
  have HN1:=Lib.hid hn1
  clear hap hae hnf hadv hfl hc hcd hg k1 k2 k3 he hdl hnb n_buy n_sell n_solar n_demand n_outside n_low n_high hF hC hlk hsh hrs hT_buy hp_buy hT_sell hp_sell hT_solar hp_solar hT_demand hp_demand hT_outside hp_outside hT_low hp_low hT_high hp_high
  go_enter Tryz.func30,Tryz.ntmps30
  go_upto_region 1 with fail
  rw [← hWH.out]
  clear hWH
  go_wp2_with (first | refine wpList_load_problemG (by rfl) _ rfl w.heap.size rfl x hst.out.p ?_ | refine wpList_load_decR (by rfl) _ rfl (w.heap.size+1) rfl d hst.out.q ?_)
  refine (HAP.out _ (hP.out.below hst.out.bel) (hD.out.below hst.out.bel)).mono ?_
  rintro e w1 ⟨rfl,hb1⟩
  have HX1:=Lib.hid (hst.out.below hb1)
  clear hb1 hst HAP
  go_upto_region 4 with fail
  have c0:=HX1.out.p.cell 0
  simp [PbM.cs] at c0
  by_cases h1:x.buy.l.length=1
  ·have q1:((x.buy.l.length:Int) == 1)=true:=by rw [beq_iff_eq]; omega
   have HE2:Hid (x.p.advE d.d=2):=by show _=_; rw [HAE.out,if_pos h1]
   clear h1
   go_wp2_with (refine wpList_store_blk rfl 31 _ _ rfl (w.heap.size+2) rfl PbM.nil.cs rfl (by kernel_rfl) (PbM.cs_oneC _) HX1.out.r rfl ?_)
   intro w5 hB5 hg5
   have hb5:Below w.heap.size w w5:=HX1.out.bel.grown hg5 HX1.out.bel.size (fun k e => by injection e with e; omega)
   have HB5:=Lib.hid hB5
   have HBE:=Lib.hid hb5
   clear hB5 hg5 hb5 c0 q1
   go_wp2_with fail
   refine radv_ret (cs:=PbM.nil.cs) rfl HB5.out rfl rfl (.inr ⟨by rw [HE2.out]; decide,by rw [HE2.out]; rfl,HBE.out⟩)
  ·have q1:((x.buy.l.length:Int) == 1)=false:=by rw [beq_eq_false_iff_ne]; omega
   have HAE2:Hid (x.p.advE d.d=if x.p.okTo d.d x.p.loads.length=false then 20 else 0):=by show _=_; rw [HAE.out,if_neg h1]
   have H1:=Lib.hid h1
   clear h1 HAE
   go_upto_region 6 with fail
   clear c0 q1
   go_wp2_with (first | refine wpList_load_problemD rfl _ rfl w.heap.size rfl x HX1.out.p ?_ | refine wpList_store_blk rfl 31 _ _ rfl w1.heap.size rfl x.cs rfl (by kernel_rfl) (PbM.cs_oneC _) (Blk.new w1 _ _) rfl ?_)
   intro w2 hB2 hg2
   have hb2:Below w1.heap.size w1 w2:=((Below.refl w1.heap.size w1).alloc (Nat.le_refl _) (.cells #[.slice none 0 0,.slice none 0 0,.int .i64 0,.slice none 0 0,.slice none 0 0,.slice none 0 0,.int .i64 0,.int .i64 0,.int .i64 0,.int .i64 0,.int .i64 0,.int .i64 0,.int .i64 0,.int .i64 0,.int .i64 0,.slice none 0 0,.slice none 0 0,.slice none 0 0,.int .i64 0,.int .i64 0] 31)).grown hg2 (by simp) (fun k e => by injection e with e; omega)
   obtain ⟨g,hg⟩:∃ n,n=w1.heap.size:=⟨_,rfl⟩
   rw [← hg] at hB2
   have HG3:Hid (w.heap.size+3 ≤ g):=by show _ ≤ _; rw [hg]; exact HX1.out.lt
   have HX2:=Lib.hid (HX1.out.below hb2)
   have HQ2:Hid (Blk w2 g 31 #[.slice x.buy.A x.buy.l.length x.buy.c,.slice x.sell.A x.sell.l.length x.sell.c,.int .i64 x.fuse,.slice x.solar.A x.solar.l.length x.solar.c,.slice x.demand.A x.demand.l.length x.demand.c,.slice x.outside.A x.outside.l.length x.outside.c,.int .i64 x.bat.cap,.int .i64 x.bat.reserve,.int .i64 x.bat.charge,.int .i64 x.bat.discharge,.int .i64 x.bat.eff,.int .i64 x.gain,.int .i64 x.loss,.int .i64 x.steps,.int .i64 x.power,.slice x.low.A x.low.l.length x.low.c,.slice x.high.A x.high.l.length x.high.c,.slice x.LA x.loads.length x.lc,.int .i64 x.level,.int .i64 x.temp]):=hB2
   go_upto_region 7 with fail
   rw [← hg]
   clear hB2 hg2 hb2 hg HX1
   have c0:=HX2.out.p.cell 0
   simp [PbM.cs] at c0
   go_wp2_with fail
   refine (HT_buy.out _ (hP.out.below HX2.out.bel).buy).mono ?_
   rintro e u3 ⟨Abuy,cbuy,rfl,hri,hci,hfi,hb⟩
   clear c0
   have HQm:=Lib.hid (HQ2.out.below hb HQ2.out.lt)
   have HGg:=Lib.hid (HQ2.out.lt)
   have qj:=HQm.out.cell 0
   have qf:=HQm.out.frozen 0
   simp at qj
   obtain ⟨v3x,hv⟩:∃ v,v=u3.setCell ⟨g,0,none⟩ (.slice Abuy dbuy.length cbuy):=⟨_,rfl⟩
   have hgv:u3.grownBy v3x (some g):=by rw [hv]; exact only_setCell (p:=⟨g,0,none⟩) (grown_id _ _) (.inl rfl) _
   have HX3:=Lib.hid ((HX2.out.below hb).grown hgv (fun q e => by injection e with e; have:=HG3.out; omega))
   have HQ3:Hid (Blk v3x g 31 #[.slice Abuy dbuy.length cbuy,.slice x.sell.A x.sell.l.length x.sell.c,.int .i64 x.fuse,.slice x.solar.A x.solar.l.length x.solar.c,.slice x.demand.A x.demand.l.length x.demand.c,.slice x.outside.A x.outside.l.length x.outside.c,.int .i64 x.bat.cap,.int .i64 x.bat.reserve,.int .i64 x.bat.charge,.int .i64 x.bat.discharge,.int .i64 x.bat.eff,.int .i64 x.gain,.int .i64 x.loss,.int .i64 x.steps,.int .i64 x.power,.slice x.low.A x.low.l.length x.low.c,.slice x.high.A x.high.l.length x.high.c,.slice x.LA x.loads.length x.lc,.int .i64 x.level,.int .i64 x.temp]):=by show Blk _ _ _ _; rw [hv]; have:=HQm.out.set_ 0 (.slice Abuy dbuy.length cbuy); simpa using this
   have HF_buy:Hid (∀ ad,Abuy=some ad→g < ad.block):=fun ad e => Nat.lt_of_lt_of_le HGg.out (hfi ad e)
   have HC_buy:=Lib.hid hci
   have HR_buy_3:=Lib.hid (hri.other hgv (fun ad e h => by injection h with h; have:=HF_buy.out ad e; omega))
   go_upto_region 8 with fail
   rw [← hv]
   clear hv hgv qj qf hri hci hfi hb HQm HX2 HQ2 HGg 
   have c1:=HX3.out.p.cell 1
   simp [PbM.cs] at c1
   go_wp2_with fail
   refine (HT_sell.out _ (hP.out.below HX3.out.bel).sell).mono ?_
   rintro e u4 ⟨Asell,csell,rfl,hri,hci,hfi,hb⟩
   clear c1
   have HQm:=Lib.hid (HQ3.out.below hb HQ3.out.lt)
   have HGg:=Lib.hid (HQ3.out.lt)
   have qj:=HQm.out.cell 1
   have qf:=HQm.out.frozen 1
   simp at qj
   obtain ⟨v4x,hv⟩:∃ v,v=u4.setCell ⟨g,1,none⟩ (.slice Asell dsell.length csell):=⟨_,rfl⟩
   have hgv:u4.grownBy v4x (some g):=by rw [hv]; exact only_setCell (p:=⟨g,1,none⟩) (grown_id _ _) (.inl rfl) _
   have HX4:=Lib.hid ((HX3.out.below hb).grown hgv (fun q e => by injection e with e; have:=HG3.out; omega))
   have HQ4:Hid (Blk v4x g 31 #[.slice Abuy dbuy.length cbuy,.slice Asell dsell.length csell,.int .i64 x.fuse,.slice x.solar.A x.solar.l.length x.solar.c,.slice x.demand.A x.demand.l.length x.demand.c,.slice x.outside.A x.outside.l.length x.outside.c,.int .i64 x.bat.cap,.int .i64 x.bat.reserve,.int .i64 x.bat.charge,.int .i64 x.bat.discharge,.int .i64 x.bat.eff,.int .i64 x.gain,.int .i64 x.loss,.int .i64 x.steps,.int .i64 x.power,.slice x.low.A x.low.l.length x.low.c,.slice x.high.A x.high.l.length x.high.c,.slice x.LA x.loads.length x.lc,.int .i64 x.level,.int .i64 x.temp]):=by show Blk _ _ _ _; rw [hv]; have:=HQm.out.set_ 1 (.slice Asell dsell.length csell); simpa using this
   have HF_sell:Hid (∀ ad,Asell=some ad→g < ad.block):=fun ad e => Nat.lt_of_lt_of_le HGg.out (hfi ad e)
   have HC_sell:=Lib.hid hci
   have HR_buy_4:=Lib.hid ((HR_buy_3.out.below hb).other hgv (fun ad e h => by injection h with h; have:=HF_buy.out ad e; omega))
   have HR_sell_4:=Lib.hid (hri.other hgv (fun ad e h => by injection h with h; have:=HF_sell.out ad e; omega))
   go_upto_region 9 with fail
   rw [← hv]
   clear hv hgv qj qf hri hci hfi hb HQm HX3 HQ3 HGg HR_buy_3
   have c3:=HX4.out.p.cell 3
   simp [PbM.cs] at c3
   go_wp2_with fail
   refine (HT_solar.out _ (hP.out.below HX4.out.bel).solar).mono ?_
   rintro e u5 ⟨Asolar,csolar,rfl,hri,hci,hfi,hb⟩
   clear c3
   have HQm:=Lib.hid (HQ4.out.below hb HQ4.out.lt)
   have HGg:=Lib.hid (HQ4.out.lt)
   have qj:=HQm.out.cell 3
   have qf:=HQm.out.frozen 3
   simp at qj
   obtain ⟨v5x,hv⟩:∃ v,v=u5.setCell ⟨g,3,none⟩ (.slice Asolar dsolar.length csolar):=⟨_,rfl⟩
   have hgv:u5.grownBy v5x (some g):=by rw [hv]; exact only_setCell (p:=⟨g,3,none⟩) (grown_id _ _) (.inl rfl) _
   have HX5:=Lib.hid ((HX4.out.below hb).grown hgv (fun q e => by injection e with e; have:=HG3.out; omega))
   have HQ5:Hid (Blk v5x g 31 #[.slice Abuy dbuy.length cbuy,.slice Asell dsell.length csell,.int .i64 x.fuse,.slice Asolar dsolar.length csolar,.slice x.demand.A x.demand.l.length x.demand.c,.slice x.outside.A x.outside.l.length x.outside.c,.int .i64 x.bat.cap,.int .i64 x.bat.reserve,.int .i64 x.bat.charge,.int .i64 x.bat.discharge,.int .i64 x.bat.eff,.int .i64 x.gain,.int .i64 x.loss,.int .i64 x.steps,.int .i64 x.power,.slice x.low.A x.low.l.length x.low.c,.slice x.high.A x.high.l.length x.high.c,.slice x.LA x.loads.length x.lc,.int .i64 x.level,.int .i64 x.temp]):=by show Blk _ _ _ _; rw [hv]; have:=HQm.out.set_ 3 (.slice Asolar dsolar.length csolar); simpa using this
   have HF_solar:Hid (∀ ad,Asolar=some ad→g < ad.block):=fun ad e => Nat.lt_of_lt_of_le HGg.out (hfi ad e)
   have HC_solar:=Lib.hid hci
   have HR_buy_5:=Lib.hid ((HR_buy_4.out.below hb).other hgv (fun ad e h => by injection h with h; have:=HF_buy.out ad e; omega))
   have HR_sell_5:=Lib.hid ((HR_sell_4.out.below hb).other hgv (fun ad e h => by injection h with h; have:=HF_sell.out ad e; omega))
   have HR_solar_5:=Lib.hid (hri.other hgv (fun ad e h => by injection h with h; have:=HF_solar.out ad e; omega))
   go_upto_region 10 with fail
   rw [← hv]
   clear hv hgv qj qf hri hci hfi hb HQm HX4 HQ4 HGg HR_buy_4 HR_sell_4
   have c4:=HX5.out.p.cell 4
   simp [PbM.cs] at c4
   go_wp2_with fail
   refine (HT_demand.out _ (hP.out.below HX5.out.bel).demand).mono ?_
   rintro e u6 ⟨Ademand,cdemand,rfl,hri,hci,hfi,hb⟩
   clear c4
   have HQm:=Lib.hid (HQ5.out.below hb HQ5.out.lt)
   have HGg:=Lib.hid (HQ5.out.lt)
   have qj:=HQm.out.cell 4
   have qf:=HQm.out.frozen 4
   simp at qj
   obtain ⟨v6x,hv⟩:∃ v,v=u6.setCell ⟨g,4,none⟩ (.slice Ademand ddemand.length cdemand):=⟨_,rfl⟩
   have hgv:u6.grownBy v6x (some g):=by rw [hv]; exact only_setCell (p:=⟨g,4,none⟩) (grown_id _ _) (.inl rfl) _
   have HX6:=Lib.hid ((HX5.out.below hb).grown hgv (fun q e => by injection e with e; have:=HG3.out; omega))
   have HQ6:Hid (Blk v6x g 31 #[.slice Abuy dbuy.length cbuy,.slice Asell dsell.length csell,.int .i64 x.fuse,.slice Asolar dsolar.length csolar,.slice Ademand ddemand.length cdemand,.slice x.outside.A x.outside.l.length x.outside.c,.int .i64 x.bat.cap,.int .i64 x.bat.reserve,.int .i64 x.bat.charge,.int .i64 x.bat.discharge,.int .i64 x.bat.eff,.int .i64 x.gain,.int .i64 x.loss,.int .i64 x.steps,.int .i64 x.power,.slice x.low.A x.low.l.length x.low.c,.slice x.high.A x.high.l.length x.high.c,.slice x.LA x.loads.length x.lc,.int .i64 x.level,.int .i64 x.temp]):=by show Blk _ _ _ _; rw [hv]; have:=HQm.out.set_ 4 (.slice Ademand ddemand.length cdemand); simpa using this
   have HF_demand:Hid (∀ ad,Ademand=some ad→g < ad.block):=fun ad e => Nat.lt_of_lt_of_le HGg.out (hfi ad e)
   have HC_demand:=Lib.hid hci
   have HR_buy_6:=Lib.hid ((HR_buy_5.out.below hb).other hgv (fun ad e h => by injection h with h; have:=HF_buy.out ad e; omega))
   have HR_sell_6:=Lib.hid ((HR_sell_5.out.below hb).other hgv (fun ad e h => by injection h with h; have:=HF_sell.out ad e; omega))
   have HR_solar_6:=Lib.hid ((HR_solar_5.out.below hb).other hgv (fun ad e h => by injection h with h; have:=HF_solar.out ad e; omega))
   have HR_demand_6:=Lib.hid (hri.other hgv (fun ad e h => by injection h with h; have:=HF_demand.out ad e; omega))
   go_upto_region 11 with fail
   rw [← hv]
   clear hv hgv qj qf hri hci hfi hb HQm HX5 HQ5 HGg HR_buy_5 HR_sell_5 HR_solar_5
   have c5:=HX6.out.p.cell 5
   simp [PbM.cs] at c5
   go_wp2_with fail
   refine (HT_outside.out _ (hP.out.below HX6.out.bel).outside).mono ?_
   rintro e u7 ⟨Aoutside,coutside,rfl,hri,hci,hfi,hb⟩
   clear c5
   have HQm:=Lib.hid (HQ6.out.below hb HQ6.out.lt)
   have HGg:=Lib.hid (HQ6.out.lt)
   have qj:=HQm.out.cell 5
   have qf:=HQm.out.frozen 5
   simp at qj
   obtain ⟨v7x,hv⟩:∃ v,v=u7.setCell ⟨g,5,none⟩ (.slice Aoutside doutside.length coutside):=⟨_,rfl⟩
   have hgv:u7.grownBy v7x (some g):=by rw [hv]; exact only_setCell (p:=⟨g,5,none⟩) (grown_id _ _) (.inl rfl) _
   have HX7:=Lib.hid ((HX6.out.below hb).grown hgv (fun q e => by injection e with e; have:=HG3.out; omega))
   have HQ7:Hid (Blk v7x g 31 #[.slice Abuy dbuy.length cbuy,.slice Asell dsell.length csell,.int .i64 x.fuse,.slice Asolar dsolar.length csolar,.slice Ademand ddemand.length cdemand,.slice Aoutside doutside.length coutside,.int .i64 x.bat.cap,.int .i64 x.bat.reserve,.int .i64 x.bat.charge,.int .i64 x.bat.discharge,.int .i64 x.bat.eff,.int .i64 x.gain,.int .i64 x.loss,.int .i64 x.steps,.int .i64 x.power,.slice x.low.A x.low.l.length x.low.c,.slice x.high.A x.high.l.length x.high.c,.slice x.LA x.loads.length x.lc,.int .i64 x.level,.int .i64 x.temp]):=by show Blk _ _ _ _; rw [hv]; have:=HQm.out.set_ 5 (.slice Aoutside doutside.length coutside); simpa using this
   have HF_outside:Hid (∀ ad,Aoutside=some ad→g < ad.block):=fun ad e => Nat.lt_of_lt_of_le HGg.out (hfi ad e)
   have HC_outside:=Lib.hid hci
   have HR_buy_7:=Lib.hid ((HR_buy_6.out.below hb).other hgv (fun ad e h => by injection h with h; have:=HF_buy.out ad e; omega))
   have HR_sell_7:=Lib.hid ((HR_sell_6.out.below hb).other hgv (fun ad e h => by injection h with h; have:=HF_sell.out ad e; omega))
   have HR_solar_7:=Lib.hid ((HR_solar_6.out.below hb).other hgv (fun ad e h => by injection h with h; have:=HF_solar.out ad e; omega))
   have HR_demand_7:=Lib.hid ((HR_demand_6.out.below hb).other hgv (fun ad e h => by injection h with h; have:=HF_demand.out ad e; omega))
   have HR_outside_7:=Lib.hid (hri.other hgv (fun ad e h => by injection h with h; have:=HF_outside.out ad e; omega))
   go_upto_region 12 with fail
   rw [← hv]
   clear hv hgv qj qf hri hci hfi hb HQm HX6 HQ6 HGg HR_buy_6 HR_sell_6 HR_solar_6 HR_demand_6
   have c15:=HX7.out.p.cell 15
   simp [PbM.cs] at c15
   go_wp2_with fail
   refine (HT_low.out _ (hP.out.below HX7.out.bel).low).mono ?_
   rintro e u8 ⟨Alow,clow,rfl,hri,hci,hfi,hb⟩
   clear c15
   have HQm:=Lib.hid (HQ7.out.below hb HQ7.out.lt)
   have HGg:=Lib.hid (HQ7.out.lt)
   have qj:=HQm.out.cell 15
   have qf:=HQm.out.frozen 15
   simp at qj
   obtain ⟨v8x,hv⟩:∃ v,v=u8.setCell ⟨g,15,none⟩ (.slice Alow dlow.length clow):=⟨_,rfl⟩
   have hgv:u8.grownBy v8x (some g):=by rw [hv]; exact only_setCell (p:=⟨g,15,none⟩) (grown_id _ _) (.inl rfl) _
   have HX8:=Lib.hid ((HX7.out.below hb).grown hgv (fun q e => by injection e with e; have:=HG3.out; omega))
   have HQ8:Hid (Blk v8x g 31 #[.slice Abuy dbuy.length cbuy,.slice Asell dsell.length csell,.int .i64 x.fuse,.slice Asolar dsolar.length csolar,.slice Ademand ddemand.length cdemand,.slice Aoutside doutside.length coutside,.int .i64 x.bat.cap,.int .i64 x.bat.reserve,.int .i64 x.bat.charge,.int .i64 x.bat.discharge,.int .i64 x.bat.eff,.int .i64 x.gain,.int .i64 x.loss,.int .i64 x.steps,.int .i64 x.power,.slice Alow dlow.length clow,.slice x.high.A x.high.l.length x.high.c,.slice x.LA x.loads.length x.lc,.int .i64 x.level,.int .i64 x.temp]):=by show Blk _ _ _ _; rw [hv]; have:=HQm.out.set_ 15 (.slice Alow dlow.length clow); simpa using this
   have HF_low:Hid (∀ ad,Alow=some ad→g < ad.block):=fun ad e => Nat.lt_of_lt_of_le HGg.out (hfi ad e)
   have HC_low:=Lib.hid hci
   have HR_buy_8:=Lib.hid ((HR_buy_7.out.below hb).other hgv (fun ad e h => by injection h with h; have:=HF_buy.out ad e; omega))
   have HR_sell_8:=Lib.hid ((HR_sell_7.out.below hb).other hgv (fun ad e h => by injection h with h; have:=HF_sell.out ad e; omega))
   have HR_solar_8:=Lib.hid ((HR_solar_7.out.below hb).other hgv (fun ad e h => by injection h with h; have:=HF_solar.out ad e; omega))
   have HR_demand_8:=Lib.hid ((HR_demand_7.out.below hb).other hgv (fun ad e h => by injection h with h; have:=HF_demand.out ad e; omega))
   have HR_outside_8:=Lib.hid ((HR_outside_7.out.below hb).other hgv (fun ad e h => by injection h with h; have:=HF_outside.out ad e; omega))
   have HR_low_8:=Lib.hid (hri.other hgv (fun ad e h => by injection h with h; have:=HF_low.out ad e; omega))
   go_upto_region 13 with fail
   rw [← hv]
   clear hv hgv qj qf hri hci hfi hb HQm HX7 HQ7 HGg HR_buy_7 HR_sell_7 HR_solar_7 HR_demand_7 HR_outside_7
   have c16:=HX8.out.p.cell 16
   simp [PbM.cs] at c16
   go_wp2_with fail
   refine (HT_high.out _ (hP.out.below HX8.out.bel).high).mono ?_
   rintro e u9 ⟨Ahigh,chigh,rfl,hri,hci,hfi,hb⟩
   clear c16
   have HQm:=Lib.hid (HQ8.out.below hb HQ8.out.lt)
   have HGg:=Lib.hid (HQ8.out.lt)
   have qj:=HQm.out.cell 16
   have qf:=HQm.out.frozen 16
   simp at qj
   obtain ⟨v9x,hv⟩:∃ v,v=u9.setCell ⟨g,16,none⟩ (.slice Ahigh dhigh.length chigh):=⟨_,rfl⟩
   have hgv:u9.grownBy v9x (some g):=by rw [hv]; exact only_setCell (p:=⟨g,16,none⟩) (grown_id _ _) (.inl rfl) _
   have HX9:=Lib.hid ((HX8.out.below hb).grown hgv (fun q e => by injection e with e; have:=HG3.out; omega))
   have HQ9:Hid (Blk v9x g 31 #[.slice Abuy dbuy.length cbuy,.slice Asell dsell.length csell,.int .i64 x.fuse,.slice Asolar dsolar.length csolar,.slice Ademand ddemand.length cdemand,.slice Aoutside doutside.length coutside,.int .i64 x.bat.cap,.int .i64 x.bat.reserve,.int .i64 x.bat.charge,.int .i64 x.bat.discharge,.int .i64 x.bat.eff,.int .i64 x.gain,.int .i64 x.loss,.int .i64 x.steps,.int .i64 x.power,.slice Alow dlow.length clow,.slice Ahigh dhigh.length chigh,.slice x.LA x.loads.length x.lc,.int .i64 x.level,.int .i64 x.temp]):=by show Blk _ _ _ _; rw [hv]; have:=HQm.out.set_ 16 (.slice Ahigh dhigh.length chigh); simpa using this
   have HF_high:Hid (∀ ad,Ahigh=some ad→g < ad.block):=fun ad e => Nat.lt_of_lt_of_le HGg.out (hfi ad e)
   have HC_high:=Lib.hid hci
   have HR_buy_9:=Lib.hid ((HR_buy_8.out.below hb).other hgv (fun ad e h => by injection h with h; have:=HF_buy.out ad e; omega))
   have HR_sell_9:=Lib.hid ((HR_sell_8.out.below hb).other hgv (fun ad e h => by injection h with h; have:=HF_sell.out ad e; omega))
   have HR_solar_9:=Lib.hid ((HR_solar_8.out.below hb).other hgv (fun ad e h => by injection h with h; have:=HF_solar.out ad e; omega))
   have HR_demand_9:=Lib.hid ((HR_demand_8.out.below hb).other hgv (fun ad e h => by injection h with h; have:=HF_demand.out ad e; omega))
   have HR_outside_9:=Lib.hid ((HR_outside_8.out.below hb).other hgv (fun ad e h => by injection h with h; have:=HF_outside.out ad e; omega))
   have HR_low_9:=Lib.hid ((HR_low_8.out.below hb).other hgv (fun ad e h => by injection h with h; have:=HF_low.out ad e; omega))
   have HR_high_9:=Lib.hid (hri.other hgv (fun ad e h => by injection h with h; have:=HF_high.out ad e; omega))
   go_upto_region 14 with fail
   rw [← hv]
   clear hv hgv qj qf hri hci hfi hb HQm HX8 HQ8 HGg HR_buy_8 HR_sell_8 HR_solar_8 HR_demand_8 HR_outside_8 HR_low_8
   have z17:=HQ9.out.cell 17
   have z18:=HQ9.out.cell 18
   have z19:=HQ9.out.cell 19
   have f17:=HQ9.out.frozen 17
   have f18:=HQ9.out.frozen 18
   have f19:=HQ9.out.frozen 19
   simp at z17 z18 z19
   go_upto_region 17 with fail
   obtain ⟨vL,hv⟩:∃ v,v=((v9x.setCell ⟨g,18,none⟩ (.int .i64 nlv)).setCell ⟨g,19,none⟩ (.int .i64 ntm)).setCell ⟨g,17,none⟩ (.slice none 0 0):=⟨_,rfl⟩
   rw [← hv]
   have hgv:v9x.grownBy vL (some g):=by rw [hv]; exact only_setCell (p:=⟨g,17,none⟩) (only_setCell (p:=⟨g,19,none⟩) (only_setCell (p:=⟨g,18,none⟩) (grown_id _ _) (.inl rfl) _) (.inl rfl) _) (.inl rfl) _
   obtain ⟨m,hm⟩:∃ m:PbM,m=⟨⟨Abuy,cbuy,dbuy⟩,⟨Asell,csell,dsell⟩,x.fuse,⟨Asolar,csolar,dsolar⟩,⟨Ademand,cdemand,ddemand⟩,⟨Aoutside,coutside,doutside⟩,x.bat,x.gain,x.loss,x.steps,x.power,⟨Alow,clow,dlow⟩,⟨Ahigh,chigh,dhigh⟩,none,0, [],nlv,ntm⟩:=⟨_,rfl⟩
   have hkv:Blk vL g 31 (m.put none 0 []).cs:=by rw [hv,hm]; have:=((HQ9.out.set_ 18 (.int .i64 nlv)).set_ 19 (.int .i64 ntm)).set_ 17 (.slice none 0 0); simpa [PbM.put,PbM.cs] using this
   obtain ⟨bs,hbs⟩:∃ n,n=vL.heap.size:=⟨_,rfl⟩
   have hlv:g < vL.heap.size:=hkv.lt
   have r_buy:=HR_buy_9.out.other hgv (fun ad e h => by injection h with h; have:=HF_buy.out ad e; omega)
   have r_sell:=HR_sell_9.out.other hgv (fun ad e h => by injection h with h; have:=HF_sell.out ad e; omega)
   have r_solar:=HR_solar_9.out.other hgv (fun ad e h => by injection h with h; have:=HF_solar.out ad e; omega)
   have r_demand:=HR_demand_9.out.other hgv (fun ad e h => by injection h with h; have:=HF_demand.out ad e; omega)
   have r_outside:=HR_outside_9.out.other hgv (fun ad e h => by injection h with h; have:=HF_outside.out ad e; omega)
   have r_low:=HR_low_9.out.other hgv (fun ad e h => by injection h with h; have:=HF_low.out ad e; omega)
   have r_high:=HR_high_9.out.other hgv (fun ad e h => by injection h with h; have:=HF_high.out ad e; omega)
   have b_buy:∀ ad,Abuy=some ad→g < ad.block∧ad.block < bs:=fun ad e => ⟨HF_buy.out ad e,by rw [hbs]; exact r_buy.lt (HP_buy.out H1.out) ad e⟩
   have b_sell:∀ ad,Asell=some ad→g < ad.block∧ad.block < bs:=fun ad e => ⟨HF_sell.out ad e,by rw [hbs]; exact r_sell.lt (HP_sell.out H1.out) ad e⟩
   have b_solar:∀ ad,Asolar=some ad→g < ad.block∧ad.block < bs:=fun ad e => ⟨HF_solar.out ad e,by rw [hbs]; exact r_solar.lt (HP_solar.out H1.out) ad e⟩
   have b_demand:∀ ad,Ademand=some ad→g < ad.block∧ad.block < bs:=fun ad e => ⟨HF_demand.out ad e,by rw [hbs]; exact r_demand.lt (HP_demand.out H1.out) ad e⟩
   have b_outside:∀ ad,Aoutside=some ad→g < ad.block∧ad.block < bs:=fun ad e => ⟨HF_outside.out ad e,by rw [hbs]; exact r_outside.lt (HP_outside.out H1.out) ad e⟩
   have b_low:∀ ad,Alow=some ad→g < ad.block∧ad.block < bs:=fun ad e => ⟨HF_low.out ad e,by rw [hbs]; exact r_low.lt (HP_low.out H1.out) ad e⟩
   have b_high:∀ ad,Ahigh=some ad→g < ad.block∧ad.block < bs:=fun ad e => ⟨HF_high.out ad e,by rw [hbs]; exact r_high.lt (HP_high.out H1.out) ad e⟩
   have HJ:Hid (AJ x d w g bs m vL none 0 []):=by
    refine ⟨HX9.out.grown hgv (fun q e => by injection e with e; have:=HG3.out; omega),hkv,LS.nil _ _,?_,?_,HG3.out,by rw [hbs]; exact hlv,by rw [hbs]; exact Nat.le_refl _⟩
    ·rw [hm]; exact ⟨r_buy,r_sell,r_solar,r_demand,r_outside,r_low,r_high⟩
    ·rw [hm]; exact ⟨b_buy,b_sell,b_solar,b_demand,b_outside,b_low,b_high⟩
   have HMM:=Lib.hid hm
   clear hv hgv hkv hlv hbs hm z17 z18 z19 f17 f18 f19 HX9 HQ9 r_buy b_buy HR_buy_9 HT_buy HP_buy r_sell b_sell HR_sell_9 HT_sell HP_sell r_solar b_solar HR_solar_9 HT_solar HP_solar r_demand b_demand HR_demand_9 HT_demand HP_demand r_outside b_outside HR_outside_9 HT_outside HP_outside r_low b_low HR_low_9 HT_low HP_low r_high b_high HR_high_9 HT_high HP_high
   go_wp2_with fail
   go_loopw [11] (fun s11 wr => ∃ (k:Nat) (A:Option Addr) (c:Nat) (rows:List LdM),k ≤ x.loads.length∧s11 = .int .i64 k∧rows.length ≤ k∧Hid (AJ x d w g bs m wr A c rows)∧Hid (rows.map LdM.r=x.p.nexts d.d k)∧Hid (x.p.okTo d.d k=true)∧Hid (∀ y ∈ rows,y.r.name.size ≤ maxLen))
    (fun s11 _ => x.loads.length - (intOf s11).toNat)
   case atStart => exact ⟨0,none,0, [],by omega,rfl,Nat.le_refl _,HJ.out,rfl,rfl,(fun y hy => by cases hy)⟩
   case round =>
    clear HJ
    obtain ⟨k,A,c,rows,hk,rfl,hml,hJ,hEQ,hOK,hNA⟩:=hrel
    obtain ⟨wo,hwo⟩:∃ wo:World,wo=wr:=⟨_,rfl⟩
    subst hwo
    have c17:=hJ.out.ad.p.cell 17
    simp [PbM.cs] at c17
    by_cases hlt:k < x.loads.length
    ·obtain ⟨bL,oL,hAe,hbL,y0,y1,y2,y3⟩:=(hP.out.below hJ.out.ad.bel).loads.at' hlt
     have HPR:=Lib.hid ((hP.out.below hJ.out.ad.bel).loads.prof hlt)
     have hld:=HLK.out k hlt
     have hl0:=(Ld.good hld).p0
     have hl1:=(Ld.good hld).p1
     have hnm:=HNM.out _ (List.getElem_mem hlt)
     have hcp:=HCP.out _ (List.getElem_mem hlt)
     have hkd:k < d.l.length:=by have:=HDL.out; omega
     obtain ⟨bD,oD,hAD,hbD,z0w⟩:=hD.out.at' hkd
     have HBD:=Lib.hid hbD
     have z0:=cell_below z0w hJ.out.ad.bel
     clear hbD z0w
     have hn1:=Pb.nexts_succ x.p d.d k
     have hn3:=Pb.okTo_succ x.p d.d k
     have hn4:=fun (h:x.p.okTo d.d (k+1)=false) => Pb.okTo_le (m:=x.p.loads.length) h (by rw [HLN.out]; omega)
     rw [PbM.load_at hlt,show d.d.starts.getD k false=d.l[k] from bools_at hkd] at hn1 hn3
     rw [hOK.out,Bool.true_and] at hn3
     have d2:=hJ.out.ad.q.cell 2
     simp [DcM.cs] at d2
     have i1:(0:Int) ≤ (k:Int):=by omega
     have i2:(k:Int) < (x.loads.length:Int):=by omega
     have i3:(k:Int) < (d.l.length:Int):=by omega
     generalize x.loads[k]=X at *
     generalize d.l[k]=db at *
     rw [hAe] at c17
     rw [hAD] at d2
     have HN1:=Lib.hid hn1
     have HN3:=Lib.hid hn3
     have HN4:=Lib.hid hn4
     have HL0:=Lib.hid hl0
     have HL1:=Lib.hid hl1
     have HNX:=Lib.hid hnm
     have HCX:=Lib.hid hcp
     clear hAe hAD hn1 hn3 hn4 hld hl0 hl1 hnm hcp hbL
     go_upto_region 21 with fail
     obtain ⟨wi,hwi⟩:∃ W,W=wo.alloc (.cells #[.string X.r.name,.slice X.A X.r.prof.length X.c,.int .i64 X.r.early,.int .i64 X.r.late] 54):=⟨_,rfl⟩
     obtain ⟨tL,htL⟩:∃ n,n=wo.heap.size:=⟨_,rfl⟩
     rw [← hwi, ← htL]
     have hbi:Below wo.heap.size wo wi:=by rw [hwi]; exact below_al (Below.refl _ _)
     have hJi:=Lib.hid (hJ.out.below hbi)
     have HPi:=Lib.hid (HPR.out.below hbi)
     have z0:wi.cell? ⟨bD,oD+k,none⟩=some (.bool db):=cell_below z0 hbi
     have d2:=cell_below d2 hbi
     have HKB:Hid (Blk wi tL 54 #[.string X.r.name,.slice X.A X.r.prof.length X.c,.int .i64 X.r.early,.int .i64 X.r.late]):=by show Blk _ _ _ _; rw [hwi,htL]; exact Blk.new _ _ _
     have HNV:Hid (∀ q,(Value.slice A rows.length c).ownBlock=some q→q < tL):=fun q e => by rw [htL]; exact (hJ.out.ls.own.lt q e).2
     have HGT:Hid (g < tL):=by show g < tL; rw [htL]; exact hJ.out.blk.lt
     clear y0 y1 y2 y3 hwi htL hbi hJ HPR c17
     cases db
     ·go_upto_region 22 with fail
      have hsx:=HSH.out X.r X.A X.c wi HPi.out HNX.out (by have:=HL1.out; omega)
      have hnx:X.r.next false=X.r.shift 1:=by unfold Ld.next; rw [if_neg (by decide)]
      have hox:X.r.okNext false=X.r.canShift 1:=by unfold Ld.okNext; rw [Bool.false_or]
      have hhx:X.r.hasNext false=true:=rfl
      have hnmx:X.r.canShift 1=true→(X.r.shift 1).name=X.r.name∧(X.r.shift 1).prof=X.r.prof:=fun h => by rw [Ld.shift_yes h]; exact ⟨rfl,rfl⟩
      have y0:=HKB.out.cell 0
      have y1:=HKB.out.cell 1
      have y2:=HKB.out.cell 2
      have y3:=HKB.out.cell 3
      simp at y0 y1 y2 y3
      have HN1b:Hid (x.p.nexts d.d (k+1)=x.p.nexts d.d k ++ [X.r.shift 1]):=by show _=_; rw [HN1.out,if_pos hhx,hnx]
      have HN3b:Hid (x.p.okTo d.d (k+1)=X.r.canShift 1):=by show _=_; rw [HN3.out,hox]
      generalize hmm:X.r.shift 1=n at *
      generalize hob:X.r.canShift 1=ob at *
      have HSX:=Lib.hid hsx
      have HNMX:=Lib.hid hnmx
      clear hsx hnx hox hhx hnmx hmm hob HN1 HN3
      go_wp2_with fail
      refine HSX.out.mono ?_
      rintro e w3 ⟨A3,c3,rfl,hr3,hc3,hf3,hb3⟩
      have HJ3:=Lib.hid (hJi.out.below hb3)
      have HR3:=Lib.hid hr3
      have HAP:=Lib.hid (fun B2 h => hJi.out.fresh hf3 (B2:=B2) h)
      have HC3:=Lib.hid hc3
      have z0:=cell_below z0 hb3
      have d2:=cell_below d2 hb3
      clear y0 y1 y2 y3 hb3 hr3 hc3 hf3 hJi HSX HPi HKB
      go_upto_region 23 with fail
      obtain ⟨w4,hw4⟩:∃ W,W=w3.alloc (.cells #[.string n.name,.slice A3 n.prof.length c3,.int .i64 n.early,.int .i64 n.late] 54):=⟨_,rfl⟩
      obtain ⟨tM,htM⟩:∃ n,n=w3.heap.size:=⟨_,rfl⟩
      rw [← hw4, ← htM]
      have hb4:Below w3.heap.size w3 w4:=by rw [hw4]; exact below_al (Below.refl _ _)
      have HK4:Hid (Blk w4 tM 54 #[.string n.name,.slice A3 n.prof.length c3,.int .i64 n.early,.int .i64 n.late]):=by show Blk _ _ _ _; rw [hw4,htM]; exact Blk.new _ _ _
      have HJ4:=Lib.hid (HJ3.out.below hb4)
      have HR4:=Lib.hid (HR3.out.below hb4)
      have hs34:=hb4.size
      have HLT:Hid (n.prof ≠ []→∀ ad,A3=some ad→ad.block < w4.heap.size):=fun h ad e => Nat.lt_of_lt_of_le (HR3.out.lt h ad e) hs34
      have z0:=cell_below z0 hb4
      have d2:=cell_below d2 hb4
      clear hw4 htM hb4 HJ3 HR3 hs34
      cases ob
      ·have HNO:Hid (x.p.okTo d.d x.p.loads.length=false):=HN4.out HN3b.out
       have HE2:Hid (x.p.advE d.d=20):=by show _=_; rw [HAE2.out,if_pos HNO.out]
       clear z0 d2
       go_wp2_with (refine wpList_store_blk rfl 31 _ _ rfl (w.heap.size+2) rfl PbM.nil.cs rfl (by kernel_rfl) (PbM.cs_oneC _) HJ4.out.ad.r rfl ?_)
       intro w5 hB5 hg5
       have hb5:Below w.heap.size w w5:=HJ4.out.ad.bel.grown hg5 HJ4.out.ad.bel.size (fun k e => by injection e with e; omega)
       have HB5:=Lib.hid hB5
       have HBE:=Lib.hid hb5
       clear hB5 hg5 hb5
       go_wp2_with fail
       refine radv_ret (cs:=PbM.nil.cs) rfl HB5.out rfl rfl (.inr ⟨by rw [HE2.out]; decide,by rw [HE2.out]; rfl,HBE.out⟩)
      ·obtain ⟨hm1,hm2⟩:=HNMX.out rfl
       have hpne:n.prof ≠ []:=by rw [hm2]; intro h; have:=HL0.out; rw [h] at this; simp at this
       have HMN:Hid (n.name.size ≤ maxLen):=by show _ ≤ _; rw [hm1]; exact HNX.out
       have HFRX:=Lib.hid (HAP.out _ (HLT.out hpne))
       obtain ⟨iL,hiL,hzL,hsL,hbL⟩:=info_parts Tryz.infoLoadR
       have n0:=HK4.out.cell 0
       have n1:=HK4.out.cell 1
       have n2:=HK4.out.cell 2
       have n3:=HK4.out.cell 3
       simp at n0 n1 n2 n3
       have g17:=HJ4.out.c17
       clear HAP HLT hpne hm1 hm2 HNMX HN4
       go_wp2_with (at_builtin; refine wpList_append_newGH _ w4 w4.heap.size rfl rfl _ _ 29 rfl bs 54 iL (.agg #[.string ⟨#[]⟩,.slice none 0 0,.int .i64 0,.int .i64 0]) 4 56 Tryz.underlying29 hiL hzL hsL hbL rfl (by decide) (by decide) _ rows.length (ldCells rows) rfl HJ4.out.ls.own #[.string n.name,.slice A3 n.prof.length c3,.int .i64 n.early,.int .i64 n.late] rfl (by intro u hu; simp at hu; rcases hu with rfl | rfl | rfl | rfl <;> rfl) rfl rfl (by omega) HJ4.out.sz ?_)
       intro v5 w5 hown5 hg5 hv5
       obtain ⟨A5,c5,rfl⟩:=own_form hown5
       have HK5:=Lib.hid (HJ4.out.push (y:=⟨n,A3,c3⟩) HR4.out HC3.out HFRX.out hown5 hg5 (hv5.imp id (fun h => ⟨_,h,by omega⟩)))
       have hlt4:tM < w4.heap.size:=HK4.out.lt
       have hnr:∀ q,(Value.slice A rows.length c).ownBlock=some q→bs ≤ q∧q < w4.heap.size:=fun q e => HJ4.out.ls.own.lt q e
       have z0:=cell_grown hg5 z0 (fun e => by have h1:=(hnr _ e.symm).1; have h2:=HG3.out; have h3:=HK5.out.lb; have h4:=HBD.out; simp at h1; omega)
       have d2:=cell_grown hg5 d2 (fun e => by have h1:=(hnr _ e.symm).1; have h2:=HG3.out; have h3:=HK5.out.lb; simp at h1; omega)
       have q17:=HK5.out.c17
       have f17:=HK5.out.blk.frozen 17
       clear hown5 hg5 hv5 n0 n1 n2 n3 HJ4 HR4 HK4 HFRX g17 hlt4 hnr
       go_upto_region 26 with fail
       obtain ⟨w6,hw6⟩:∃ W,W=w5.setCell ⟨g,17,none⟩ (.slice A5 (rows.length+1) c5):=⟨_,rfl⟩
       rw [← hw6]
       have HJ6:=HK5.out.set
       rw [← hw6] at HJ6
       have HJ6:=Lib.hid HJ6
       have hg6:w5.grownBy w6 (some g):=by rw [hw6]; exact only_setCell (p:=⟨g,17,none⟩) (grown_id _ _) (.inl rfl) _
       have z0:=cell_grown hg6 z0 (by intro e; have e:=Option.some.inj e; have h2:=HG3.out; have h4:=HBD.out; simp at e; omega)
       have d2:=cell_grown hg6 d2 (by intro e; have e:=Option.some.inj e; have h2:=HG3.out; simp at e; omega)
       clear hw6 hg6 q17 f17 HK5
       go_wp2_with fail
       go_roundw
       case rel => exact ⟨k+1,A5,c5,rows ++ [(⟨n,A3,c3⟩:LdM)],by omega,by go_num,by rw [List.length_append]; exact Nat.succ_le_succ hml,HJ6.out,(by show _=_; rw [List.map_append,hEQ.out,HN1b.out]; rfl),HN3b.out,all_push (x:=⟨n,A3,c3⟩) hNA.out HMN.out⟩
       case measure => simp [intOf]; omega
     ·have hox:X.r.okNext true=true:=rfl
      have HN3b:Hid (x.p.okTo d.d (k+1)=true):=by show _=_; rw [HN3.out,hox]
      have y1:=HKB.out.cell 1
      simp at y1
      clear hox HN3 HN4 HSH
      by_cases hp1:1 < X.r.prof.length
      ·have hhx:X.r.hasNext true=true:=by simp [Ld.hasNext,hp1]
       have hnx:X.r.next true=⟨X.r.name,X.r.prof.drop 1,0,(X.r.prof.length:Int) - 1⟩:=by unfold Ld.next; rw [if_pos rfl]
       have hdl:0 < (X.r.prof.drop 1).length:=by rw [List.length_drop]; omega
       have hl1:=HL1.out
       have HN1b:Hid (x.p.nexts d.d (k+1)=x.p.nexts d.d k ++ [⟨X.r.name,X.r.prof.drop 1,0,(X.r.prof.length:Int) - 1⟩]):=by show _=_; rw [HN1.out,if_pos hhx,hnx]
       have hrx:=fun W (q:RInts W X.A X.r.prof) => HRS.out X.A X.c X.r.prof W q (by omega) HCX.out (by omega)
       have q0:(1:Int) < (X.r.prof.length:Int):=by omega
       have a0:IntKind.i64.wrap ((X.r.prof.length:Int) - 1)=(X.r.prof.length:Int) - 1:=IntWalk.i64_in _ (by omega)
       generalize X.r.prof.drop 1=pr at *
       have HRX:=Lib.hid hrx
       have HPRN:=Lib.hid hdl
       clear hhx hnx hrx HN1 HRS hdl hl1
       go_upto_region 27 with fail
       clear q0 z0 d2 y1
       have y0:=HKB.out.cell 0
       have y1:=HKB.out.cell 1
       simp at y0 y1
       obtain ⟨iL,hiL,hz0L,hz1L,hz2L⟩:=info_parts Tryz.infoLoadR
       have HBASE:Hid (w.heap.size ≤ bs):=by show _ ≤ _; have:=hJi.out.lt; have:=hJi.out.lb; omega
       refine wp_region_held_drew (S:=(fun w' => w'.cell? ⟨tL,0,none⟩=some (.string X.r.name)∧w'.cell? ⟨tL,1,none⟩=some (.slice X.A X.r.prof.length X.c))) (by kernel_rfl) (⟨y0,y1⟩) (fun hHeld => ?_)
       refine tk 0 ?_
       try simp only [jA,jB,Act.put,jD,jE,jF]
       refine tk 2 ?_
       try simp only [jA,jB,jC,Act.put,jD,jE,jF]
       refine tk 3 ?_
       try simp only [jA,jB,jC,Act.put,jD,jE,jF]
       refine tk 4 ?_
       try simp only [jA,jB,jC,Act.put,jD,jE,jF]
       refine tk 5 ?_
       try simp only [jA,jB,jC,Act.put,jD,jE,jF]
       refine tk 7 ?_
       try simp only [jA,jB,jC,Act.put,jD,jE,jF]
       refine tk 8 ?_
       try simp only [jA,jB,jC,Act.put,jD,jE,jF]
       refine tk 9 ?_
       try simp only [jA,jB,jC,Act.put,jD,jE,jF]
       refine tk 10 ?_
       try simp only [jA,jB,jC,Act.put,jD,jE,jF]
       refine wpAnyH_ready (rs := [1,6]) (by kernel_rfl) (by simp) ?_
       refine (AllReadyH.cons rfl (fun K hK => ?_) (AllReadyH.cons rfl (fun K hK => ?_) AllReadyH.nil))
       ·have zq17:=(hJi.out.below (Below.drew (Below.refl _ _))).c17
        have HKK:=Lib.hid hK
        clear hK
        go_simp
        refine HKK.out _ _ (⟨y0,y1⟩) (fun hH2 => ?_)
        clear HKK K
        replace hHeld:=hH2
        clear hH2
        try simp only [jA,jB,jC,Act.put,jD,jE,jF]
        clear zq17
        refine wpAnyH_ready (rs := [6]) (by kernel_rfl) (by simp) ?_
        refine (AllReadyH.cons rfl (fun K hK => ?_) AllReadyH.nil)
        have HKK:=Lib.hid hK
        clear hK
        go_simp
        refine (HRX.out _ (HPi.out.below (Below.drew (Below.refl _ _)))).mono ?_
        rintro e' yw1 ⟨A5,c5,rfl,hr1,hc1,hf1,hb1⟩
        have hq1:Below wi.heap.size wi yw1:=below_tr (Below.drew (Below.refl wi.heap.size wi)) hb1
        have HB_yw1:=Lib.hid ((hJi.out.ad.bel).trans (hq1.mono (Below.size (hJi.out.ad.bel))))
        have HS_yw1:Hid (wi.heap.size ≤ yw1.heap.size):=Nat.le_trans ((Nat.le_refl wi.heap.size)) hq1.size
        have aj_yw1:=Lib.hid (hJi.out.below hq1)
        have HNR_yw1:=Lib.hid hr1
        have HC5:=Lib.hid hc1
        have HF5:Hid (∀ ad,A5=some ad→wi.heap.size ≤ ad.block):=hf1
        clear hr1 hc1 hf1
        clear hb1
        go_wp2_with fail
        refine HKK.out _ _ (⟨(cell_below y0 hq1),(cell_below y1 hq1)⟩) (fun hH2 => ?_)
        clear HKK K
        replace hHeld:=hH2
        clear hH2
        try simp only [jA,jB,jC,Act.put,jD,jE,jF]
        refine tk 11 ?_
        try simp only [jA,jB,jC,Act.put,jD,jE,jF]
        refine wpAnyH_ready (rs := [12]) (by kernel_rfl) (by simp) ?_
        refine (AllReadyH.cons rfl (fun K hK => ?_) AllReadyH.nil)
        have HKK:=Lib.hid hK
        clear hK
        go_simp
        obtain ⟨yw2,hWn⟩:∃ v,v=yw1.alloc (.cells #[.string X.r.name,.slice A5 pr.length c5,.int .i64 0,.int .i64 ((X.r.prof.length:Int) - 1)] 54):=⟨_,rfl⟩
        obtain ⟨bb,hg⟩:∃ n,n=yw1.heap.size:=⟨_,rfl⟩
        rw [← hWn, ← hg]
        have hb2:Below yw1.heap.size yw1 yw2:=by rw [hWn]; exact (below_al (Below.refl _ _):Below _ _ (yw1.alloc (.cells #[.string X.r.name,.slice A5 pr.length c5,.int .i64 0,.int .i64 ((X.r.prof.length:Int) - 1)] 54)))
        have hq2:Below yw1.heap.size yw1 yw2:=hb2
        have lt_yw2:Hid (RLd yw2 (some ⟨bb,0,none⟩) [⟨⟨X.r.name,pr,0,(X.r.prof.length:Int) - 1⟩,A5,c5⟩]):=by show RLd _ _ _; rw [hWn,hg]; exact rld_lit yw1 #[.string X.r.name,.slice A5 pr.length c5,.int .i64 0,.int .i64 ((X.r.prof.length:Int) - 1)] 54 (l := [⟨⟨X.r.name,pr,0,(X.r.prof.length:Int) - 1⟩,A5,c5⟩]) rfl
        have HHbb:Hid (bb=yw1.heap.size):=by show _=_; exact hg
        have HGbb:Hid (wi.heap.size ≤ bb):=by show _ ≤ _; rw [hg]; exact HS_yw1.out
        have HB_yw2:=Lib.hid ((HB_yw1.out).trans (hq2.mono (Below.size (HB_yw1.out))))
        have HS_yw2:Hid (wi.heap.size ≤ yw2.heap.size):=Nat.le_trans (HS_yw1.out) hq2.size
        have aj_yw2:=Lib.hid (aj_yw1.out.below hq2)
        have nr_yw2:=Lib.hid (HNR_yw1.out.below hq2)
        clear hWn hg hb2
        refine HKK.out _ _ (⟨(cell_below (cell_below y0 hq1) hq2),(cell_below (cell_below y1 hq1) hq2)⟩) (fun hH2 => ?_)
        clear HKK K
        replace hHeld:=hH2
        clear hH2
        try simp only [jA,jB,jC,Act.put,jD,jE,jF]
        refine wpAnyH_ready (rs := [13]) (by kernel_rfl) (by simp) ?_
        refine (AllReadyH.cons rfl (fun K hK => ?_) AllReadyH.nil)
        have HKK:=Lib.hid hK
        clear hK
        have how3:=aj_yw2.out.ls.own
        refine step_append_any _ (by rfl) _ _ _ (by rfl) (bs) 54 iL (.agg #[.string ⟨#[]⟩,.slice none 0 0,.int .i64 0,.int .i64 0]) 4 56 Tryz.underlying29 hiL hz0L hz1L hz2L rfl (by decide) _ rows.length (ldCells rows) (by rfl) how3 yw2.heap.size (some ⟨bb,0,none⟩) 1 1 [.string X.r.name,.slice A5 pr.length c5,.int .i64 0,.int .i64 ((X.r.prof.length:Int) - 1)] (by rfl) (show Reads _ _ 4 _ 1 _ from lt_yw2.out) (by intro u hu; simp at hu; rcases hu with rfl | rfl | rfl | rfl <;> rfl) (by unfold maxLen; omega) (by omega) (aj_yw2.out.sz) ?_
        intro v3 yw3 hob3 hgb3 hvb3
        obtain ⟨A3,c3,rfl⟩:=own_form hob3
        have HB_yw3:=Lib.hid ((HB_yw2.out).grown hgb3 (Below.size (HB_yw2.out)) (fun q hq => by have h1:=(how3.lt q hq).1; have h2:=HBASE.out; omega))
        have HS_yw3:Hid (wi.heap.size ≤ yw3.heap.size):=Nat.le_trans (HS_yw2.out) hgb3.size
        have ak_yw3:=Lib.hid (aj_yw2.out.push (y:=⟨⟨X.r.name,pr,0,(X.r.prof.length:Int) - 1⟩,A5,c5⟩) nr_yw2.out HC5.out (hJi.out.fresh HF5.out (fun ad e => nr_yw2.out.lt (by intro h; have h1:=HPRN.out; rw [show pr = [] from h] at h1; simp at h1) ad e)) hob3 hgb3 (hvb3.imp id (fun h => ⟨_,h,Nat.le_refl _⟩)))
        have k3_0:=(cell_grown hgb3 (cell_below (cell_below y0 hq1) hq2) (by intro e; have h1:=HNV.out _ e.symm; simp at h1))
        have k3_1:=(cell_grown hgb3 (cell_below (cell_below y1 hq1) hq2) (by intro e; have h1:=HNV.out _ e.symm; simp at h1))
        refine HKK.out _ _ (⟨k3_0,k3_1⟩) (fun hH2 => ?_)
        clear HKK K
        replace hHeld:=hH2
        clear hH2
        try simp only [jA,jB,jC,Act.put,jD,jE,jF]
        refine tk 14 ?_
        try simp only [jA,jB,jC,Act.put,jD,jE,jF]
        refine wpAnyH_ready (rs := [15]) (by kernel_rfl) (by simp) ?_
        refine (AllReadyH.cons rfl (fun K hK => ?_) AllReadyH.nil)
        have zs:=ak_yw3.out.c17
        have fs:=ak_yw3.out.blk.frozen 17
        have HKK:=Lib.hid hK
        clear hK
        go_simp
        obtain ⟨yw4,hv⟩:∃ v,v=yw3.setCell ⟨g,17,none⟩ (.slice A3 (rows.length+1) c3):=⟨_,rfl⟩
        rw [← hv]
        have aj_yw4:=ak_yw3.out.set
        rw [← hv] at aj_yw4
        have HAJ_yw4:=Lib.hid aj_yw4
        have hgv:yw3.grownBy yw4 (some g):=by rw [hv]; exact only_setCell (p:=⟨g,17,none⟩) (grown_id _ _) (.inl rfl) _
        clear hv zs fs aj_yw4
        refine HKK.out _ _ (⟨(cell_grown hgv k3_0 (by intro e; have e:=Option.some.inj e; have h1:=HGT.out; simp at e; omega)),(cell_grown hgv k3_1 (by intro e; have e:=Option.some.inj e; have h1:=HGT.out; simp at e; omega))⟩) (fun hH2 => ?_)
        clear HKK K
        replace hHeld:=hH2
        clear hH2
        try simp only [jA,jB,jC,Act.put,jD,jE,jF]
        refine wpAnyH_done (by kernel_rfl) ?_ _
        clear hHeld
        go_wp2_with fail
        go_roundw
        case rel => exact ⟨k+1,A3,c3,rows ++ [(⟨⟨X.r.name,pr,0,(X.r.prof.length:Int) - 1⟩,A5,c5⟩:LdM)],by omega,by go_num,by rw [List.length_append]; exact Nat.succ_le_succ hml,HAJ_yw4.out,(by show _=_; rw [List.map_append,hEQ.out,HN1b.out]; rfl),HN3b.out,all_push (x:=⟨⟨X.r.name,pr,0,(X.r.prof.length:Int) - 1⟩,A5,c5⟩) hNA.out HNX.out⟩
        case measure => simp [intOf]; omega
       ·have HKK:=Lib.hid hK
        clear hK
        go_simp
        refine (HRX.out _ (HPi.out.below (Below.drew (Below.refl _ _)))).mono ?_
        rintro e' yw5 ⟨A5,c5,rfl,hr5,hc5,hf5,hb5⟩
        have hq5:Below wi.heap.size wi yw5:=below_tr (Below.drew (Below.refl wi.heap.size wi)) hb5
        have HB_yw5:=Lib.hid ((hJi.out.ad.bel).trans (hq5.mono (Below.size (hJi.out.ad.bel))))
        have HS_yw5:Hid (wi.heap.size ≤ yw5.heap.size):=Nat.le_trans ((Nat.le_refl wi.heap.size)) hq5.size
        have aj_yw5:=Lib.hid (hJi.out.below hq5)
        have HNR_yw5:=Lib.hid hr5
        have HC5:=Lib.hid hc5
        have HF5:Hid (∀ ad,A5=some ad→wi.heap.size ≤ ad.block):=hf5
        clear hr5 hc5 hf5
        clear hb5
        go_wp2_with fail
        refine HKK.out _ _ (⟨(cell_below y0 hq5),(cell_below y1 hq5)⟩) (fun hH2 => ?_)
        clear HKK K
        replace hHeld:=hH2
        clear hH2
        try simp only [jA,jB,jC,Act.put,jD,jE,jF]
        refine tk 11 ?_
        try simp only [jA,jB,jC,Act.put,jD,jE,jF]
        refine wpAnyH_ready (rs := [1,12]) (by kernel_rfl) (by simp) ?_
        refine (AllReadyH.cons rfl (fun K hK => ?_) (AllReadyH.cons rfl (fun K hK => ?_) AllReadyH.nil))
        ·have zq17:=aj_yw5.out.c17
         have HKK:=Lib.hid hK
         clear hK
         go_simp
         refine HKK.out _ _ (⟨(cell_below y0 hq5),(cell_below y1 hq5)⟩) (fun hH2 => ?_)
         clear HKK K
         replace hHeld:=hH2
         clear hH2
         try simp only [jA,jB,jC,Act.put,jD,jE,jF]
         clear zq17
         refine wpAnyH_ready (rs := [12]) (by kernel_rfl) (by simp) ?_
         refine (AllReadyH.cons rfl (fun K hK => ?_) AllReadyH.nil)
         have HKK:=Lib.hid hK
         clear hK
         go_simp
         obtain ⟨yw6,hWn⟩:∃ v,v=yw5.alloc (.cells #[.string X.r.name,.slice A5 pr.length c5,.int .i64 0,.int .i64 ((X.r.prof.length:Int) - 1)] 54):=⟨_,rfl⟩
         obtain ⟨bb,hg⟩:∃ n,n=yw5.heap.size:=⟨_,rfl⟩
         rw [← hWn, ← hg]
         have hb6:Below yw5.heap.size yw5 yw6:=by rw [hWn]; exact (below_al (Below.refl _ _):Below _ _ (yw5.alloc (.cells #[.string X.r.name,.slice A5 pr.length c5,.int .i64 0,.int .i64 ((X.r.prof.length:Int) - 1)] 54)))
         have hq6:Below yw5.heap.size yw5 yw6:=hb6
         have lt_yw6:Hid (RLd yw6 (some ⟨bb,0,none⟩) [⟨⟨X.r.name,pr,0,(X.r.prof.length:Int) - 1⟩,A5,c5⟩]):=by show RLd _ _ _; rw [hWn,hg]; exact rld_lit yw5 #[.string X.r.name,.slice A5 pr.length c5,.int .i64 0,.int .i64 ((X.r.prof.length:Int) - 1)] 54 (l := [⟨⟨X.r.name,pr,0,(X.r.prof.length:Int) - 1⟩,A5,c5⟩]) rfl
         have HHbb:Hid (bb=yw5.heap.size):=by show _=_; exact hg
         have HGbb:Hid (wi.heap.size ≤ bb):=by show _ ≤ _; rw [hg]; exact HS_yw5.out
         have HB_yw6:=Lib.hid ((HB_yw5.out).trans (hq6.mono (Below.size (HB_yw5.out))))
         have HS_yw6:Hid (wi.heap.size ≤ yw6.heap.size):=Nat.le_trans (HS_yw5.out) hq6.size
         have aj_yw6:=Lib.hid (aj_yw5.out.below hq6)
         have nr_yw6:=Lib.hid (HNR_yw5.out.below hq6)
         clear hWn hg hb6
         refine HKK.out _ _ (⟨(cell_below (cell_below y0 hq5) hq6),(cell_below (cell_below y1 hq5) hq6)⟩) (fun hH2 => ?_)
         clear HKK K
         replace hHeld:=hH2
         clear hH2
         try simp only [jA,jB,jC,Act.put,jD,jE,jF]
         refine wpAnyH_ready (rs := [13]) (by kernel_rfl) (by simp) ?_
         refine (AllReadyH.cons rfl (fun K hK => ?_) AllReadyH.nil)
         have HKK:=Lib.hid hK
         clear hK
         have how7:=aj_yw6.out.ls.own
         refine step_append_any _ (by rfl) _ _ _ (by rfl) (bs) 54 iL (.agg #[.string ⟨#[]⟩,.slice none 0 0,.int .i64 0,.int .i64 0]) 4 56 Tryz.underlying29 hiL hz0L hz1L hz2L rfl (by decide) _ rows.length (ldCells rows) (by rfl) how7 yw6.heap.size (some ⟨bb,0,none⟩) 1 1 [.string X.r.name,.slice A5 pr.length c5,.int .i64 0,.int .i64 ((X.r.prof.length:Int) - 1)] (by rfl) (show Reads _ _ 4 _ 1 _ from lt_yw6.out) (by intro u hu; simp at hu; rcases hu with rfl | rfl | rfl | rfl <;> rfl) (by unfold maxLen; omega) (by omega) (aj_yw6.out.sz) ?_
         intro v7 yw7 hob7 hgb7 hvb7
         obtain ⟨A7,c7,rfl⟩:=own_form hob7
         have HB_yw7:=Lib.hid ((HB_yw6.out).grown hgb7 (Below.size (HB_yw6.out)) (fun q hq => by have h1:=(how7.lt q hq).1; have h2:=HBASE.out; omega))
         have HS_yw7:Hid (wi.heap.size ≤ yw7.heap.size):=Nat.le_trans (HS_yw6.out) hgb7.size
         have ak_yw7:=Lib.hid (aj_yw6.out.push (y:=⟨⟨X.r.name,pr,0,(X.r.prof.length:Int) - 1⟩,A5,c5⟩) nr_yw6.out HC5.out (hJi.out.fresh HF5.out (fun ad e => nr_yw6.out.lt (by intro h; have h1:=HPRN.out; rw [show pr = [] from h] at h1; simp at h1) ad e)) hob7 hgb7 (hvb7.imp id (fun h => ⟨_,h,Nat.le_refl _⟩)))
         have k7_0:=(cell_grown hgb7 (cell_below (cell_below y0 hq5) hq6) (by intro e; have h1:=HNV.out _ e.symm; simp at h1))
         have k7_1:=(cell_grown hgb7 (cell_below (cell_below y1 hq5) hq6) (by intro e; have h1:=HNV.out _ e.symm; simp at h1))
         refine HKK.out _ _ (⟨k7_0,k7_1⟩) (fun hH2 => ?_)
         clear HKK K
         replace hHeld:=hH2
         clear hH2
         try simp only [jA,jB,jC,Act.put,jD,jE,jF]
         refine tk 14 ?_
         try simp only [jA,jB,jC,Act.put,jD,jE,jF]
         refine wpAnyH_ready (rs := [15]) (by kernel_rfl) (by simp) ?_
         refine (AllReadyH.cons rfl (fun K hK => ?_) AllReadyH.nil)
         have zs:=ak_yw7.out.c17
         have fs:=ak_yw7.out.blk.frozen 17
         have HKK:=Lib.hid hK
         clear hK
         go_simp
         obtain ⟨yw8,hv⟩:∃ v,v=yw7.setCell ⟨g,17,none⟩ (.slice A7 (rows.length+1) c7):=⟨_,rfl⟩
         rw [← hv]
         have aj_yw8:=ak_yw7.out.set
         rw [← hv] at aj_yw8
         have HAJ_yw8:=Lib.hid aj_yw8
         have hgv:yw7.grownBy yw8 (some g):=by rw [hv]; exact only_setCell (p:=⟨g,17,none⟩) (grown_id _ _) (.inl rfl) _
         clear hv zs fs aj_yw8
         refine HKK.out _ _ (⟨(cell_grown hgv k7_0 (by intro e; have e:=Option.some.inj e; have h1:=HGT.out; simp at e; omega)),(cell_grown hgv k7_1 (by intro e; have e:=Option.some.inj e; have h1:=HGT.out; simp at e; omega))⟩) (fun hH2 => ?_)
         clear HKK K
         replace hHeld:=hH2
         clear hH2
         try simp only [jA,jB,jC,Act.put,jD,jE,jF]
         refine wpAnyH_done (by kernel_rfl) ?_ _
         clear hHeld
         go_wp2_with fail
         go_roundw
         case rel => exact ⟨k+1,A7,c7,rows ++ [(⟨⟨X.r.name,pr,0,(X.r.prof.length:Int) - 1⟩,A5,c5⟩:LdM)],by omega,by go_num,by rw [List.length_append]; exact Nat.succ_le_succ hml,HAJ_yw8.out,(by show _=_; rw [List.map_append,hEQ.out,HN1b.out]; rfl),HN3b.out,all_push (x:=⟨⟨X.r.name,pr,0,(X.r.prof.length:Int) - 1⟩,A5,c5⟩) hNA.out HNX.out⟩
         case measure => simp [intOf]; omega
        ·have HKK:=Lib.hid hK
         clear hK
         go_simp
         obtain ⟨yw9,hWn⟩:∃ v,v=yw5.alloc (.cells #[.string X.r.name,.slice A5 pr.length c5,.int .i64 0,.int .i64 ((X.r.prof.length:Int) - 1)] 54):=⟨_,rfl⟩
         obtain ⟨bb,hg⟩:∃ n,n=yw5.heap.size:=⟨_,rfl⟩
         rw [← hWn, ← hg]
         have hb9:Below yw5.heap.size yw5 yw9:=by rw [hWn]; exact (below_al (Below.refl _ _):Below _ _ (yw5.alloc (.cells #[.string X.r.name,.slice A5 pr.length c5,.int .i64 0,.int .i64 ((X.r.prof.length:Int) - 1)] 54)))
         have hq9:Below yw5.heap.size yw5 yw9:=hb9
         have lt_yw9:Hid (RLd yw9 (some ⟨bb,0,none⟩) [⟨⟨X.r.name,pr,0,(X.r.prof.length:Int) - 1⟩,A5,c5⟩]):=by show RLd _ _ _; rw [hWn,hg]; exact rld_lit yw5 #[.string X.r.name,.slice A5 pr.length c5,.int .i64 0,.int .i64 ((X.r.prof.length:Int) - 1)] 54 (l := [⟨⟨X.r.name,pr,0,(X.r.prof.length:Int) - 1⟩,A5,c5⟩]) rfl
         have HHbb:Hid (bb=yw5.heap.size):=by show _=_; exact hg
         have HGbb:Hid (wi.heap.size ≤ bb):=by show _ ≤ _; rw [hg]; exact HS_yw5.out
         have HB_yw9:=Lib.hid ((HB_yw5.out).trans (hq9.mono (Below.size (HB_yw5.out))))
         have HS_yw9:Hid (wi.heap.size ≤ yw9.heap.size):=Nat.le_trans (HS_yw5.out) hq9.size
         have aj_yw9:=Lib.hid (aj_yw5.out.below hq9)
         have nr_yw9:=Lib.hid (HNR_yw5.out.below hq9)
         clear hWn hg hb9
         refine HKK.out _ _ (⟨(cell_below (cell_below y0 hq5) hq9),(cell_below (cell_below y1 hq5) hq9)⟩) (fun hH2 => ?_)
         clear HKK K
         replace hHeld:=hH2
         clear hH2
         try simp only [jA,jB,jC,Act.put,jD,jE,jF]
         refine wpAnyH_ready (rs := [1]) (by kernel_rfl) (by simp) ?_
         refine (AllReadyH.cons rfl (fun K hK => ?_) AllReadyH.nil)
         have zq17:=aj_yw9.out.c17
         have HKK:=Lib.hid hK
         clear hK
         go_simp
         refine HKK.out _ _ (⟨(cell_below (cell_below y0 hq5) hq9),(cell_below (cell_below y1 hq5) hq9)⟩) (fun hH2 => ?_)
         clear HKK K
         replace hHeld:=hH2
         clear hH2
         try simp only [jA,jB,jC,Act.put,jD,jE,jF]
         clear zq17
         refine wpAnyH_ready (rs := [13]) (by kernel_rfl) (by simp) ?_
         refine (AllReadyH.cons rfl (fun K hK => ?_) AllReadyH.nil)
         have HKK:=Lib.hid hK
         clear hK
         have how10:=aj_yw9.out.ls.own
         refine step_append_any _ (by rfl) _ _ _ (by rfl) (bs) 54 iL (.agg #[.string ⟨#[]⟩,.slice none 0 0,.int .i64 0,.int .i64 0]) 4 56 Tryz.underlying29 hiL hz0L hz1L hz2L rfl (by decide) _ rows.length (ldCells rows) (by rfl) how10 yw9.heap.size (some ⟨bb,0,none⟩) 1 1 [.string X.r.name,.slice A5 pr.length c5,.int .i64 0,.int .i64 ((X.r.prof.length:Int) - 1)] (by rfl) (show Reads _ _ 4 _ 1 _ from lt_yw9.out) (by intro u hu; simp at hu; rcases hu with rfl | rfl | rfl | rfl <;> rfl) (by unfold maxLen; omega) (by omega) (aj_yw9.out.sz) ?_
         intro v10 yw10 hob10 hgb10 hvb10
         obtain ⟨A10,c10,rfl⟩:=own_form hob10
         have HB_yw10:=Lib.hid ((HB_yw9.out).grown hgb10 (Below.size (HB_yw9.out)) (fun q hq => by have h1:=(how10.lt q hq).1; have h2:=HBASE.out; omega))
         have HS_yw10:Hid (wi.heap.size ≤ yw10.heap.size):=Nat.le_trans (HS_yw9.out) hgb10.size
         have ak_yw10:=Lib.hid (aj_yw9.out.push (y:=⟨⟨X.r.name,pr,0,(X.r.prof.length:Int) - 1⟩,A5,c5⟩) nr_yw9.out HC5.out (hJi.out.fresh HF5.out (fun ad e => nr_yw9.out.lt (by intro h; have h1:=HPRN.out; rw [show pr = [] from h] at h1; simp at h1) ad e)) hob10 hgb10 (hvb10.imp id (fun h => ⟨_,h,Nat.le_refl _⟩)))
         have k10_0:=(cell_grown hgb10 (cell_below (cell_below y0 hq5) hq9) (by intro e; have h1:=HNV.out _ e.symm; simp at h1))
         have k10_1:=(cell_grown hgb10 (cell_below (cell_below y1 hq5) hq9) (by intro e; have h1:=HNV.out _ e.symm; simp at h1))
         refine HKK.out _ _ (⟨k10_0,k10_1⟩) (fun hH2 => ?_)
         clear HKK K
         replace hHeld:=hH2
         clear hH2
         try simp only [jA,jB,jC,Act.put,jD,jE,jF]
         refine tk 14 ?_
         try simp only [jA,jB,jC,Act.put,jD,jE,jF]
         refine wpAnyH_ready (rs := [15]) (by kernel_rfl) (by simp) ?_
         refine (AllReadyH.cons rfl (fun K hK => ?_) AllReadyH.nil)
         have zs:=ak_yw10.out.c17
         have fs:=ak_yw10.out.blk.frozen 17
         have HKK:=Lib.hid hK
         clear hK
         go_simp
         obtain ⟨yw11,hv⟩:∃ v,v=yw10.setCell ⟨g,17,none⟩ (.slice A10 (rows.length+1) c10):=⟨_,rfl⟩
         rw [← hv]
         have aj_yw11:=ak_yw10.out.set
         rw [← hv] at aj_yw11
         have HAJ_yw11:=Lib.hid aj_yw11
         have hgv:yw10.grownBy yw11 (some g):=by rw [hv]; exact only_setCell (p:=⟨g,17,none⟩) (grown_id _ _) (.inl rfl) _
         clear hv zs fs aj_yw11
         refine HKK.out _ _ (⟨(cell_grown hgv k10_0 (by intro e; have e:=Option.some.inj e; have h1:=HGT.out; simp at e; omega)),(cell_grown hgv k10_1 (by intro e; have e:=Option.some.inj e; have h1:=HGT.out; simp at e; omega))⟩) (fun hH2 => ?_)
         clear HKK K
         replace hHeld:=hH2
         clear hH2
         try simp only [jA,jB,jC,Act.put,jD,jE,jF]
         refine wpAnyH_done (by kernel_rfl) ?_ _
         clear hHeld
         go_wp2_with fail
         go_roundw
         case rel => exact ⟨k+1,A10,c10,rows ++ [(⟨⟨X.r.name,pr,0,(X.r.prof.length:Int) - 1⟩,A5,c5⟩:LdM)],by omega,by go_num,by rw [List.length_append]; exact Nat.succ_le_succ hml,HAJ_yw11.out,(by show _=_; rw [List.map_append,hEQ.out,HN1b.out]; rfl),HN3b.out,all_push (x:=⟨⟨X.r.name,pr,0,(X.r.prof.length:Int) - 1⟩,A5,c5⟩) hNA.out HNX.out⟩
         case measure => simp [intOf]; omega
      ·have hhx:X.r.hasNext true=false:=by simp [Ld.hasNext,hp1]
       have HN1b:Hid (x.p.nexts d.d (k+1)=x.p.nexts d.d k):=by show _=_; rw [HN1.out,if_neg (by rw [hhx]; decide)]
       have q0:¬ (1:Int) < (X.r.prof.length:Int):=by omega
       clear hhx hp1 HN1
       go_wp2_with fail
       go_roundw
       case rel => exact ⟨k+1,A,c,rows,by omega,by go_num,by omega,hJi.out,(by show _=_; rw [hEQ.out,HN1b.out]),HN3b.out,hNA.out⟩
       case measure => simp [intOf]; omega
    ·have hrl:k=x.p.loads.length:=by rw [HLN.out]; omega
     have i2:¬ (k:Int) < (x.loads.length:Int):=by omega
     have hms:=hEQ.out
     rw [hrl] at hms hOK
     have HE2:Hid (x.p.advE d.d=0):=by show _=_; rw [HAE2.out,if_neg (by rw [hOK.out]; decide)]
     have HNF2:=Lib.hid (HNF.out hOK.out)
     have HMS:=Lib.hid hms
     obtain ⟨A9,c9,A8,c8,e9,_,r1,r2,_,_,r5,_⟩:=hJ.out.ls.read
     injection e9 with e91 e92 e93
     subst e91
     subst e93
     have HR1:=Lib.hid r1
     have HR2:=Lib.hid r2
     have HR5:=Lib.hid r5
     clear hms r1 r2 r5 e92 hlt hk
     go_upto_region 28 with fail
     clear c17 i2
     go_wp2_with (first | refine wpList_load_problemD rfl _ rfl g rfl (m.put A c rows) hJ.out.blk ?_ | refine wpList_store_blk rfl 31 _ _ rfl (w.heap.size+2) rfl (m.put A c rows).cs rfl (by kernel_rfl) (PbM.cs_oneC _) hJ.out.ad.r rfl ?_)
     intro w9 hB9 hg9
     have hj:=hJ.out
     have hjl:=hj.lt
     have hjb:=hj.lb
     have hb9:Below w.heap.size w w9:=hj.ad.bel.grown hg9 hj.ad.bel.size (fun k e => by injection e with e; omega)
     have rs:=hj.rs.other hj.f7 hg9 (fun q e => .inl (by injection e with e; omega))
     have rl:=HR1.out.far hg9 (fun ad e h => by have:=HR5.out ad e; omega) (fun y hy ad e h => by have:=((hj.ls.profs y hy).2.2 ad e).1; omega)
     have hmp:(m.put A c rows).p=x.p.adv d.d:=by rw [HADV.out, ← HMS.out,HMM.out]; rfl
     have HAD:Hid (AdvOutN x.p d.d w (.returned (.tuple #[.agg (m.put A c rows).cs,.int .i64 0])) w9):=by
      refine .inl ⟨HE2.out,m.put A c rows,rfl,hmp,?_,?_,?_,?_,hb9⟩
      ·exact ⟨rs.buy,rs.sell,rs.solar,rs.demand,rs.outside,rs.low,rs.high,rl⟩
      ·refine ⟨fun y hy => hNA.out y hy,fun y hy => by have h1:=(HNF2.out y.r (by rw [← HMS.out]; exact List.mem_map.2 ⟨y,hy,rfl⟩)).1; unfold maxLen; omega,HR2.out,?_,fun y hy => by have h1:=(HNF2.out y.r (by rw [← HMS.out]; exact List.mem_map.2 ⟨y,hy,rfl⟩)).2; omega⟩
       show m.buy.l.length ≤ _
       rw [HMM.out]; exact HFL.out
      ·refine ⟨?_,?_,?_,?_,?_,?_,?_,HR2.out,fun y hy => (hj.ls.profs y hy).2.1⟩
       ·show m.buy.l.length ≤ m.buy.c; rw [HMM.out]; exact HC_buy.out
       ·show m.sell.l.length ≤ m.sell.c; rw [HMM.out]; exact HC_sell.out
       ·show m.solar.l.length ≤ m.solar.c; rw [HMM.out]; exact HC_solar.out
       ·show m.demand.l.length ≤ m.demand.c; rw [HMM.out]; exact HC_demand.out
       ·show m.outside.l.length ≤ m.outside.c; rw [HMM.out]; exact HC_outside.out
       ·show m.low.l.length ≤ m.low.c; rw [HMM.out]; exact HC_low.out
       ·show m.high.l.length ≤ m.high.c; rw [HMM.out]; exact HC_high.out
      ·exact ⟨fun ad e => by have:=(hj.f7.buy ad e).1; omega,fun ad e => by have:=(hj.f7.sell ad e).1; omega,fun ad e => by have:=(hj.f7.solar ad e).1; omega,fun ad e => by have:=(hj.f7.demand ad e).1; omega,fun ad e => by have:=(hj.f7.outside ad e).1; omega,fun ad e => by have:=(hj.f7.low ad e).1; omega,fun ad e => by have:=(hj.f7.high ad e).1; omega,fun ad e => by have:=HR5.out ad e; omega,fun y hy ad e => by have:=((hj.ls.profs y hy).2.2 ad e).1; omega⟩
     have HB9:=Lib.hid hB9
     clear hB9 hg9 hb9 hj hjl hjb rs rl hmp
     go_wp2_with fail
     exact radv_ret (cs:=(m.put A c rows).cs) rfl HB9.out rfl rfl HAD.out
 ·have HBD:=Pb.ap_bad he
  have hae:x.p.advE d.d=x.p.doE d.d:=by unfold Pb.advE; rw [if_pos he]
  rw [HBD.1,HBD.2.1,HBD.2.2] at hap
  have q0:(x.p.doE d.d != 0)=true:=by simp [he]
  have HE0:=Lib.hid he
  have HAP:=Lib.hid hap
  have HAE:=Lib.hid hae
  generalize x.p.doE d.d=er at *
  clear HBD hae hap he hF hC
  go_enter Tryz.func30,Tryz.ntmps30
  go_upto_region 1 with fail
  rw [← hWH.out]
  clear hWH
  go_wp2_with (first | refine wpList_load_problemG (by rfl) _ rfl w.heap.size rfl x hst.out.p ?_ | refine wpList_load_decR (by rfl) _ rfl (w.heap.size+1) rfl d hst.out.q ?_)
  refine (HAP.out _ (hP.out.below hst.out.bel) (hD.out.below hst.out.bel)).mono ?_
  rintro e w1 ⟨rfl,hb1⟩
  have HX1:=Lib.hid (hst.out.below hb1)
  clear hb1 hst HAP
  go_upto_region 3 with fail
  clear q0
  go_wp2_with (refine wpList_store_blk rfl 31 _ _ rfl (w.heap.size+2) rfl PbM.nil.cs rfl (by kernel_rfl) (PbM.cs_oneC _) HX1.out.r rfl ?_)
  intro w5 hB5 hg5
  have hb5:Below w.heap.size w w5:=HX1.out.bel.grown hg5 HX1.out.bel.size (fun k e => by injection e with e; omega)
  have HB5:=Lib.hid hB5
  have HBE:=Lib.hid hb5
  clear hB5 hg5 hb5
  go_wp2_with fail
  refine radv_ret (cs:=PbM.nil.cs) rfl HB5.out rfl rfl (.inr ⟨by rw [HAE.out]; exact HE0.out,by rw [HAE.out]; rfl,HBE.out⟩)
end Go.Proofs.YtnppngaabfhkpaaGreat
namespace Go.Proofs.YtnppngaabfhkpaaGreat
open Go.RowKit
def rnK (p:Pb) (st:List Int) (b:Bool) (nm:ByteArray) (slot:Int):Nat→List Int
 | 0 => st
 | k+1 => if b=true∧(p.loads.getD k Ld.zero).name=nm∧(rnK p st b nm slot k).getD k 0 < 0 then (rnK p st b nm slot k).set k slot else rnK p st b nm slot k
theorem Pb.name_inj {p:Pb} (h:p.chk=0) {i j:Nat} (hi:i < p.loads.length) (hj:j < p.loads.length) (e:(p.loads.getD i Ld.zero).name=(p.loads.getD j Ld.zero).name):i=j:=by
 have hn:=(allChk_iff.1 (Pb.good h).loads).2.2
 have hp:=List.pairwise_iff_getElem.1 hn
 rw [show p.loads.getD i Ld.zero=p.loads[i] by simp [List.getD,hi],show p.loads.getD j Ld.zero=p.loads[j] by simp [List.getD,hj]] at e
 rcases Nat.lt_trichotomy i j with h1 | h1 | h1
 ·exact absurd (by rw [List.getElem_map,List.getElem_map]; exact e) (hp i j (by simpa using hi) (by simpa using hj) h1)
 ·exact h1
 ·exact absurd (by rw [List.getElem_map,List.getElem_map]; exact e.symm) (hp j i (by simpa using hj) (by simpa using hi) h1)
theorem rnK_spec {p:Pb} (h:p.chk=0) {st:List Int} {b:Bool} {nm:ByteArray} {slot:Int} {j:Nat} (hj:j < p.loads.length) (hnm:(p.loads.getD j Ld.zero).name=nm) {m:Nat} (hm:m ≤ p.loads.length) :
  rnK p st b nm slot m=if j < m∧b=true∧st.getD j 0 < 0 then st.set j slot else st:=by
 induction m with
 | zero => rw [if_neg (fun e => absurd e.1 (Nat.not_lt_zero _))]; rfl
 | succ m ih =>
  have ih:=ih (by omega)
  by_cases e:m=j
  ·subst e
   rw [if_neg (fun e => absurd e.1 (Nat.lt_irrefl _))] at ih
   rw [rnK,ih]
   by_cases hc:b=true∧st.getD m 0 < 0
   ·rw [if_pos ⟨hc.1,hnm,hc.2⟩,if_pos ⟨Nat.lt_succ_self _,hc.1,hc.2⟩]
   ·rw [if_neg (fun e => hc ⟨e.1,e.2.2⟩),if_neg (fun e => hc ⟨e.2.1,e.2.2⟩)]
  ·rw [rnK,if_neg (fun e2 => e (Pb.name_inj h (by omega) hj (e2.2.1.trans hnm.symm))),ih]
   by_cases hc:j < m∧b=true∧st.getD j 0 < 0
   ·rw [if_pos hc,if_pos ⟨by omega,hc.2⟩]
   ·rw [if_neg hc,if_neg (fun e2 => hc ⟨by omega,e2.2⟩)]
theorem rnK_step {p:Pb} {i:Nat} {s:Sim} (h:SimOk p i s) {bs:List Bool} {j:Nat} (hj:j < s.ids.length) :
  rnK p (setStart s.start s.ids bs i j) (bs.getD j false) (s.q.loads.getD j Ld.zero).name i p.loads.length=setStart s.start s.ids bs i (j+1):=by
 rw [rnK_spec h.pc (h.lt j hj) (h.name j hj).symm (Nat.le_refl _),setStart]
 by_cases hc:bs.getD j false=true∧(setStart s.start s.ids bs i j).getD (s.ids.getD j 0) 0 < 0
 ·rw [if_pos ⟨h.lt j hj,hc.1,hc.2⟩,if_pos hc]
 ·rw [if_neg (fun e => hc ⟨e.2.1,e.2.2⟩),if_neg hc]
def negRow (n k:Nat):List Int:=(List.range n).map fun (i:Nat) => if i < k then (-1:Int) else 0
theorem negRow_len (n k:Nat):(negRow n k).length=n:=by simp [negRow]
theorem negRow_zero (n:Nat):negRow n 0=List.replicate n 0:=by
 rw [List.eq_replicate_iff]
 refine ⟨negRow_len _ _,fun b hb => ?_⟩
 simp only [negRow,List.mem_map] at hb
 obtain ⟨a,_,rfl⟩:=hb
 simp
theorem negRow_full (n:Nat):negRow n n=List.replicate n (-1):=by
 rw [List.eq_replicate_iff]
 refine ⟨negRow_len _ _,fun b hb => ?_⟩
 simp only [negRow,List.mem_map,List.mem_range] at hb
 obtain ⟨a,ha,rfl⟩:=hb
 rw [if_pos ha]
theorem negRow_set (n k:Nat):(negRow n k).set k (-1)=negRow n (k+1):=by
 apply List.ext_getElem
 ·simp [negRow]
 ·intro i h1 h2
  rw [List.getElem_set]
  simp only [negRow,List.getElem_map,List.getElem_range]
  split
  ·rename_i e; subst e; simp
  ·rename_i e
   by_cases h:i < k
   ·rw [if_pos h,if_pos (by omega)]
   ·rw [if_neg h,if_neg (by omega)]
def SRM (s:Nat) (vc vh:Value) (k:Nat):Prop:=k=s+2 ∨ k=s+1 ∨ k=s ∨ some k=vc.ownBlock ∨ some k=vh.ownBlock
structure SR (w:World) (s:Nat) (wr:World) (x0 x:PbM) (vc vh:Value) (n:Nat) (lc lh ls:List Int):Prop where
 p2:Blk wr w.heap.size 31 x0.cs
 p4:Blk wr (w.heap.size+1) 48 PnM.zero.cs
 p6:Blk wr (s+1) 48 #[vc,vh,.slice (some ⟨s,0,none⟩) n n]
 p7:Blk wr (s+2) 31 x.cs
 oc:wr.ownsRow (s+3) 3 1 vc lc.length (ints lc)
 oh:wr.ownsRow (s+3) 3 1 vh lh.length (ints lh)
 os:wr.ownsRow (s) 3 1 (.slice (some ⟨s,0,none⟩) n n) n (ints ls)
 hn:ls.length=n
 nch:∀ q,vc.ownBlock=some q→vh.ownBlock ≠ some q
 r:RPb wr x
 off:PbOff (SRM s vc vh) x
 bel:Below w.heap.size w wr
 hs:w.heap.size+2 ≤ s
section
variable {w wr w1:World} {s:Nat} {x0 x:PbM} {vc vh v':Value} {n:Nat} {lc lh ls:List Int}
theorem SR.gsz (h:SR w s wr x0 x vc vh n lc lh ls):s+3 ≤ wr.heap.size:=h.p7.lt
theorem SR.below (h:SR w s wr x0 x vc vh n lc lh ls) (hb:Below wr.heap.size wr w1):SR w s w1 x0 x vc vh n lc lh ls :=
 ⟨h.p2.below hb h.p2.lt,h.p4.below hb h.p4.lt,h.p6.below hb h.p6.lt,h.p7.below hb h.p7.lt,own_below h.oc hb,own_below h.oh hb,own_below h.os hb,h.hn,h.nch,h.r.below hb,h.off,h.bel.trans (hb.mono h.bel.size),h.hs⟩
theorem SR.lt_all (h:SR w s wr x0 x vc vh n lc lh ls):∀ k,SRM s vc vh k→k < wr.heap.size:=by
 have h1:=h.gsz
 rintro k (e | e | e | e | e)
 ·omega
 ·omega
 ·omega
 ·exact (h.oc.lt k e.symm).2
 ·exact (h.oh.lt k e.symm).2
theorem srm_c (hv:v'.ownBlock=vc.ownBlock ∨ ∃ q,v'.ownBlock=some q∧wr.heap.size ≤ q):∀ k,SRM s v' vh k→SRM s vc vh k ∨ wr.heap.size ≤ k:=by
 rintro k (e | e | e | e | e)
 ·exact .inl (.inl e)
 ·exact .inl (.inr (.inl e))
 ·exact .inl (.inr (.inr (.inl e)))
 ·rcases hv with hv | ⟨q,hv,hq⟩
  ·exact .inl (.inr (.inr (.inr (.inl (by rw [← hv]; exact e)))))
  ·rw [hv] at e; injection e with e; exact .inr (by omega)
 ·exact .inl (.inr (.inr (.inr (.inr e))))
theorem srm_h (hv:v'.ownBlock=vh.ownBlock ∨ ∃ q,v'.ownBlock=some q∧wr.heap.size ≤ q):∀ k,SRM s vc v' k→SRM s vc vh k ∨ wr.heap.size ≤ k:=by
 rintro k (e | e | e | e | e)
 ·exact .inl (.inl e)
 ·exact .inl (.inr (.inl e))
 ·exact .inl (.inr (.inr (.inl e)))
 ·exact .inl (.inr (.inr (.inr (.inl e))))
 ·rcases hv with hv | ⟨q,hv,hq⟩
  ·exact .inl (.inr (.inr (.inr (.inr (by rw [← hv]; exact e)))))
  ·rw [hv] at e; injection e with e; exact .inr (by omega)
theorem row_ne {u:Value} (ho:wr.ownsRow (s+3) 3 1 u n (ints ls)) {k:Nat} (hk:k < s+3):u.ownBlock=none ∨ u.ownBlock ≠ some k := .inr fun e => by have:=(ho.lt _ e).1; omega
theorem own_at_ne {k m:Nat} (h:k ≠ m):(Value.slice (some ⟨k,0,none⟩) n n).ownBlock=none ∨ (Value.slice (some ⟨k,0,none⟩) n n).ownBlock ≠ some m := .inr fun e => h (Option.some.inj (show some k=some m from e))
theorem SR.pushC (h:SR w s wr x0 x vc vh n lc lh ls) {c:Int} (hown:w1.ownsRow (s+3) 3 1 v' (lc.length+1) (ints lc ++ [.int .i64 c])) (hg:wr.grownBy w1 vc.ownBlock) (hv:v'.ownBlock=vc.ownBlock ∨ ∃ q,v'.ownBlock=some q∧wr.heap.size ≤ q) :
  Blk w1 (s+1) 48 #[vc,vh,.slice (some ⟨s,0,none⟩) n n]∧SR w s (w1.setCell ⟨s+1,0,none⟩ v') x0 x v' vh n (lc ++ [c]) lh ls:=by
 have hss:=h.hs
 have hb:∀ k,vc.ownBlock=some k→s+3 ≤ k:=fun k e => (h.oc.lt k e).1
 have k6:=h.p6.grown hg (fun e => by have:=hb _ e.symm; omega)
 refine ⟨k6,?_⟩
 have hs:w1.grownBy (w1.setCell ⟨s+1,0,none⟩ v') (some (s+1)):=only_setCell (grown_id _ _) (.inl rfl) _
 have hM:=srm_c (s:=s) (wr:=wr) (vh:=vh) hv
 have hoff:=h.off.more h.r hM
 have r1:=h.r.stepM h.off hg (fun k e => .inr (.inr (.inr (.inl e.symm))))
 have b1:Below w.heap.size w w1:=h.bel.grown hg h.bel.size (fun k e => by have:=hb k e; omega)
 refine ⟨(h.p2.grown hg (fun e => by have:=hb _ e.symm; omega)).grown hs (by intro e; injection e with e; omega),(h.p4.grown hg (fun e => by have:=hb _ e.symm; omega)).grown hs (by intro e; injection e with e; omega),by have:=k6.set_ 0 v'; simpa using this,(h.p7.grown hg (fun e => by have:=hb _ e.symm; omega)).grown hs (by intro e; injection e with e; omega),?_,
  own_setCell (own_keep h.oh hg (ne_none h.nch)) (by show s+1 < s+3; omega) _,own_keep (own_keep h.os hg (.inr fun e => by have h9:s+3 ≤ s:=hb _ e.symm; omega)) hs (own_at_ne (by omega)),h.hn,?_,r1.stepM hoff hs (fun k e => .inr (.inl (by injection e with e; exact e.symm))),hoff,b1.grown hs b1.size (fun k e => by injection e with e; omega),h.hs⟩
 ·rw [List.length_append,ints_append]
  exact own_setCell hown (by show s+1 < s+3; omega) _
 ·intro q hq e
  rcases hv with hv | ⟨q2,hv,hq2⟩
  ·exact h.nch q (by rw [← hv]; exact hq) e
  ·rw [hv] at hq; injection hq with hq
   have:=(h.oh.lt q e).2
   omega
theorem SR.pushH (h:SR w s wr x0 x vc vh n lc lh ls) {c:Int} (hown:w1.ownsRow (s+3) 3 1 v' (lh.length+1) (ints lh ++ [.int .i64 c])) (hg:wr.grownBy w1 vh.ownBlock) (hv:v'.ownBlock=vh.ownBlock ∨ ∃ q,v'.ownBlock=some q∧wr.heap.size ≤ q) :
  Blk w1 (s+1) 48 #[vc,vh,.slice (some ⟨s,0,none⟩) n n]∧SR w s (w1.setCell ⟨s+1,1,none⟩ v') x0 x vc v' n lc (lh ++ [c]) ls:=by
 have hss:=h.hs
 have hb:∀ k,vh.ownBlock=some k→s+3 ≤ k:=fun k e => (h.oh.lt k e).1
 have k6:=h.p6.grown hg (fun e => by have:=hb _ e.symm; omega)
 refine ⟨k6,?_⟩
 have hs:w1.grownBy (w1.setCell ⟨s+1,1,none⟩ v') (some (s+1)):=only_setCell (grown_id _ _) (.inl rfl) _
 have hM:=srm_h (s:=s) (wr:=wr) (vc:=vc) hv
 have hoff:=h.off.more h.r hM
 have r1:=h.r.stepM h.off hg (fun k e => .inr (.inr (.inr (.inr e.symm))))
 have b1:Below w.heap.size w w1:=h.bel.grown hg h.bel.size (fun k e => by have:=hb k e; omega)
 refine ⟨(h.p2.grown hg (fun e => by have:=hb _ e.symm; omega)).grown hs (by intro e; injection e with e; omega),(h.p4.grown hg (fun e => by have:=hb _ e.symm; omega)).grown hs (by intro e; injection e with e; omega),by have:=k6.set_ 1 v'; simpa using this,(h.p7.grown hg (fun e => by have:=hb _ e.symm; omega)).grown hs (by intro e; injection e with e; omega),
  own_setCell (own_keep h.oc hg (ne_none' h.nch)) (by show s+1 < s+3; omega) _,?_,own_keep (own_keep h.os hg (.inr fun e => by have h9:s+3 ≤ s:=hb _ e.symm; omega)) hs (own_at_ne (by omega)),h.hn,?_,r1.stepM hoff hs (fun k e => .inr (.inl (by injection e with e; exact e.symm))),hoff,b1.grown hs b1.size (fun k e => by injection e with e; omega),h.hs⟩
 ·rw [List.length_append,ints_append]
  exact own_setCell hown (by show s+1 < s+3; omega) _
 ·intro q hq e
  rcases hv with hv | ⟨q2,hv,hq2⟩
  ·exact h.nch q hq (by rw [← hv]; exact e)
  ·rw [hv] at e; injection e with e
   have:=(h.oc.lt q hq).2
   omega
theorem SR.setS (h:SR w s wr x0 x vc vh n lc lh ls) (j:Nat) (u:Int):SR w s (wr.setCell ⟨s,j,none⟩ (.int .i64 u)) x0 x vc vh n lc lh (ls.set j u):=by
 have hss:=h.hs
 obtain ⟨o1,hg⟩:=h.os.stored j (.int .i64 u)
 exact ⟨h.p2.grown hg (by intro e; injection e with e; omega),h.p4.grown hg (by intro e; injection e with e; omega),h.p6.grown hg (by intro e; injection e with e; omega),h.p7.grown hg (by intro e; injection e with e; omega),own_keep h.oc hg (row_ne h.oc (by omega)),own_keep h.oh hg (row_ne h.oh (by omega)),by rw [ints_set]; exact o1,by rw [List.length_set]; exact h.hn,h.nch,h.r.stepM h.off hg (fun k e => .inr (.inr (.inl (by injection e with e; exact e.symm)))),h.off,h.bel.grown hg h.bel.size (fun k e => by injection e with e; omega),h.hs⟩
theorem SR.turn (h:SR w s wr x0 x vc vh n lc lh ls) {y:PbM} (hB:Blk w1 (s+2) 31 y.cs) (hg:wr.grownBy w1 (some (s+2))) (hr:RPb wr y) (ho:PbOff (SRM s vc vh) y):SR w s w1 x0 y vc vh n lc lh ls:=by
 have hss:=h.hs
 exact ⟨h.p2.grown hg (by intro e; injection e with e; omega),h.p4.grown hg (by intro e; injection e with e; omega),h.p6.grown hg (by intro e; injection e with e; omega),hB,own_keep h.oc hg (row_ne h.oc (by omega)),own_keep h.oh hg (row_ne h.oh (by omega)),own_keep h.os hg (own_at_ne (by omega)),h.hn,h.nch,hr.stepM ho hg (fun k e => .inl (by injection e with e; exact e.symm)),ho,h.bel.grown hg h.bel.size (fun k e => by injection e with e; omega),h.hs⟩
end
structure S1R (w:World) (s:Nat) (wr:World) (x0:PbM) (n k:Nat):Prop where
 p2:Blk wr w.heap.size 31 x0.cs
 p4:Blk wr (w.heap.size+1) 48 PnM.zero.cs
 p6:Blk wr (s+1) 48 #[.slice none 0 0,.slice none 0 0,.slice (some ⟨s,0,none⟩) n n]
 os:wr.ownsRow s 3 1 (.slice (some ⟨s,0,none⟩) n n) n (ints (negRow n k))
 sz:wr.heap.size=s+2
 bel:Below w.heap.size w wr
 hs:w.heap.size+2 ≤ s
section
variable {w W wr w1:World} {s:Nat} {x0:PbM} {n k:Nat}
theorem S1R.start (h1:Blk W w.heap.size 31 x0.cs) (h2:Blk W (w.heap.size+1) 48 PnM.zero.cs) (h4:Below w.heap.size w W) (hsz:W.heap.size=s) (hn:n ≤ 1000000000) :
  S1R w s ((W.alloc (.cells (madeCells #[.int .i64 0] n) 3)).alloc (.cells #[.slice none 0 0,.slice none 0 0,.slice (some ⟨s,0,none⟩) n n] 48)) x0 n 0:=by
 have hss:w.heap.size+2 ≤ s:=by have:=h2.lt; omega
 have o:=World.ownsRow_lit (base:=s) (e:=3) (size:=1) W (madeCells #[.int .i64 0] n) n (by omega) (by unfold maxLen; omega) (by simp [madeCells])
 rw [toList_madeCells_one,hsz] at o
 have hsz2:(W.alloc (.cells (madeCells #[.int .i64 0] n) 3)).heap.size=s+1:=by simp [hsz]
 have b2:Below W.heap.size W (W.alloc (.cells (madeCells #[.int .i64 0] n) 3)):=below_al (Below.refl _ _)
 generalize W.alloc (.cells (madeCells #[.int .i64 0] n) 3)=V at *
 have b3:Below V.heap.size V (V.alloc (.cells #[.slice none 0 0,.slice none 0 0,.slice (some ⟨s,0,none⟩) n n] 48)):=below_al (Below.refl _ _)
 have hk:=Blk.new V 48 #[.slice none 0 0,.slice none 0 0,.slice (some ⟨s,0,none⟩) n n]
 rw [hsz2] at hk
 have b23:=b2.trans (b3.mono b2.size)
 refine ⟨h1.below b23 h1.lt,h2.below b23 h2.lt,hk,?_,by simp [hsz2],h4.trans (b23.mono h4.size),hss⟩
 rw [negRow_zero,show ints (List.replicate n 0)=List.replicate n (.int .i64 0) by simp [ints]]
 exact own_below o b3
theorem S1R.set (h:S1R w s wr x0 n k):S1R w s (wr.setCell ⟨s,k,none⟩ (.int .i64 (-1))) x0 n (k+1):=by
 have hss:=h.hs
 obtain ⟨o1,hg⟩:=h.os.stored k (.int .i64 (-1))
 refine ⟨h.p2.grown hg (by intro e; injection e with e; omega),h.p4.grown hg (by intro e; injection e with e; omega),h.p6.grown hg (by intro e; injection e with e; omega),?_,by have:=h.sz; simpa [World.setCell] using this,h.bel.grown hg h.bel.size (fun k e => by injection e with e; omega),h.hs⟩
 rw [← negRow_set,ints_set]
 exact o1
theorem S1R.made (h:S1R w s wr x0 n n) (hP:RPb w x0) (hB:Blk w1 (s+2) 31 x0.cs) (hg:wr.grownBy w1 (some (s+2))) :
  SR w s w1 x0 x0 (.slice none 0 0) (.slice none 0 0) n [] [] (List.replicate n (-1)):=by
 have hss:=h.hs
 have hb:Below w.heap.size w w1:=h.bel.grown hg h.bel.size (fun k e => by injection e with e; omega)
 refine ⟨h.p2.grown hg (by intro e; injection e with e; omega),h.p4.grown hg (by intro e; injection e with e; omega),h.p6.grown hg (by intro e; injection e with e; omega),hB,World.ownsRow_nil _ _ _ _,World.ownsRow_nil _ _ _ _,?_,by simp,(fun _ h => by cases h),hP.below hb,(PbOff.none x0).more hP ?_,hb,h.hs⟩
 ·rw [← negRow_full]
  exact own_keep h.os hg (own_at_ne (by omega))
 ·rintro k (e | e | e | e | e)
  ·exact .inr (by omega)
  ·exact .inr (by omega)
  ·exact .inr (by omega)
  ·cases e
  ·cases e
end
structure SDR (M:Nat→Prop) (wr:World) (gd:Nat) (m:DcM):Prop where
 dd:Blk wr gd 42 m.cs
 rd:RBools wr m.A m.l
 offd:¬ M gd
 offl:Off M m.A m.l
section
variable {wr w1:World}
theorem SDR.step {M M':Nat→Prop} {gd:Nat} {m:DcM} {r:Option Nat} (h:SDR M wr gd m) (hg:wr.grownBy w1 r) (hr:∀ k,r=some k→M k) (hM:∀ k,M' k→M k ∨ wr.heap.size ≤ k):SDR M' w1 gd m:=by
 refine ⟨h.dd.grown hg (fun e => h.offd (hr _ e.symm)),?_,fun e => ?_,h.offl.more (fun hl ad e => h.rd.lt hl ad e) hM⟩
 ·rcases h.offl with h1 | h1
  ·rw [h1]; exact RBools.nil
  ·exact h.rd.other hg fun ad e h2 => h1 ad e (hr _ h2.symm)
 ·rcases hM _ e with h1 | h1
  ·exact h.offd h1
  ·have:=h.dd.lt; omega
theorem SDR.below {M:Nat→Prop} {gd:Nat} {m:DcM} (h:SDR M wr gd m) (hb:Below wr.heap.size wr w1):SDR M w1 gd m :=
 ⟨h.dd.below hb h.dd.lt,h.rd.below hb,h.offd,h.offl⟩
end
end Go.Proofs.YtnppngaabfhkpaaGreat
