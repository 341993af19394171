/-
  Words on the search of layer 43 (optimum): its block in memory, the map of least costs.
-/
import Derived.Test.YtnppngaabfhkpaaGreatEPW
import Derived.Test.YtnppngaabfhkpaaGreatE2Lift
import Derived.DeepKeys4
import Derived.Maps.Own
import Derived.DataShut
import Derived.Test.YtnppngaabfhkpaaGreatEPP4
namespace Go.Proofs.YtnppngaabfhkpaaGreat
open Go.RowKit Go.Maps Go.WideShapes
open Go.ChangeMaps (setBlock heap_setBlock_same heap_setBlock_other)
theorem Tryz.placeLaw:Keyed Tryz.prog 87 :=
 Keyed.of_law (deep_law_laid Tryz.laidOut (m:=2) (by omega) (of_decide_eq_true (by kernel_rfl)) (by kernel_rfl) (by rw [Tryz.underlying87]))
theorem Tryz.placeKey:Tryz.prog.keyType 87=true:=by kernel_rfl
theorem Tryz.placeCells:Tryz.prog.cellsOf 87=3:=by kernel_rfl
theorem Tryz.intCells:Tryz.prog.cellsOf 3=1:=by kernel_rfl
theorem Tryz.typesSize:∃ m,Tryz.prog.types.size=m+1:=⟨Tryz.prog.types.size - 1,by have:0 < Tryz.prog.types.size:=of_decide_eq_true (by kernel_rfl); omega⟩
def placeV (i l t:Int):Value := .agg #[.int .i64 i,.int .i64 l,.int .i64 t]
def in64 (x:Int):Prop := -9223372036854775808 ≤ x∧x ≤ 9223372036854775807
theorem in64_wf {x:Int} (h:in64 x):(Lit.int .i64 x).wf=true:=by
 rw [Lit.wf_int_iff]
 exact h
theorem keyOf_place {i l t:Int} (hi:in64 i) (hl:in64 l) (ht:in64 t):∃ kl,keyOf Tryz.prog 87 (placeV i l t)=some kl:=by
 have w1:=in64_wf hi
 have w2:=in64_wf hl
 have w3:=in64_wf ht
 obtain ⟨m,hm⟩:=Tryz.typesSize
 refine ⟨.string (keyBytes [.int .i64 i,.int .i64 l,.int .i64 t]),?_⟩
 unfold keyOf
 simp only [Tryz.underlying87]
 rw [if_pos (by simp [Tryz.placeKey,placeV,Value.formed,Tryz.underlying87,Tryz.placeCells]),hm]
 unfold Program.keyLits
 simp only [Tryz.underlying87,placeV,Value.cells]
 rw [if_pos ⟨by rw [Tryz.placeCells]; rfl,by kernel_rfl⟩]
 simp [Program.keyLits,Tryz.underlying3,Tryz.intCells,w1,w2,w3]
def Memo (w:World) (b:Nat) (F:Int→Int→Int→Int):Prop :=
 ∃ es clock,w.heap[b]? = some (.map es clock)∧∀ e ∈ es.toList, ∃ i l t,in64 i∧in64 l∧in64 t∧e.key=placeV i l t∧e.val = .int .i64 (F i l t)
theorem Memo.new (w:World) (F:Int→Int→Int→Int):Memo (w.alloc (.map #[] 0)) w.heap.size F :=
 ⟨#[],0,(MapKept.heap_alloc w _).1,by simp⟩
theorem Memo.lt {w:World} {b:Nat} {F:Int→Int→Int→Int} (h:Memo w b F):b < w.heap.size:=by
 obtain ⟨es,clock,h1,_⟩:=h
 exact (Array.getElem?_eq_some_iff.1 h1).1
theorem Memo.below {w w':World} {b B:Nat} {F:Int→Int→Int→Int} (h:Memo w b F) (hb:Below B w w') (hB:b < B):Memo w' b F:=by
 obtain ⟨es,clock,h1,h2⟩:=h
 exact ⟨es,clock,(hb.block b hB).trans h1,h2⟩
theorem Memo.drew {w:World} {b:Nat} {F:Int→Int→Int→Int} (h:Memo w b F):Memo w.drew b F:=h
theorem memo_keys {es:Array MapEntry} {F:Int→Int→Int→Int} (h:∀ e ∈ es.toList, ∃ i l t,in64 i∧in64 l∧in64 t∧e.key=placeV i l t∧e.val = .int .i64 (F i l t)) :
  ∀ e ∈ es.toList, ∃ l,keyOf Tryz.prog 87 e.key=some l:=by
 intro e he
 obtain ⟨i,l,t,h1,h2,h3,h4,_⟩:=h e he
 rw [h4]
 exact keyOf_place h1 h2 h3
theorem Memo.look {w:World} {b:Nat} {F:Int→Int→Int→Int} (h:Memo w b F) {i l t:Int} (hi:in64 i) (hl:in64 l) (ht:in64 t) :
  ∃ v ok,(Instr.lookup 83 (.map (some b)) (placeV i l t) true).run Tryz.prog w = .ok (.tuple #[.int .i64 v,.bool ok]) w∧(ok=true→v=F i l t):=by
 obtain ⟨es,clock,hb,hes⟩:=h
 obtain ⟨kl,hkey⟩:=keyOf_place hi hl ht
 have K:=Tryz.placeLaw
 have hz:(zeroValue 3).run Tryz.prog w = .ok (.int .i64 0) w:=by kernel_rfl
 rcases K.find w hkey es.toList (memo_keys hes) with ⟨h1,h2⟩ | ⟨j,e0,h1,h2,h3⟩
 ·exact ⟨0,false,by simp [Instr.lookup,run_underlying Tryz.underlying83,MapKept.run_getObj_map hb,K.check w _ hkey,h1,hz,Result.andThen],fun e => by cases e⟩
 ·obtain ⟨i',l',t',_,_,_,h4,h5⟩:=hes e0 (List.mem_of_getElem? h2)
  rw [h3] at h4
  have h6:i=i'∧l=l'∧t=t':=by simpa [placeV] using h4
  obtain ⟨rfl,rfl,rfl⟩:=h6
  refine ⟨F i l t,true,?_,fun _ => rfl⟩
  rw [h5] at h1
  simp [Instr.lookup,run_underlying Tryz.underlying83,MapKept.run_getObj_map hb,K.check w _ hkey,h1,Result.andThen]
theorem grownBy_setBlock {w:World} {b:Nat} {es:Array MapEntry} {clock:Nat} (hb:w.heap[b]? = some (.map es clock)) (o:Obj):w.grownBy (setBlock w b o) (some b) :=
 ⟨rfl,rfl,rfl,by simp [setBlock],fun _ _ hi => heap_setBlock_other hb _ (fun e1 => hi (by rw [e1]))⟩
theorem Memo.store {w:World} {b:Nat} {F:Int→Int→Int→Int} (h:Memo w b F) {i l t:Int} (hi:in64 i) (hl:in64 l) (ht:in64 t) :
  ∃ w',(Instr.mapUpdate 83 (.map (some b)) (placeV i l t) (.int .i64 (F i l t))).run Tryz.prog w = .ok () w'∧Memo w' b F∧w.grownBy w' (some b):=by
 obtain ⟨es,clock,hb,hes⟩:=h
 obtain ⟨kl,hkey⟩:=keyOf_place hi hl ht
 have K:=Tryz.placeLaw
 rcases K.find w hkey es.toList (memo_keys hes) with ⟨h1,h2⟩ | ⟨j,e0,h1,h2,h3⟩
 ·refine ⟨setBlock w b (.map (es.push ⟨placeV i l t,.int .i64 (F i l t),clock⟩) (clock+1)),?_,⟨_,_,heap_setBlock_same hb _,?_⟩,grownBy_setBlock hb _⟩
  ·simp [Instr.mapUpdate,run_underlying Tryz.underlying83,MapKept.run_getObj_map hb,K.check w false hkey,h1,MapKept.run_setObj_map _ hb,Result.andThen,setBlock]
  ·intro e he
   simp only [Array.toList_push,List.mem_append,List.mem_singleton] at he
   rcases he with he | rfl
   ·exact hes e he
   ·exact ⟨i,l,t,hi,hl,ht,rfl,rfl⟩
 ·have hj:es[j]? = some e0:=by simpa using h2
  refine ⟨setBlock w b (.map (es.modify j (fun e' => { e' with key:=placeV i l t,val := .int .i64 (F i l t) })) clock),?_,⟨_,_,heap_setBlock_same hb _,?_⟩,grownBy_setBlock hb _⟩
  ·simp [Instr.mapUpdate,run_underlying Tryz.underlying83,MapKept.run_getObj_map hb,K.check w false hkey,h1,hj,h3,K.stays w hkey,MapKept.run_setObj_map _ hb,Result.andThen,setBlock]
  ·intro e he
   have hlist:(es.modify j (fun e' => { e' with key:=placeV i l t,val := .int .i64 (F i l t) })).toList=es.toList.set j { e0 with key:=placeV i l t,val := .int .i64 (F i l t) } := by rw [Array.toList_modify,ChangeMaps.modify_eq_set _ _ _ _ h2]
   rw [hlist] at he
   rcases List.mem_or_eq_of_mem_set he with he | rfl
   ·exact hes e he
   ·exact ⟨i,l,t,hi,hl,ht,rfl,rfl⟩
structure SM where
 x:PbM
 u:IntsM
 b:Nat
def SM.cs (s:SM):Array Value:=#[.slice s.x.buy.A s.x.buy.l.length s.x.buy.c,.slice s.x.sell.A s.x.sell.l.length s.x.sell.c,.int .i64 s.x.fuse,.slice s.x.solar.A s.x.solar.l.length s.x.solar.c,.slice s.x.demand.A s.x.demand.l.length s.x.demand.c,.slice s.x.outside.A s.x.outside.l.length s.x.outside.c,.int .i64 s.x.bat.cap,.int .i64 s.x.bat.reserve,.int .i64 s.x.bat.charge,.int .i64 s.x.bat.discharge,.int .i64 s.x.bat.eff,.int .i64 s.x.gain,.int .i64 s.x.loss,.int .i64 s.x.steps,.int .i64 s.x.power,.slice s.x.low.A s.x.low.l.length s.x.low.c,.slice s.x.high.A s.x.high.l.length s.x.high.c,.slice s.x.LA s.x.loads.length s.x.lc,.int .i64 s.x.level,.int .i64 s.x.temp,.slice s.u.A s.u.l.length s.u.c,.map (some s.b)]
structure SX (W:World) (g:Nat) (s:SM):Prop where
 blk:Blk W g 85 s.cs
 pr:RPb W s.x
 us:RInts W s.u.A s.u.l
theorem SX.below {W W':World} {g:Nat} {s:SM} (h:SX W g s) (hb:Below W.heap.size W W'):SX W' g s:=⟨h.blk.below hb h.blk.lt,h.pr.below hb,h.us.below hb⟩
theorem SX.lt {W:World} {g:Nat} {s:SM} (h:SX W g s):g < W.heap.size:=h.blk.lt
end Go.Proofs.YtnppngaabfhkpaaGreat
namespace Go.Proofs.YtnppngaabfhkpaaGreat
open Go.RowKit
attribute [local go_sem ↓] Go.wp_at_zero Go.wp_at_succ
set_option maxRecDepth 100000 in
set_option maxHeartbeats 8000000 in
theorem tcost_any (t:Tf) (A B:Option Addr) (c d:Nat) (i:Nat) (net:Int) (w:World) (hA:RInts w A t.buy) (hB:RInts w B t.sell) (hs:t.slot (i:Int)=true) :
  Calls Tryz.prog 93 #[t.v A c B d,.int .i64 i,.int .i64 net] w fun e w' => e = .returned (.int .i64 (t.cost i net))∧Below w.heap.size w w':=by
 have hk0:=fun W (h:RInts W A t.buy) (h2:RInts W B t.sell) => prices_any t A B c d i W h h2
 have HA:=Lib.hid hA
 have HB:=Lib.hid hB
 have hp:t.price (i:Int)=(t.buy.getD i 0,t.sell.getD i 0):=by unfold Tf.price; rw [if_pos hs,Int.toNat_natCast]
 have hpb:=(Tf.good (by simp only [Tf.slot,Bool.and_eq_true,decide_eq_true_eq] at hs; exact hs.2.2)).b i
 have hps:=(Tf.good (by simp only [Tf.slot,Bool.and_eq_true,decide_eq_true_eq] at hs; exact hs.2.2)).s i
 unfold Tf.cost
 rw [hp,hs] at hk0
 simp only [Tf.v] at hk0 ⊢
 generalize t.buy.getD i 0=b at *
 generalize t.sell.getD i 0=s at *
 have HAM:=Lib.hid (fun W => amount_any b s net W hpb.1 hpb.2 hps.1 hps.2)
 have hK:=Lib.hid hk0
 clear hk0 hp hpb hps hs hA hB
 generalize t.buy.length=n at *
 generalize t.sell.length=m at *
 go_enter Tryz.func93,Tryz.ntmps93
 go_wp2_with fail
 have hO:∀ cs,Below w.heap.size w (w.alloc (.cells cs 24)):=fun cs => (Below.refl _ _).alloc (Nat.le_refl _) _
 refine (hK.out _ (HA.out.below (hO _)) (HB.out.below (hO _))).mono ?_
 rintro e w1 ⟨rfl,hb1⟩
 obtain ⟨q1,q3,q4⟩:=one_box hb1
 have HQ4:=Lib.hid q4
 clear hb1 hO q1 q3 q4
 go_wp2_with fail
 refine (HAM.out _).mono ?_
 rintro e w2 ⟨rfl,hb2⟩
 have HQ5:=Lib.hid ((HQ4.out.alloc (by have:=HQ4.out.size; omega) _).trans (hb2.mono (by have:=HQ4.out.size; simp; omega)))
 clear hb2
 go_wp2_with fail
 go_ret
 exact ⟨rfl,HQ5.out⟩
def moveV (i:Nat):Option (Int × Int × Int)→Value
 | none => .tuple #[placeV 0 0 0,.int .i64 0,.bool false]
 | some x => .tuple #[placeV ((i:Int)+1) x.1 x.2.1,.int .i64 x.2.2,.bool true]
structure AB (i lv tm c h:Int) (w wr:World) (cs:Array Value):Prop where
 a:Blk wr w.heap.size 87 #[.int .i64 i,.int .i64 lv,.int .i64 tm]
 m:Blk wr (w.heap.size+1) 114 #[.int .i64 c,.int .i64 h]
 r:Blk wr (w.heap.size+2) 87 cs
 bel:Below w.heap.size w wr
theorem cell_setG {w:World} {b g i j:Nat} {v u:Value} (h:w.cell? ⟨b,i,none⟩=some v) (hne:b ≠ g):(w.setCell ⟨g,j,none⟩ u).cell? ⟨b,i,none⟩=some v:=by
 rw [World.cell?_setCell_other w ⟨g,j,none⟩ ⟨b,i,none⟩ u (fun e => hne (congrArg Addr.block e).symm)]
 exact h
theorem AB.below {i lv tm c h:Int} {w wr w1:World} {cs:Array Value} (q:AB i lv tm c h w wr cs) (hb:Below wr.heap.size wr w1):AB i lv tm c h w w1 cs :=
 ⟨q.a.below hb q.a.lt,q.m.below hb q.m.lt,q.r.below hb q.r.lt,q.bel.trans (hb.mono q.bel.size)⟩
theorem AB.start (i lv tm c h:Int) (w:World) (cs:Array Value):AB i lv tm c h w (((w.alloc (.cells #[.int .i64 i,.int .i64 lv,.int .i64 tm] 87)).alloc (.cells #[.int .i64 c,.int .i64 h] 114)).alloc (.cells cs 87)) cs:=by
 obtain ⟨h1,h2,h3,h4⟩:=two_boxes (w:=w) (cs:=#[.int .i64 i,.int .i64 lv,.int .i64 tm]) (t:=87) (cs2:=#[.int .i64 c,.int .i64 h]) (t2:=114) (Below.refl _ _)
 have h5:Below w.heap.size w ((w.alloc (.cells #[.int .i64 i,.int .i64 lv,.int .i64 tm] 87)).alloc (.cells #[.int .i64 c,.int .i64 h] 114)):=h4
 generalize hW:(w.alloc (.cells #[.int .i64 i,.int .i64 lv,.int .i64 tm] 87)).alloc (.cells #[.int .i64 c,.int .i64 h] 114)=W at *
 have hs:W.heap.size=w.heap.size+2:=by rw [← hW]; simp
 have h6:=Blk.new W 87 cs
 rw [hs] at h6
 have hb:Below W.heap.size W (W.alloc (.cells cs 87)):=below_al (Below.refl _ _)
 exact ⟨h1.below hb h1.lt,h2.below hb h2.lt,h6,h5.trans (hb.mono h5.size)⟩
set_option maxRecDepth 100000 in
set_option maxHeartbeats 64000000 in
theorem after_any (g:Nat) (s:SM) (i:Nat) (lv tm c h:Int) (w:World) (hX0:SX w g s) (hck:s.x.p.chk=0) (hul:s.u.l.length=s.x.buy.l.length) (hu:∀ j,0 ≤ s.u.l.getD j 0∧s.u.l.getD j 0 ≤ 4000) (hi:i < s.x.buy.l.length) (h0:0 ≤ h) (h1:h ≤ 40) :
  Calls Tryz.prog 72 #[.pointer (some ⟨g,0,none⟩),placeV i lv tm,.agg #[.int .i64 c,.int .i64 h]] w fun e w' => e = .returned (moveV i (s.x.p.move s.u.l i lv tm c h))∧Below w.heap.size w w':=by
 have hX:=Lib.hid hX0
 have HGL:Hid (g < w.heap.size):=hX0.lt
 have hgd:=Pb.good hck
 obtain ⟨e1,e2,e3⟩:=hgd.lens
 have hn96:s.x.buy.l.length ≤ 96:=(Pb.nbd hgd).2
 have hsd:i < s.x.demand.l.length:=by have:s.x.demand.l.length=s.x.buy.l.length:=e2; omega
 have hss:i < s.x.solar.l.length:=by have:s.x.solar.l.length=s.x.buy.l.length:=e1; omega
 have hso:i < s.x.outside.l.length:=by have:s.x.outside.l.length=s.x.buy.l.length:=e3; omega
 have hsu:i < s.u.l.length:=by omega
 have hst:s.x.p.t.slot (i:Int)=true:=by
  have ht:s.x.p.t.chk=0:=hgd.t
  have hl:(i:Int) < (s.x.p.t.buy.length:Int):=by show (i:Int) < (s.x.buy.l.length:Int); omega
  simp only [Tf.slot,Bool.and_eq_true,decide_eq_true_eq]
  exact ⟨by omega,hl,ht⟩
 have hfu:=Pb.fuse_bd hgd
 have b1:=allB_getD hgd.de (by omega) (by omega) i
 have b2:=allB_getD hgd.so (by omega) (by omega) i
 have b3:=step_drawn_bd (Pb.bat_good hgd).2 lv c
 have hr:=Rm.good (Pb.room_ok hgd).1
 have b4:0 ≤ h * s.x.p.room.power:=Int.mul_nonneg h0 hr.p0
 have b5:h * s.x.p.room.power ≤ 40 * 1000:=Int.mul_le_mul h1 hr.p1 hr.p0 (by omega)
 have b6:=hu i
 have hc1:=Lib.hid (fun W => step_any s.x.bat lv c W)
 have hc2:=Lib.hid (fun W (q:RPb W s.x) => tstep_any s.x.room s.x.low.A s.x.high.A s.x.low.c s.x.high.c tm (s.x.outside.l.getD i 0) h W q.low q.high)
 have hc3:=Lib.hid (fun W t (q:RPb W s.x) => tok_any s.x.room s.x.low.A s.x.high.A s.x.low.c s.x.high.c i t W q.low q.high)
 have hc4:=Lib.hid (fun W n (q:RPb W s.x) => fits_any s.x.t s.x.buy.A s.x.sell.A s.x.buy.c s.x.sell.c i n W q.buy q.sell (by have:1 ≤ s.x.t.fuse:=hfu.1; omega) (by have:s.x.t.fuse ≤ 1000:=hfu.2; omega))
 have hc5:=Lib.hid (fun W n (q:RPb W s.x) => tcost_any s.x.t s.x.buy.A s.x.sell.A s.x.buy.c s.x.sell.c i n W q.buy q.sell hst)
 have hD0:∀ W,RPb W s.x→∃ b o,s.x.demand.A=some ⟨b,o,none⟩∧W.cell? ⟨b,o+i,none⟩=some (.int .i64 (s.x.demand.l.getD i 0)):=fun W q => by
  obtain ⟨b,o,h1,_,h2⟩:=q.demand.at' hsd
  exact ⟨b,o,h1,by rw [h2,getD_eq hsd]⟩
 have hS0:∀ W,RPb W s.x→∃ b o,s.x.solar.A=some ⟨b,o,none⟩∧W.cell? ⟨b,o+i,none⟩=some (.int .i64 (s.x.solar.l.getD i 0)):=fun W q => by
  obtain ⟨b,o,h1,_,h2⟩:=q.solar.at' hss
  exact ⟨b,o,h1,by rw [h2,getD_eq hss]⟩
 have hO0:∀ W,RPb W s.x→∃ b o,s.x.outside.A=some ⟨b,o,none⟩∧W.cell? ⟨b,o+i,none⟩=some (.int .i64 (s.x.outside.l.getD i 0)):=fun W q => by
  obtain ⟨b,o,h1,_,h2⟩:=q.outside.at' hso
  exact ⟨b,o,h1,by rw [h2,getD_eq hso]⟩
 have hU0:∀ W,RInts W s.u.A s.u.l→∃ b o,s.u.A=some ⟨b,o,none⟩∧W.cell? ⟨b,o+i,none⟩=some (.int .i64 (s.u.l.getD i 0)):=fun W q => by
  obtain ⟨b,o,h1,_,h2⟩:=q.at' hsu
  exact ⟨b,o,h1,by rw [h2,getD_eq hsu]⟩
 have hst0:=AB.start i lv tm c h w #[.int .i64 0,.int .i64 0,.int .i64 0]
 have hmv:s.x.p.move s.u.l i lv tm c h=if (stepZ s.x.bat lv c).2.2 ≠ 0 then none else if s.x.room.valid.okAt (i:Int) (s.x.room.valid.step tm (s.x.outside.l.getD i 0) h)=true then (if s.x.t.fits (i:Int) (s.x.p.netAt s.u.l i lv c h)=true then some ((stepZ s.x.bat lv c).1,s.x.room.valid.step tm (s.x.outside.l.getD i 0) h,s.x.t.cost i (s.x.p.netAt s.u.l i lv c h)) else none) else none:=rfl
 have HMV:=Lib.hid hmv
 have hnt:s.x.p.netAt s.u.l i lv c h=s.x.demand.l.getD i 0+(stepZ s.x.bat lv c).2.1+h * s.x.power+s.u.l.getD i 0 - s.x.solar.l.getD i 0:=rfl
 have b1:0 ≤ s.x.demand.l.getD i 0∧s.x.demand.l.getD i 0 ≤ 1000:=b1
 have b2:0 ≤ s.x.solar.l.getD i 0∧s.x.solar.l.getD i 0 ≤ 1000:=b2
 have b4:0 ≤ h * s.x.power:=b4
 have b5:h * s.x.power ≤ 40 * 1000:=b5
 have b3 : -1000 ≤ (stepZ s.x.bat lv c).2.1∧(stepZ s.x.bat lv c).2.1 ≤ 1000:=b3
 have i1:(0:Int) ≤ (i:Int):=by omega
 have i2:(i:Int) < (s.x.demand.l.length:Int):=by omega
 have i3:(i:Int) < (s.x.solar.l.length:Int):=by omega
 have i4:(i:Int) < (s.x.outside.l.length:Int):=by omega
 have i5:(i:Int) < (s.u.l.length:Int):=by omega
 have w0:IntKind.i64.wrap ((i:Int)+1)=(i:Int)+1:=IntWalk.i64_in _ (by omega)
 clear hmv hX0 hgd e1 e2 e3 hsd hss hso hsu hst hfu hr hck hul hu
 generalize s.x.p.netAt s.u.l i lv c h=nt at *
 generalize s.x.p.move s.u.l i lv tm c h=mv at *
 generalize s.x.demand.l.getD i 0=dz at *
 generalize s.x.solar.l.getD i 0=sz at *
 generalize s.x.outside.l.getD i 0=oz at *
 generalize s.u.l.getD i 0=uz at *
 generalize stepZ s.x.bat lv c=st at *
 obtain ⟨nl,dr,er⟩:=st
 simp only [] at *
 generalize s.x.room.valid.step tm oz h=tn at *
 have hok0:=hc3.out
 have hc3:=Lib.hid (fun W (q:RPb W s.x) => hok0 W tn q)
 have hft0:=hc4.out
 have hc4:=Lib.hid (fun W (q:RPb W s.x) => hft0 W nt q)
 have hco0:=hc5.out
 have hc5:=Lib.hid (fun W (q:RPb W s.x) => hco0 W nt q)
 clear hok0 hft0 hco0
 generalize s.x.room.valid.okAt (i:Int) tn=okb at *
 generalize s.x.t.fits (i:Int) nt=fb at *
 generalize s.x.t.cost i nt=cz at *
 have a1:IntKind.i64.wrap (dz+dr)=dz+dr:=IntWalk.i64_in _ (by omega)
 have a2:IntKind.i64.wrap (h * s.x.power)=h * s.x.power:=IntWalk.i64_in _ (by omega)
 have a3:IntKind.i64.wrap (dz+dr+h * s.x.power)=dz+dr+h * s.x.power:=IntWalk.i64_in _ (by omega)
 have a4:IntKind.i64.wrap (dz+dr+h * s.x.power+uz)=dz+dr+h * s.x.power+uz:=IntWalk.i64_in _ (by omega)
 have a5:IntKind.i64.wrap (dz+dr+h * s.x.power+uz - sz)=nt:=by rw [hnt]; exact IntWalk.i64_in _ (by omega)
 clear b1 b2 b3 b4 b5 b6 hnt
 have hD:=Lib.hid hD0
 have hS:=Lib.hid hS0
 have hO:=Lib.hid hO0
 have hU:=Lib.hid hU0
 clear hD0 hS0 hO0 hU0
 unfold placeV
 obtain ⟨W,hW⟩:∃ W,W=((w.alloc (.cells #[.int .i64 i,.int .i64 lv,.int .i64 tm] 87)).alloc (.cells #[.int .i64 c,.int .i64 h] 114)).alloc (.cells #[.int .i64 0,.int .i64 0,.int .i64 0] 87):=⟨_,rfl⟩
 rw [← hW] at hst0
 have hst:=Lib.hid hst0
 have hWH:=Lib.hid hW
 have HXW:=Lib.hid (hX.out.below (show Below w.heap.size w W by rw [hW]; exact below_al (below_al (below_al (Below.refl _ _)))))
 clear hst0 hW hX
 go_enter Tryz.func72,Tryz.ntmps72
 go_upto_region 1 with fail
 rw [← hWH.out]
 clear hWH
 have k6:=HXW.out.blk.cell 6
 have k7:=HXW.out.blk.cell 7
 have k8:=HXW.out.blk.cell 8
 have k9:=HXW.out.blk.cell 9
 have k10:=HXW.out.blk.cell 10
 have p1:=hst.out.a.cell 1
 have m0:=hst.out.m.cell 0
 simp [SM.cs] at k6 k7 k8 k9 k10 p1 m0
 refine wp_region_held_drew (S:=(fun w' => Below W.heap.size W w'∧w'.cell? ⟨g,6,none⟩=some (.int .i64 s.x.bat.cap)∧w'.cell? ⟨g,7,none⟩=some (.int .i64 s.x.bat.reserve)∧w'.cell? ⟨g,8,none⟩=some (.int .i64 s.x.bat.charge)∧w'.cell? ⟨g,9,none⟩=some (.int .i64 s.x.bat.discharge)∧w'.cell? ⟨g,10,none⟩=some (.int .i64 s.x.bat.eff)∧w'.cell? ⟨w.heap.size,1,none⟩=some (.int .i64 lv)∧w'.cell? ⟨w.heap.size+1,0,none⟩=some (.int .i64 c))) (by kernel_rfl) (⟨(Below.drew (Below.refl _ _)),k6,k7,k8,k9,k10,p1,m0⟩) (fun hHeld => ?_)
 refine tk 0 ?_
 try simp only [jA,jB,Act.put,jD,jE,jF]
 refine tk 1 ?_
 try simp only [jA,jB,jC,Act.put,jD,jE,jF]
 refine tk 2 ?_
 try simp only [jA,jB,jC,Act.put,jD,jE,jF]
 refine tk 3 ?_
 try simp only [jA,jB,jC,Act.put,jD,jE,jF]
 refine tk 4 ?_
 try simp only [jA,jB,jC,Act.put,jD,jE,jF]
 refine tk 5 ?_
 try simp only [jA,jB,jC,Act.put,jD,jE,jF]
 refine tk 6 ?_
 try simp only [jA,jB,jC,Act.put,jD,jE,jF]
 refine tk 7 ?_
 try simp only [jA,jB,jC,Act.put,jD,jE,jF]
 refine tk 8 ?_
 try simp only [jA,jB,jC,Act.put,jD,jE,jF]
 refine wpAnyH_ready (rs := [9]) (by kernel_rfl) (by simp) ?_
 refine AllReadyH.cons rfl (fun K hK => ?_) AllReadyH.nil
 have HKK:=Lib.hid hK
 clear hK
 go_simp
 refine (hc1.out _).mono ?_
 rintro e' w1 ⟨rfl,hbw1⟩
 have hBw1:=below_tr hHeld.1 hbw1
 go_wp2_with fail
 refine HKK.out _ _ (⟨hBw1,cell_below k6 hBw1,cell_below k7 hBw1,cell_below k8 hBw1,cell_below k9 hBw1,cell_below k10 hBw1,cell_below p1 hBw1,cell_below m0 hBw1⟩) (fun hH2 => ?_)
 clear HKK K
 replace hHeld:=hH2
 clear hH2
 try simp only [jA,jB,jC,Act.put,jD,jE,jF]
 refine tk 10 ?_
 try simp only [jA,jB,jC,Act.put,jD,jE,jF]
 refine tk 11 ?_
 try simp only [jA,jB,jC,Act.put,jD,jE,jF]
 refine tk 12 ?_
 try simp only [jA,jB,jC,Act.put,jD,jE,jF]
 refine tk 13 ?_
 try simp only [jA,jB,jC,Act.put,jD,jE,jF]
 refine tk 14 ?_
 try simp only [jA,jB,jC,Act.put,jD,jE,jF]
 refine tk 15 ?_
 try simp only [jA,jB,jC,Act.put,jD,jE,jF]
 refine tk 16 ?_
 try simp only [jA,jB,jC,Act.put,jD,jE,jF]
 refine wpAnyH_done (by kernel_rfl) ?_ _
 have HX1:=Lib.hid (HXW.out.below hBw1)
 have hst1:=Lib.hid (hst.out.below hBw1)
 clear hHeld hBw1 hbw1 hst HXW k6 k7 k8 k9 k10 p1 m0
 by_cases he:er=0
 ·have hne:(er != 0)=false:=by rw [he]; rfl
  go_upto_region 4 with fail
  clear hne
  obtain ⟨bo,oo,hAo,eo⟩:=hO.out _ HX1.out.pr
  have k5:=HX1.out.blk.cell 5
  have k11:=HX1.out.blk.cell 11
  have k12:=HX1.out.blk.cell 12
  have k13:=HX1.out.blk.cell 13
  have k14:=HX1.out.blk.cell 14
  have k15:=HX1.out.blk.cell 15
  have k16:=HX1.out.blk.cell 16
  have p0:=hst1.out.a.cell 0
  have p2:=hst1.out.a.cell 2
  have m1:=hst1.out.m.cell 1
  simp [SM.cs] at k5 k11 k12 k13 k14 k15 k16 p0 p2 m1
  rw [hAo] at k5
  refine wp_region_held_drew (S:=(fun w' => Below w1.heap.size w1 w'∧w'.cell? ⟨g,5,none⟩=some (.slice (some ⟨bo,oo,none⟩) s.x.outside.l.length s.x.outside.c)∧w'.cell? ⟨g,11,none⟩=some (.int .i64 s.x.gain)∧w'.cell? ⟨g,12,none⟩=some (.int .i64 s.x.loss)∧w'.cell? ⟨g,13,none⟩=some (.int .i64 s.x.steps)∧w'.cell? ⟨g,14,none⟩=some (.int .i64 s.x.power)∧w'.cell? ⟨g,15,none⟩=some (.slice s.x.low.A s.x.low.l.length s.x.low.c)∧w'.cell? ⟨g,16,none⟩=some (.slice s.x.high.A s.x.high.l.length s.x.high.c)∧w'.cell? ⟨w.heap.size,0,none⟩=some (.int .i64 i)∧w'.cell? ⟨w.heap.size,2,none⟩=some (.int .i64 tm)∧w'.cell? ⟨w.heap.size+1,1,none⟩=some (.int .i64 h)∧w'.cell? ⟨bo,oo+i,none⟩=some (.int .i64 oz))) (by kernel_rfl) (⟨(Below.drew (Below.refl _ _)),k5,k11,k12,k13,k14,k15,k16,p0,p2,m1,eo⟩) (fun hHeld => ?_)
  refine tk 0 ?_
  try simp only [jA,jB,Act.put,jD,jE,jF]
  refine tk 1 ?_
  try simp only [jA,jB,jC,Act.put,jD,jE,jF]
  refine tk 2 ?_
  try simp only [jA,jB,jC,Act.put,jD,jE,jF]
  refine tk 3 ?_
  try simp only [jA,jB,jC,Act.put,jD,jE,jF]
  refine tk 4 ?_
  try simp only [jA,jB,jC,Act.put,jD,jE,jF]
  refine tk 5 ?_
  try simp only [jA,jB,jC,Act.put,jD,jE,jF]
  refine tk 6 ?_
  try simp only [jA,jB,jC,Act.put,jD,jE,jF]
  refine tk 7 ?_
  try simp only [jA,jB,jC,Act.put,jD,jE,jF]
  refine tk 8 ?_
  try simp only [jA,jB,jC,Act.put,jD,jE,jF]
  refine tk 9 ?_
  try simp only [jA,jB,jC,Act.put,jD,jE,jF]
  refine tk 10 ?_
  try simp only [jA,jB,jC,Act.put,jD,jE,jF]
  refine tk 11 ?_
  try simp only [jA,jB,jC,Act.put,jD,jE,jF]
  refine tk 12 ?_
  try simp only [jA,jB,jC,Act.put,jD,jE,jF]
  refine tk 13 ?_
  try simp only [jA,jB,jC,Act.put,jD,jE,jF]
  refine tk 14 ?_
  try simp only [jA,jB,jC,Act.put,jD,jE,jF]
  refine tk 15 ?_
  try simp only [jA,jB,jC,Act.put,jD,jE,jF]
  refine tk 16 ?_
  try simp only [jA,jB,jC,Act.put,jD,jE,jF]
  refine tk 17 ?_
  try simp only [jA,jB,jC,Act.put,jD,jE,jF]
  refine wpAnyH_ready (rs := [18]) (by kernel_rfl) (by simp) ?_
  refine AllReadyH.cons rfl (fun K hK => ?_) AllReadyH.nil
  have HKK:=Lib.hid hK
  clear hK
  go_simp
  refine (hc2.out _ (HX1.out.pr.below hHeld.1)).mono ?_
  rintro e' w2 ⟨rfl,hbw2⟩
  have hBw2:=below_tr hHeld.1 hbw2
  go_wp2_with fail
  refine HKK.out _ _ (⟨hBw2,cell_below k5 hBw2,cell_below k11 hBw2,cell_below k12 hBw2,cell_below k13 hBw2,cell_below k14 hBw2,cell_below k15 hBw2,cell_below k16 hBw2,cell_below p0 hBw2,cell_below p2 hBw2,cell_below m1 hBw2,cell_below eo hBw2⟩) (fun hH2 => ?_)
  clear HKK K
  replace hHeld:=hH2
  clear hH2
  try simp only [jA,jB,jC,Act.put,jD,jE,jF]
  refine tk 19 ?_
  try simp only [jA,jB,jC,Act.put,jD,jE,jF]
  refine wpAnyH_done (by kernel_rfl) ?_ _
  have HX2:=Lib.hid (HX1.out.below hBw2)
  have hst2:=Lib.hid (hst1.out.below hBw2)
  clear hHeld hBw2 hbw2 hst1 HX1 hAo eo k5 k11 k12 k13 k14 k15 k16 p0 p2 m1
  go_upto_region 5 with fail
  obtain ⟨bd,od,hAd,ed⟩:=hD.out _ HX2.out.pr
  obtain ⟨bs,os,hAs,es⟩:=hS.out _ HX2.out.pr
  obtain ⟨bu,ou,hAu,eu⟩:=hU.out _ HX2.out.us
  have k3:=HX2.out.blk.cell 3
  have k4:=HX2.out.blk.cell 4
  have k14:=HX2.out.blk.cell 14
  have k20:=HX2.out.blk.cell 20
  have p0:=hst2.out.a.cell 0
  have m1:=hst2.out.m.cell 1
  simp [SM.cs] at k3 k4 k14 k20 p0 m1
  rw [hAs] at k3
  rw [hAd] at k4
  rw [hAu] at k20
  refine wp_region_held_drew (S:=(fun w' => Below w2.heap.size w2 w'∧w'.cell? ⟨g,3,none⟩=some (.slice (some ⟨bs,os,none⟩) s.x.solar.l.length s.x.solar.c)∧w'.cell? ⟨g,4,none⟩=some (.slice (some ⟨bd,od,none⟩) s.x.demand.l.length s.x.demand.c)∧w'.cell? ⟨g,14,none⟩=some (.int .i64 s.x.power)∧w'.cell? ⟨g,20,none⟩=some (.slice (some ⟨bu,ou,none⟩) s.u.l.length s.u.c)∧w'.cell? ⟨w.heap.size,0,none⟩=some (.int .i64 i)∧w'.cell? ⟨w.heap.size+1,1,none⟩=some (.int .i64 h)∧w'.cell? ⟨bd,od+i,none⟩=some (.int .i64 dz)∧w'.cell? ⟨bs,os+i,none⟩=some (.int .i64 sz)∧w'.cell? ⟨bu,ou+i,none⟩=some (.int .i64 uz))) (by kernel_rfl) (⟨(Below.drew (Below.refl _ _)),k3,k4,k14,k20,p0,m1,ed,es,eu⟩) (fun hHeld => ?_)
  refine tk 0 ?_
  try simp only [jA,jB,Act.put,jD,jE,jF]
  refine tk 1 ?_
  try simp only [jA,jB,jC,Act.put,jD,jE,jF]
  refine tk 2 ?_
  try simp only [jA,jB,jC,Act.put,jD,jE,jF]
  refine tk 3 ?_
  try simp only [jA,jB,jC,Act.put,jD,jE,jF]
  refine tk 4 ?_
  try simp only [jA,jB,jC,Act.put,jD,jE,jF]
  refine tk 5 ?_
  try simp only [jA,jB,jC,Act.put,jD,jE,jF]
  refine tk 6 ?_
  try simp only [jA,jB,jC,Act.put,jD,jE,jF]
  refine tk 7 ?_
  try simp only [jA,jB,jC,Act.put,jD,jE,jF]
  refine tk 8 ?_
  try simp only [jA,jB,jC,Act.put,jD,jE,jF]
  refine tk 9 ?_
  try simp only [jA,jB,jC,Act.put,jD,jE,jF]
  refine tk 10 ?_
  try simp only [jA,jB,jC,Act.put,jD,jE,jF]
  refine tk 11 ?_
  try simp only [jA,jB,jC,Act.put,jD,jE,jF]
  refine tk 12 ?_
  try simp only [jA,jB,jC,Act.put,jD,jE,jF]
  refine tk 13 ?_
  try simp only [jA,jB,jC,Act.put,jD,jE,jF]
  refine tk 14 ?_
  try simp only [jA,jB,jC,Act.put,jD,jE,jF]
  refine tk 15 ?_
  try simp only [jA,jB,jC,Act.put,jD,jE,jF]
  refine tk 16 ?_
  try simp only [jA,jB,jC,Act.put,jD,jE,jF]
  refine tk 17 ?_
  try simp only [jA,jB,jC,Act.put,jD,jE,jF]
  refine tk 18 ?_
  try simp only [jA,jB,jC,Act.put,jD,jE,jF]
  refine tk 19 ?_
  try simp only [jA,jB,jC,Act.put,jD,jE,jF]
  refine tk 20 ?_
  try simp only [jA,jB,jC,Act.put,jD,jE,jF]
  refine tk 21 ?_
  try simp only [jA,jB,jC,Act.put,jD,jE,jF]
  refine tk 22 ?_
  try simp only [jA,jB,jC,Act.put,jD,jE,jF]
  refine tk 23 ?_
  try simp only [jA,jB,jC,Act.put,jD,jE,jF]
  refine tk 24 ?_
  try simp only [jA,jB,jC,Act.put,jD,jE,jF]
  refine tk 25 ?_
  try simp only [jA,jB,jC,Act.put,jD,jE,jF]
  refine tk 26 ?_
  try simp only [jA,jB,jC,Act.put,jD,jE,jF]
  refine tk 27 ?_
  try simp only [jA,jB,jC,Act.put,jD,jE,jF]
  refine tk 28 ?_
  try simp only [jA,jB,jC,Act.put,jD,jE,jF]
  refine tk 29 ?_
  try simp only [jA,jB,jC,Act.put,jD,jE,jF]
  refine tk 30 ?_
  try simp only [jA,jB,jC,Act.put,jD,jE,jF]
  refine tk 31 ?_
  try simp only [jA,jB,jC,Act.put,jD,jE,jF]
  refine tk 32 ?_
  try simp only [jA,jB,jC,Act.put,jD,jE,jF]
  refine tk 33 ?_
  try simp only [jA,jB,jC,Act.put,jD,jE,jF]
  refine tk 34 ?_
  try simp only [jA,jB,jC,Act.put,jD,jE,jF]
  refine tk 35 ?_
  try simp only [jA,jB,jC,Act.put,jD,jE,jF]
  refine tk 36 ?_
  try simp only [jA,jB,jC,Act.put,jD,jE,jF]
  refine tk 37 ?_
  try simp only [jA,jB,jC,Act.put,jD,jE,jF]
  refine tk 38 ?_
  try simp only [jA,jB,jC,Act.put,jD,jE,jF]
  refine tk 39 ?_
  try simp only [jA,jB,jC,Act.put,jD,jE,jF]
  refine tk 40 ?_
  try simp only [jA,jB,jC,Act.put,jD,jE,jF]
  refine wpAnyH_done (by kernel_rfl) ?_ _
  have hBd:Below w2.heap.size w2 w2.drew:=Below.drew (Below.refl _ _)
  have HX3:=Lib.hid (HX2.out.below hBd)
  have hst3:=Lib.hid (hst2.out.below hBd)
  generalize w2.drew=w3 at *
  clear hHeld hBd HX2 hst2 hAd hAs hAu ed es eu k3 k4 k14 k20 p0 m1
  go_upto_region 6 with fail
  have k0:=HX3.out.blk.cell 0
  have k1:=HX3.out.blk.cell 1
  have k2:=HX3.out.blk.cell 2
  have k11:=HX3.out.blk.cell 11
  have k12:=HX3.out.blk.cell 12
  have k13:=HX3.out.blk.cell 13
  have k14:=HX3.out.blk.cell 14
  have k15:=HX3.out.blk.cell 15
  have k16:=HX3.out.blk.cell 16
  have p0:=hst3.out.a.cell 0
  simp [SM.cs] at k0 k1 k2 k11 k12 k13 k14 k15 k16 p0
  cases okb
  ·refine wp_region_held_drew (S:=(fun w' => Below w3.heap.size w3 w'∧w'.cell? ⟨g,0,none⟩=some (.slice s.x.buy.A s.x.buy.l.length s.x.buy.c)∧w'.cell? ⟨g,1,none⟩=some (.slice s.x.sell.A s.x.sell.l.length s.x.sell.c)∧w'.cell? ⟨g,2,none⟩=some (.int .i64 s.x.fuse)∧w'.cell? ⟨g,11,none⟩=some (.int .i64 s.x.gain)∧w'.cell? ⟨g,12,none⟩=some (.int .i64 s.x.loss)∧w'.cell? ⟨g,13,none⟩=some (.int .i64 s.x.steps)∧w'.cell? ⟨g,14,none⟩=some (.int .i64 s.x.power)∧w'.cell? ⟨g,15,none⟩=some (.slice s.x.low.A s.x.low.l.length s.x.low.c)∧w'.cell? ⟨g,16,none⟩=some (.slice s.x.high.A s.x.high.l.length s.x.high.c)∧w'.cell? ⟨w.heap.size,0,none⟩=some (.int .i64 i))) (by kernel_rfl) (⟨(Below.drew (Below.refl _ _)),k0,k1,k2,k11,k12,k13,k14,k15,k16,p0⟩) (fun hHeld => ?_)
   refine tk 0 ?_
   try simp only [jA,jB,Act.put,jD,jE,jF]
   refine tk 1 ?_
   try simp only [jA,jB,jC,Act.put,jD,jE,jF]
   refine tk 2 ?_
   try simp only [jA,jB,jC,Act.put,jD,jE,jF]
   refine tk 3 ?_
   try simp only [jA,jB,jC,Act.put,jD,jE,jF]
   refine tk 4 ?_
   try simp only [jA,jB,jC,Act.put,jD,jE,jF]
   refine tk 5 ?_
   try simp only [jA,jB,jC,Act.put,jD,jE,jF]
   refine tk 6 ?_
   try simp only [jA,jB,jC,Act.put,jD,jE,jF]
   refine tk 7 ?_
   try simp only [jA,jB,jC,Act.put,jD,jE,jF]
   refine wpAnyH_ready (rs := [8]) (by kernel_rfl) (by simp) ?_
   refine AllReadyH.cons rfl (fun K hK => ?_) AllReadyH.nil
   have HKK:=Lib.hid hK
   clear hK
   go_simp
   refine (hc3.out _ (HX3.out.pr.below hHeld.1)).mono ?_
   rintro e' w4 ⟨rfl,hbw4⟩
   have hBw4:=below_tr hHeld.1 hbw4
   go_wp2_with fail
   refine HKK.out _ _ (⟨hBw4,cell_below k0 hBw4,cell_below k1 hBw4,cell_below k2 hBw4,cell_below k11 hBw4,cell_below k12 hBw4,cell_below k13 hBw4,cell_below k14 hBw4,cell_below k15 hBw4,cell_below k16 hBw4,cell_below p0 hBw4⟩) (fun hH2 => ?_)
   clear HKK K
   replace hHeld:=hH2
   clear hH2
   try simp only [jA,jB,jC,Act.put,jD,jE,jF]
   refine tk 9 ?_
   try simp only [jA,jB,jC,Act.put,jD,jE,jF]
   refine tk 10 ?_
   try simp only [jA,jB,jC,Act.put,jD,jE,jF]
   refine tu 11 ?_
   try simp only [jA,jB,jC,Act.put,jD,jE,jF]
   refine tu 12 ?_
   try simp only [jA,jB,jC,Act.put,jD,jE,jF]
   refine tu 13 ?_
   try simp only [jA,jB,jC,Act.put,jD,jE,jF]
   refine tu 14 ?_
   try simp only [jA,jB,jC,Act.put,jD,jE,jF]
   refine tu 15 ?_
   try simp only [jA,jB,jC,Act.put,jD,jE,jF]
   refine tu 16 ?_
   try simp only [jA,jB,jC,Act.put,jD,jE,jF]
   refine tu 17 ?_
   try simp only [jA,jB,jC,Act.put,jD,jE,jF]
   refine tu 18 ?_
   try simp only [jA,jB,jC,Act.put,jD,jE,jF]
   refine tu 19 ?_
   try simp only [jA,jB,jC,Act.put,jD,jE,jF]
   refine tu 20 ?_
   try simp only [jA,jB,jC,Act.put,jD,jE,jF]
   refine tk 21 ?_
   try simp only [jA,jB,jC,Act.put,jD,jE,jF]
   refine wpAnyH_done (by kernel_rfl) ?_ _
   have HX4:=Lib.hid (HX3.out.below hBw4)
   have hst4:=Lib.hid (hst3.out.below hBw4)
   clear hHeld hBw4 hbw4 hst3 HX3 k0 k1 k2 k11 k12 k13 k14 k15 k16 p0
   have hz:mv=none:=by rw [HMV.out,if_neg (by simp [he]),if_neg (by simp)]
   have z0:=hst4.out.r.cell 0
   have z1:=hst4.out.r.cell 1
   have z2:=hst4.out.r.cell 2
   have f0:=hst4.out.r.frozen 0
   have f1:=hst4.out.r.frozen 1
   have f2:=hst4.out.r.frozen 2
   simp at z0 z1 z2
   go_wp2_with fail
   refine bodyPost_ret (v := .tuple #[.agg #[.int .i64 0,.int .i64 0,.int .i64 0],.int .i64 0,.bool false]) (by simp [results,Tryz.results72,go_sem,z0,z1,z2]) rfl ?_
   exact ⟨by rw [hz]; rfl,((hst4.out.bel.setCell (by show _ ≤ w.heap.size+2; omega) _).setCell (by show _ ≤ w.heap.size+2; omega) _).setCell (by show _ ≤ w.heap.size+2; omega) _⟩
  ·cases fb
   ·refine wp_region_held_drew (S:=(fun w' => Below w3.heap.size w3 w'∧w'.cell? ⟨g,0,none⟩=some (.slice s.x.buy.A s.x.buy.l.length s.x.buy.c)∧w'.cell? ⟨g,1,none⟩=some (.slice s.x.sell.A s.x.sell.l.length s.x.sell.c)∧w'.cell? ⟨g,2,none⟩=some (.int .i64 s.x.fuse)∧w'.cell? ⟨g,11,none⟩=some (.int .i64 s.x.gain)∧w'.cell? ⟨g,12,none⟩=some (.int .i64 s.x.loss)∧w'.cell? ⟨g,13,none⟩=some (.int .i64 s.x.steps)∧w'.cell? ⟨g,14,none⟩=some (.int .i64 s.x.power)∧w'.cell? ⟨g,15,none⟩=some (.slice s.x.low.A s.x.low.l.length s.x.low.c)∧w'.cell? ⟨g,16,none⟩=some (.slice s.x.high.A s.x.high.l.length s.x.high.c)∧w'.cell? ⟨w.heap.size,0,none⟩=some (.int .i64 i))) (by kernel_rfl) (⟨(Below.drew (Below.refl _ _)),k0,k1,k2,k11,k12,k13,k14,k15,k16,p0⟩) (fun hHeld => ?_)
    refine tk 0 ?_
    try simp only [jA,jB,Act.put,jD,jE,jF]
    refine tk 1 ?_
    try simp only [jA,jB,jC,Act.put,jD,jE,jF]
    refine tk 2 ?_
    try simp only [jA,jB,jC,Act.put,jD,jE,jF]
    refine tk 3 ?_
    try simp only [jA,jB,jC,Act.put,jD,jE,jF]
    refine tk 4 ?_
    try simp only [jA,jB,jC,Act.put,jD,jE,jF]
    refine tk 5 ?_
    try simp only [jA,jB,jC,Act.put,jD,jE,jF]
    refine tk 6 ?_
    try simp only [jA,jB,jC,Act.put,jD,jE,jF]
    refine tk 7 ?_
    try simp only [jA,jB,jC,Act.put,jD,jE,jF]
    refine wpAnyH_ready (rs := [8]) (by kernel_rfl) (by simp) ?_
    refine AllReadyH.cons rfl (fun K hK => ?_) AllReadyH.nil
    have HKK:=Lib.hid hK
    clear hK
    go_simp
    refine (hc3.out _ (HX3.out.pr.below hHeld.1)).mono ?_
    rintro e' w4 ⟨rfl,hbw4⟩
    have hBw4:=below_tr hHeld.1 hbw4
    go_wp2_with fail
    refine HKK.out _ _ (⟨hBw4,cell_below k0 hBw4,cell_below k1 hBw4,cell_below k2 hBw4,cell_below k11 hBw4,cell_below k12 hBw4,cell_below k13 hBw4,cell_below k14 hBw4,cell_below k15 hBw4,cell_below k16 hBw4,cell_below p0 hBw4⟩) (fun hH2 => ?_)
    clear HKK K
    replace hHeld:=hH2
    clear hH2
    try simp only [jA,jB,jC,Act.put,jD,jE,jF]
    refine tk 9 ?_
    try simp only [jA,jB,jC,Act.put,jD,jE,jF]
    refine tk 10 ?_
    try simp only [jA,jB,jC,Act.put,jD,jE,jF]
    refine tk 11 ?_
    try simp only [jA,jB,jC,Act.put,jD,jE,jF]
    refine tk 12 ?_
    try simp only [jA,jB,jC,Act.put,jD,jE,jF]
    refine tk 13 ?_
    try simp only [jA,jB,jC,Act.put,jD,jE,jF]
    refine tk 14 ?_
    try simp only [jA,jB,jC,Act.put,jD,jE,jF]
    refine tk 15 ?_
    try simp only [jA,jB,jC,Act.put,jD,jE,jF]
    refine tk 16 ?_
    try simp only [jA,jB,jC,Act.put,jD,jE,jF]
    refine tk 17 ?_
    try simp only [jA,jB,jC,Act.put,jD,jE,jF]
    refine tk 18 ?_
    try simp only [jA,jB,jC,Act.put,jD,jE,jF]
    refine wpAnyH_ready (rs := [19]) (by kernel_rfl) (by simp) ?_
    refine AllReadyH.cons rfl (fun K hK => ?_) AllReadyH.nil
    have HKK:=Lib.hid hK
    clear hK
    go_simp
    refine (hc4.out _ (HX3.out.pr.below hHeld.1)).mono ?_
    rintro e' w5 ⟨rfl,hbw5⟩
    have hBw5:=below_tr hHeld.1 hbw5
    go_wp2_with fail
    refine HKK.out _ _ (⟨hBw5,cell_below k0 hBw5,cell_below k1 hBw5,cell_below k2 hBw5,cell_below k11 hBw5,cell_below k12 hBw5,cell_below k13 hBw5,cell_below k14 hBw5,cell_below k15 hBw5,cell_below k16 hBw5,cell_below p0 hBw5⟩) (fun hH2 => ?_)
    clear HKK K
    replace hHeld:=hH2
    clear hH2
    try simp only [jA,jB,jC,Act.put,jD,jE,jF]
    refine tk 20 ?_
    try simp only [jA,jB,jC,Act.put,jD,jE,jF]
    refine tk 21 ?_
    try simp only [jA,jB,jC,Act.put,jD,jE,jF]
    refine wpAnyH_done (by kernel_rfl) ?_ _
    have HX4:=Lib.hid (HX3.out.below hBw5)
    have hst4:=Lib.hid (hst3.out.below hBw5)
    clear hHeld hBw4 hbw4 hBw5 hbw5 hst3 HX3 k0 k1 k2 k11 k12 k13 k14 k15 k16 p0
    have hz:mv=none:=by rw [HMV.out,if_neg (by simp [he])]; simp
    have z0:=hst4.out.r.cell 0
    have z1:=hst4.out.r.cell 1
    have z2:=hst4.out.r.cell 2
    have f0:=hst4.out.r.frozen 0
    have f1:=hst4.out.r.frozen 1
    have f2:=hst4.out.r.frozen 2
    simp at z0 z1 z2
    go_wp2_with fail
    refine bodyPost_ret (v := .tuple #[.agg #[.int .i64 0,.int .i64 0,.int .i64 0],.int .i64 0,.bool false]) (by simp [results,Tryz.results72,go_sem,z0,z1,z2]) rfl ?_
    exact ⟨by rw [hz]; rfl,((hst4.out.bel.setCell (by show _ ≤ w.heap.size+2; omega) _).setCell (by show _ ≤ w.heap.size+2; omega) _).setCell (by show _ ≤ w.heap.size+2; omega) _⟩
   ·refine wp_region_held_drew (S:=(fun w' => Below w3.heap.size w3 w'∧w'.cell? ⟨g,0,none⟩=some (.slice s.x.buy.A s.x.buy.l.length s.x.buy.c)∧w'.cell? ⟨g,1,none⟩=some (.slice s.x.sell.A s.x.sell.l.length s.x.sell.c)∧w'.cell? ⟨g,2,none⟩=some (.int .i64 s.x.fuse)∧w'.cell? ⟨g,11,none⟩=some (.int .i64 s.x.gain)∧w'.cell? ⟨g,12,none⟩=some (.int .i64 s.x.loss)∧w'.cell? ⟨g,13,none⟩=some (.int .i64 s.x.steps)∧w'.cell? ⟨g,14,none⟩=some (.int .i64 s.x.power)∧w'.cell? ⟨g,15,none⟩=some (.slice s.x.low.A s.x.low.l.length s.x.low.c)∧w'.cell? ⟨g,16,none⟩=some (.slice s.x.high.A s.x.high.l.length s.x.high.c)∧w'.cell? ⟨w.heap.size,0,none⟩=some (.int .i64 i))) (by kernel_rfl) (⟨(Below.drew (Below.refl _ _)),k0,k1,k2,k11,k12,k13,k14,k15,k16,p0⟩) (fun hHeld => ?_)
    refine tk 0 ?_
    try simp only [jA,jB,Act.put,jD,jE,jF]
    refine tk 1 ?_
    try simp only [jA,jB,jC,Act.put,jD,jE,jF]
    refine tk 2 ?_
    try simp only [jA,jB,jC,Act.put,jD,jE,jF]
    refine tk 3 ?_
    try simp only [jA,jB,jC,Act.put,jD,jE,jF]
    refine tk 4 ?_
    try simp only [jA,jB,jC,Act.put,jD,jE,jF]
    refine tk 5 ?_
    try simp only [jA,jB,jC,Act.put,jD,jE,jF]
    refine tk 6 ?_
    try simp only [jA,jB,jC,Act.put,jD,jE,jF]
    refine tk 7 ?_
    try simp only [jA,jB,jC,Act.put,jD,jE,jF]
    refine wpAnyH_ready (rs := [8]) (by kernel_rfl) (by simp) ?_
    refine AllReadyH.cons rfl (fun K hK => ?_) AllReadyH.nil
    have HKK:=Lib.hid hK
    clear hK
    go_simp
    refine (hc3.out _ (HX3.out.pr.below hHeld.1)).mono ?_
    rintro e' w4 ⟨rfl,hbw4⟩
    have hBw4:=below_tr hHeld.1 hbw4
    go_wp2_with fail
    refine HKK.out _ _ (⟨hBw4,cell_below k0 hBw4,cell_below k1 hBw4,cell_below k2 hBw4,cell_below k11 hBw4,cell_below k12 hBw4,cell_below k13 hBw4,cell_below k14 hBw4,cell_below k15 hBw4,cell_below k16 hBw4,cell_below p0 hBw4⟩) (fun hH2 => ?_)
    clear HKK K
    replace hHeld:=hH2
    clear hH2
    try simp only [jA,jB,jC,Act.put,jD,jE,jF]
    refine tk 9 ?_
    try simp only [jA,jB,jC,Act.put,jD,jE,jF]
    refine tk 10 ?_
    try simp only [jA,jB,jC,Act.put,jD,jE,jF]
    refine tk 11 ?_
    try simp only [jA,jB,jC,Act.put,jD,jE,jF]
    refine tk 12 ?_
    try simp only [jA,jB,jC,Act.put,jD,jE,jF]
    refine tk 13 ?_
    try simp only [jA,jB,jC,Act.put,jD,jE,jF]
    refine tk 14 ?_
    try simp only [jA,jB,jC,Act.put,jD,jE,jF]
    refine tk 15 ?_
    try simp only [jA,jB,jC,Act.put,jD,jE,jF]
    refine tk 16 ?_
    try simp only [jA,jB,jC,Act.put,jD,jE,jF]
    refine tk 17 ?_
    try simp only [jA,jB,jC,Act.put,jD,jE,jF]
    refine tk 18 ?_
    try simp only [jA,jB,jC,Act.put,jD,jE,jF]
    refine wpAnyH_ready (rs := [19]) (by kernel_rfl) (by simp) ?_
    refine AllReadyH.cons rfl (fun K hK => ?_) AllReadyH.nil
    have HKK:=Lib.hid hK
    clear hK
    go_simp
    refine (hc4.out _ (HX3.out.pr.below hHeld.1)).mono ?_
    rintro e' w5 ⟨rfl,hbw5⟩
    have hBw5:=below_tr hHeld.1 hbw5
    go_wp2_with fail
    refine HKK.out _ _ (⟨hBw5,cell_below k0 hBw5,cell_below k1 hBw5,cell_below k2 hBw5,cell_below k11 hBw5,cell_below k12 hBw5,cell_below k13 hBw5,cell_below k14 hBw5,cell_below k15 hBw5,cell_below k16 hBw5,cell_below p0 hBw5⟩) (fun hH2 => ?_)
    clear HKK K
    replace hHeld:=hH2
    clear hH2
    try simp only [jA,jB,jC,Act.put,jD,jE,jF]
    refine tk 20 ?_
    try simp only [jA,jB,jC,Act.put,jD,jE,jF]
    refine tk 21 ?_
    try simp only [jA,jB,jC,Act.put,jD,jE,jF]
    refine wpAnyH_done (by kernel_rfl) ?_ _
    have HX4:=Lib.hid (HX3.out.below hBw5)
    have hst4:=Lib.hid (hst3.out.below hBw5)
    clear hHeld hBw4 hbw4 hBw5 hbw5 hst3 HX3 k0 k1 k2 k11 k12 k13 k14 k15 k16 p0
    have hz:mv=some (nl,tn,cz):=by rw [HMV.out,if_neg (by simp [he])]; simp
    go_upto_region 8 with fail
    have k0:=HX4.out.blk.cell 0
    have k1:=HX4.out.blk.cell 1
    have k2:=HX4.out.blk.cell 2
    have p0:=hst4.out.a.cell 0
    simp [SM.cs] at k0 k1 k2 p0
    refine wp_region_held_drew (S:=(fun w' => w'.cell? ⟨g,0,none⟩=some (.slice s.x.buy.A s.x.buy.l.length s.x.buy.c)∧w'.cell? ⟨g,1,none⟩=some (.slice s.x.sell.A s.x.sell.l.length s.x.sell.c)∧w'.cell? ⟨g,2,none⟩=some (.int .i64 s.x.fuse)∧w'.cell? ⟨w.heap.size,0,none⟩=some (.int .i64 i))) (by kernel_rfl) (⟨k0,k1,k2,p0⟩) (fun hHeld => ?_)
    refine tk 0 ?_
    try simp only [jA,jB,Act.put,jD,jE,jF]
    refine tk 1 ?_
    try simp only [jA,jB,jC,Act.put,jD,jE,jF]
    refine tk 2 ?_
    try simp only [jA,jB,jC,Act.put,jD,jE,jF]
    refine tk 3 ?_
    try simp only [jA,jB,jC,Act.put,jD,jE,jF]
    refine tk 4 ?_
    try simp only [jA,jB,jC,Act.put,jD,jE,jF]
    refine tk 5 ?_
    try simp only [jA,jB,jC,Act.put,jD,jE,jF]
    refine tk 6 ?_
    try simp only [jA,jB,jC,Act.put,jD,jE,jF]
    refine tk 7 ?_
    try simp only [jA,jB,jC,Act.put,jD,jE,jF]
    refine tk 8 ?_
    try simp only [jA,jB,jC,Act.put,jD,jE,jF]
    refine tk 9 ?_
    try simp only [jA,jB,jC,Act.put,jD,jE,jF]
    refine tk 10 ?_
    try simp only [jA,jB,jC,Act.put,jD,jE,jF]
    refine tk 11 ?_
    try simp only [jA,jB,jC,Act.put,jD,jE,jF]
    refine tk 12 ?_
    try simp only [jA,jB,jC,Act.put,jD,jE,jF]
    refine tk 13 ?_
    try simp only [jA,jB,jC,Act.put,jD,jE,jF]
    refine wpAnyH_ready (rs := [14]) (by kernel_rfl) (by simp) ?_
    refine AllReadyH.cons rfl (fun K hK => ?_) AllReadyH.nil
    have HKK:=Lib.hid hK
    clear hK
    go_simp
    refine (hc5.out _ (HX4.out.pr.below (Below.drew (Below.refl _ _)))).mono ?_
    rintro e' w6 ⟨rfl,hbw6⟩
    have hBw6:=below_tr (Below.drew (Below.refl _ _)) hbw6
    go_wp2_with fail
    refine HKK.out _ _ (⟨cell_below k0 hBw6,cell_below k1 hBw6,cell_below k2 hBw6,cell_below p0 hBw6⟩) (fun hH2 => ?_)
    clear HKK K
    replace hHeld:=hH2
    clear hH2
    try simp only [jA,jB,jC,Act.put,jD,jE,jF]
    have HX5:=Lib.hid (HX4.out.below hBw6)
    have hst5:=Lib.hid (hst4.out.below hBw6)
    have z0:=hst5.out.r.cell 0
    have z1:=hst5.out.r.cell 1
    have z2:=hst5.out.r.cell 2
    have f0:=hst5.out.r.frozen 0
    have f1:=hst5.out.r.frozen 1
    have f2:=hst5.out.r.frozen 2
    simp at z0 z1 z2
    have gn:g ≠ w.heap.size+2:=by have:=HGL.out; omega
    have pn:w.heap.size ≠ w.heap.size+2:=by omega
    refine wpAnyH_ready (rs := [15]) (by kernel_rfl) (by simp) ?_
    refine AllReadyH.cons rfl (fun K hK => ?_) AllReadyH.nil
    have HKK:=Lib.hid hK
    clear hK
    go_simp
    refine HKK.out _ _ (⟨cell_setG (cell_setG (cell_setG (cell_below k0 hBw6) gn) gn) gn,cell_setG (cell_setG (cell_setG (cell_below k1 hBw6) gn) gn) gn,cell_setG (cell_setG (cell_setG (cell_below k2 hBw6) gn) gn) gn,cell_setG (cell_setG (cell_setG (cell_below p0 hBw6) pn) pn) pn⟩) (fun hH2 => ?_)
    clear HKK K
    replace hHeld:=hH2
    clear hH2
    try simp only [jA,jB,jC,Act.put,jD,jE,jF]
    refine tk 16 ?_
    try simp only [jA,jB,jC,Act.put,jD,jE,jF]
    refine tk 17 ?_
    try simp only [jA,jB,jC,Act.put,jD,jE,jF]
    refine wpAnyH_done (by kernel_rfl) ?_ _
    go_wp2_with fail
    refine bodyPost_ret (v := .tuple #[.agg #[.int .i64 ((i:Int)+1),.int .i64 nl,.int .i64 tn],.int .i64 cz,.bool true]) (by simp [results,Tryz.results72,go_sem,z0,z1,z2]) rfl ?_
    exact ⟨by rw [hz]; rfl,((hst5.out.bel.setCell (by show _ ≤ w.heap.size+2; omega) _).setCell (by show _ ≤ w.heap.size+2; omega) _).setCell (by show _ ≤ w.heap.size+2; omega) _⟩
 ·have hz:mv=none:=by rw [HMV.out,if_pos he]
  have hne:(er != 0)=true:=by simpa using he
  have z0:=hst1.out.r.cell 0
  have z1:=hst1.out.r.cell 1
  have z2:=hst1.out.r.cell 2
  have f0:=hst1.out.r.frozen 0
  have f1:=hst1.out.r.frozen 1
  have f2:=hst1.out.r.frozen 2
  simp at z0 z1 z2
  go_wp2_with fail
  refine bodyPost_ret (v := .tuple #[.agg #[.int .i64 0,.int .i64 0,.int .i64 0],.int .i64 0,.bool false]) (by simp [results,Tryz.results72,go_sem,z0,z1,z2]) rfl ?_
  exact ⟨by rw [hz]; rfl,((hst1.out.bel.setCell (by show _ ≤ w.heap.size+2; omega) _).setCell (by show _ ≤ w.heap.size+2; omega) _).setCell (by show _ ≤ w.heap.size+2; omega) _⟩
end Go.Proofs.YtnppngaabfhkpaaGreat
