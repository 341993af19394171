/-
  The walks of layer 43 (optimum), part 27: starts of the reference.
-/
import Derived.Test.YtnppngaabfhkpaaGreatEU26
namespace Go.Proofs.YtnppngaabfhkpaaGreat
open Go.RowKit
attribute [local go_sem ↓] Go.wp_at_zero Go.wp_at_succ
section
variable {P:Program} {ops:Array Oper} {o:Oper} {a:Act} {W:World} {Q:Exit→Act→World→Prop} {K:Act→World→Prop} {E:Prop}
theorem step_store_blk (hw:Region.wanted o (yielded ops a.tmps)=true) (ty:TypeId) (s y:Operand) (ho:o.op = .store ty s y) (g:Nat) (hx:a.eval s = .pointer (some ⟨g,0,none⟩)) (vs:Array Value) (hy:a.eval y = .agg vs)
  (hi:(P.info? ty).map (·.size)=some vs.size) (h1:vs.all (·.oneCell')=true) {t:TypeId} {cs:Array Value} (h:Blk W g t cs) (hsz:vs.size=cs.size)
  (hk:∀ w',Blk w' g t vs→W.grownBy w' (some g)→K (a.put o.dst undef) w'):if Region.wanted o (yielded ops a.tmps)=true then Oper.wp P o a W K Q else E:=by
 rw [if_pos hw]
 have ht:=blk_there h
 rw [← hsz] at ht
 exact wp_store_mid ty s y ho g 0 vs hx hy ht hi h1 (hk _ (blk_store h hsz) (grown_setCells _ _ _ _ ⟨rfl,rfl,rfl,Nat.le_refl _,fun _ _ _ => rfl⟩))
end
theorem Ld.starts_bd {r:Ld} {n:Int}:∀ s ∈ r.starts n, -9223372036854775808 ≤ s∧s ≤ 9223372036854775807:=by
 intro s hs
 have h:r.fit s n=true:=by rw [Ld.fit_mem,decide_eq_true_iff]; exact hs
 simp only [Ld.fit,Bool.and_eq_true,decide_eq_true_iff] at h
 have g:=Ld.good h.1
 have g1:=g.e0; have g2:=g.l1; have g3:=g.n1
 omega
def PnM.begin (A:Option Addr) (c:Nat) (l:List Int):PnM:=⟨⟨none,0, []⟩,⟨none,0, []⟩,⟨A,c,l⟩⟩
theorem PnM.begin_fit {A:Option Addr} {c:Nat} {l:List Int} {s:Int} (h:∀ z ∈ l, -9223372036854775808 ≤ z∧z ≤ 9223372036854775807) (h1 : -9223372036854775808 ≤ s∧s ≤ 9223372036854775807) (hc:(l ++ [s]).length ≤ c):(PnM.begin A c (l ++ [s])).Fit:=by
 refine ⟨Nat.le_refl _,hc,?_,by simp [PnM.begin]⟩
 intro z hz
 rcases List.mem_append.1 hz with hz | hz
 ·exact h z hz
 ·rw [List.mem_singleton] at hz; rw [hz]; exact h1
theorem PnM.begin_r {W:World} {A:Option Addr} {c:Nat} {l:List Int} (h:RInts W A l):RPn W (PnM.begin A c l):=⟨RInts.nil,RInts.nil,h⟩
theorem PnM.begin_away {A:Option Addr} {c B:Nat} {l:List Int} (h:∀ ad,A=some ad→B ≤ ad.block) {g:Nat} (hg:g+3 ≤ B):PnAway (PnM.begin A c l) g:=⟨.inl rfl,.inl rfl,.inr fun ad e => .inr (Nat.le_trans hg (h ad e))⟩
set_option maxRecDepth 100000 in
set_option maxHeartbeats 64000000 in
theorem rstarts_rec (x:PbM) (hF0:x.Fit) (hc:x.p.chk=0) (r:Nat):∀ (V:Pn→Prop) (b y:PnM) (f:Bool) (w:World) (_hP0:RPb w x) (_hB0:RPn w b) (_hBf:b.Fit) (_hQ0:RPn w y) (_hG0:y.Fit) (_hs:x.p.seen V f b.x) (_hl1:y.charge.l = []) (_hl2:y.heat.l = []) (_hr:x.loads.length=y.start.l.length+r),
  Calls Tryz.prog 49 #[.agg (SR.cs x b f),y.v] w (SOut x (Vs V y.start.l) b y w):=by
 have hld4:x.loads.length ≤ 4:=by
  have h1:=Pb.loads4 (Pb.good hc)
  have h2:x.p.loads.length=x.loads.length:=by simp [PbM.p]
  omega
 have hpl:x.p.loads.length=x.loads.length:=by simp [PbM.p]
 induction r with
 | zero =>
  intro V b y f w hP0 hB0 hBf hQ0 hG0 hs hl1 hl2 hr
  have hsl:=Lib.hid (fun W (q:RPb W x) (q1:RPn W b) (q2:RPn W y) => slots_any x hF0 hc x.buy.l.length V b y f W q q1 hBf q2 hG0 hs (by rw [hl1,hl2]) (by rw [hl1]; simp) (by rw [hl2]; intro k hk; simp at hk))
  have HS3:=Lib.hid (fun (b':PnM) (f':Bool) (q:x.p.seen (Ve V y.x) f' b'.x) => see_s3 (p:=x.p) (x:=y.x) (show y.start.l.length=x.p.loads.length by rw [hpl]; omega) hl1 hl2 q)
  have hP:=Lib.hid hP0
  have hB:=Lib.hid hB0
  have hQ:=Lib.hid hQ0
  have hG:=Lib.hid hG0
  have hF:=Lib.hid hF0
  have hBF:=Lib.hid hBf
  have hst0:=SB.start x b y f w
  simp only [SR.cs,PnM.v]
  obtain ⟨W,hW⟩:∃ W,W=((w.alloc (.cells #[.slice x.buy.A x.buy.l.length x.buy.c,.slice x.sell.A x.sell.l.length x.sell.c,.int .i64 x.fuse,.slice x.solar.A x.solar.l.length x.solar.c,.slice x.demand.A x.demand.l.length x.demand.c,.slice x.outside.A x.outside.l.length x.outside.c,.int .i64 x.bat.cap,.int .i64 x.bat.reserve,.int .i64 x.bat.charge,.int .i64 x.bat.discharge,.int .i64 x.bat.eff,.int .i64 x.gain,.int .i64 x.loss,.int .i64 x.steps,.int .i64 x.power,.slice x.low.A x.low.l.length x.low.c,.slice x.high.A x.high.l.length x.high.c,.slice x.LA x.loads.length x.lc,.int .i64 x.level,.int .i64 x.temp,.slice b.charge.A b.charge.l.length b.charge.c,.slice b.heat.A b.heat.l.length b.heat.c,.slice b.start.A b.start.l.length b.start.c,.bool f] 92)).alloc (.cells #[.slice y.charge.A y.charge.l.length y.charge.c,.slice y.heat.A y.heat.l.length y.heat.c,.slice y.start.A y.start.l.length y.start.c] 48)).alloc (.cells #[.slice none 0 0,.slice none 0 0,.int .i64 0,.slice none 0 0,.slice none 0 0,.slice none 0 0,.int .i64 0,.int .i64 0,.int .i64 0,.int .i64 0,.int .i64 0,.int .i64 0,.int .i64 0,.int .i64 0,.int .i64 0,.slice none 0 0,.slice none 0 0,.slice none 0 0,.int .i64 0,.int .i64 0,.slice none 0 0,.slice none 0 0,.slice none 0 0,.bool false] 92):=⟨_,rfl⟩
  rw [show ((w.alloc (.cells (SR.cs x b f) 92)).alloc (.cells y.cs 48)).alloc (.cells SRz 92)=W from hW.symm] at hst0
  have HX0:Hid (SB x b y f w W):=hst0
  have hWH:=Lib.hid hW
  have hkq:((y.start.l.length:Int) == (x.loads.length:Int))=true:=by rw [beq_iff_eq]; omega
  have k17:=HX0.out.s.cell 17
  have d2:=HX0.out.q.cell 2
  simp [SR.cs] at k17
  simp [PnM.cs] at d2
  clear hst0 hW hP0 hB0 hQ0 hG0 hBf hs hl1 hl2 hr hF0 hc hpl
  go_enter Tryz.func49,Tryz.ntmps49
  go_upto_region 1 with fail
  rw [← hWH.out]
  clear hWH
  go_wp2_with (first | refine wpList_load_S rfl _ rfl w.heap.size rfl x b f HX0.out.s ?_ | refine wpList_load_planG (by rfl) _ rfl (w.heap.size+1) rfl y HX0.out.q ?_)
  clear k17 d2 hkq
  refine (hsl.out _ (hP.out.below HX0.out.bel) (hB.out.below HX0.out.bel) (hQ.out.below HX0.out.bel)).mono ?_
  rintro e w3 ⟨b3,f3,rfl,hrb,hfb,hsb,haw,hb3⟩
  have hsz:=HX0.out.lt
  have HX3:=Lib.hid (HX0.out.below hb3)
  have HRB:=Lib.hid hrb
  have HFB:=Lib.hid hfb
  have HSE:=Lib.hid (HS3.out b3 f3 hsb)
  have HA3:Hid (SAway b b3 y w):=⟨haw _ (by omega) (PnAway.old hB.out) (PnAway.old hQ.out),fun g hg h1 h2 => haw g (by omega) h1 h2⟩
  clear hsz hrb hfb hsb haw hb3 HX0 hsl HS3
  go_wp2_with (refine wpList_store_blk rfl 92 _ _ rfl (w.heap.size+1+1) rfl (SR.cs x b3 f3) (by kernel_rfl) (by kernel_rfl) (SR.cs_one _ _ _) HX3.out.r rfl ?_)
  intro w5 hB5 hg5
  have hbe:Below w.heap.size w w5:=HX3.out.bel.grown hg5 HX3.out.bel.size (fun k e => by injection e with e; omega)
  have hRb5:RPn w5 b3:=HRB.out.away HA3.out.1 hg5 (by omega) (by omega)
  have HBE:=Lib.hid hbe
  have HB5:=Lib.hid hB5
  have HRB5:=Lib.hid hRb5
  clear hbe hB5 hg5 hRb5
  go_wp2_with fail
  exact slots_ret HB5.out HRB5.out HFB.out HSE.out HA3.out.2 HBE.out rfl
 | succ r ih =>
  intro V b y f w hP0 hB0 hBf hQ0 hG0 hs hl1 hl2 hr
  have HIH:=Lib.hid ih
  have hk:y.start.l.length < x.loads.length:=by omega
  have HK0:=Lib.hid hk
  have HR0:=Lib.hid hr
  have HS0:=Lib.hid hs
  have hHS:=Lib.hid hG0.ss
  have HWI:=Lib.hid (fun (s:Int) W (q:RInts W y.start.A y.start.l) => with_any y.start.A y.start.c y.start.l s W q (by omega))
  have hgd:x.p.loads.getD y.start.l.length Ld.zero=x.loads[y.start.l.length].r:=by
   show (x.loads.map LdM.r).getD _ _=_
   rw [List.getD_eq_getElem?_getD,List.getElem?_map,List.getElem?_eq_getElem hk]
   rfl
  have HS2:=Lib.hid (fun (b':PnM) (f':Bool) (q:x.p.seen (Vi V y.start.l (x.loads[y.start.l.length].r.starts x.buy.l.length)) f' b'.x) => see_s2 (p:=x.p) (s:=y.start.l) (by rw [hpl]; exact hk) (by rw [hgd]; exact q))
  have HS1:=Lib.hid (fun (b':PnM) (f':Bool) (l:List Int) (s:Int) (q:x.p.seen (Vs (Vi V y.start.l l) (y.start.l ++ [s])) f' b'.x) => see_s1 (p:=x.p) (s:=y.start.l) (by rw [hpl]; exact hk) q)
  have hP:=Lib.hid hP0
  have hB:=Lib.hid hB0
  have hQ:=Lib.hid hQ0
  have hG:=Lib.hid hG0
  have hF:=Lib.hid hF0
  have hBF:=Lib.hid hBf
  have hst0:=SB.start x b y f w
  simp only [SR.cs,PnM.v]
  obtain ⟨W,hW⟩:∃ W,W=((w.alloc (.cells #[.slice x.buy.A x.buy.l.length x.buy.c,.slice x.sell.A x.sell.l.length x.sell.c,.int .i64 x.fuse,.slice x.solar.A x.solar.l.length x.solar.c,.slice x.demand.A x.demand.l.length x.demand.c,.slice x.outside.A x.outside.l.length x.outside.c,.int .i64 x.bat.cap,.int .i64 x.bat.reserve,.int .i64 x.bat.charge,.int .i64 x.bat.discharge,.int .i64 x.bat.eff,.int .i64 x.gain,.int .i64 x.loss,.int .i64 x.steps,.int .i64 x.power,.slice x.low.A x.low.l.length x.low.c,.slice x.high.A x.high.l.length x.high.c,.slice x.LA x.loads.length x.lc,.int .i64 x.level,.int .i64 x.temp,.slice b.charge.A b.charge.l.length b.charge.c,.slice b.heat.A b.heat.l.length b.heat.c,.slice b.start.A b.start.l.length b.start.c,.bool f] 92)).alloc (.cells #[.slice y.charge.A y.charge.l.length y.charge.c,.slice y.heat.A y.heat.l.length y.heat.c,.slice y.start.A y.start.l.length y.start.c] 48)).alloc (.cells #[.slice none 0 0,.slice none 0 0,.int .i64 0,.slice none 0 0,.slice none 0 0,.slice none 0 0,.int .i64 0,.int .i64 0,.int .i64 0,.int .i64 0,.int .i64 0,.int .i64 0,.int .i64 0,.int .i64 0,.int .i64 0,.slice none 0 0,.slice none 0 0,.slice none 0 0,.int .i64 0,.int .i64 0,.slice none 0 0,.slice none 0 0,.slice none 0 0,.bool false] 92):=⟨_,rfl⟩
  rw [show ((w.alloc (.cells (SR.cs x b f) 92)).alloc (.cells y.cs 48)).alloc (.cells SRz 92)=W from hW.symm] at hst0
  have HX0:Hid (SB x b y f w W):=hst0
  have hWH:=Lib.hid hW
  have hkq:((y.start.l.length:Int) == (x.loads.length:Int))=false:=by rw [beq_eq_false_iff_ne]; omega
  obtain ⟨bL,oL,hAe,_,y0,y1,y2,y3⟩:=(hP.out.loads.below HX0.out.bel).at' hk
  have HPF:=Lib.hid ((hP.out.loads.below HX0.out.bel).prof hk)
  have hst:=fun W (q:RInts W x.loads[y.start.l.length].A x.loads[y.start.l.length].r.prof) => rlstarts_any x.loads[y.start.l.length].r x.loads[y.start.l.length].A x.loads[y.start.l.length].c x.buy.l.length W q (hF0.names _ (List.getElem_mem hk))
  have hbd:=Ld.starts_bd (r:=x.loads[y.start.l.length].r) (n:=x.buy.l.length)
  have i1:(0:Int) ≤ (y.start.l.length:Int):=by omega
  have i2:(y.start.l.length:Int) < (x.loads.length:Int):=by omega
  have hsn:=starts_len x.loads[y.start.l.length].r x.buy.l.length
  simp only [Ld.v] at hst
  generalize x.loads[y.start.l.length]=X at *
  generalize X.r.starts x.buy.l.length=L at *
  have HST:=Lib.hid hst
  have HBD:=Lib.hid hbd
  have HSN:=Lib.hid hsn
  have k17:=HX0.out.s.cell 17
  have k0:=HX0.out.s.cell 0
  have d2:=HX0.out.q.cell 2
  simp [SR.cs] at k17 k0
  simp [PnM.cs] at d2
  rw [hAe] at k17
  clear hst0 hW hP0 hB0 hQ0 hG0 hBf hs hr hF0 hc hpl ih hst hbd hsn hgd hk hAe hl1 hl2
  have e0:0 < x.loads.length:=by omega
  clear e0
  go_enter Tryz.func49,Tryz.ntmps49
  go_upto_region 1 with fail
  rw [← hWH.out]
  clear hWH
  go_upto_region 3 with fail
  clear hkq
  refine wp_region_held_drew (S:=(fun w' => w'.cell? ⟨w.heap.size,17,none⟩=some (.slice (some ⟨bL,oL,none⟩) x.loads.length x.lc)∧w'.cell? ⟨w.heap.size,0,none⟩=some (.slice x.buy.A x.buy.l.length x.buy.c)∧w'.cell? ⟨w.heap.size+1,2,none⟩=some (.slice y.start.A y.start.l.length y.start.c)∧w'.cell? ⟨bL,oL+y.start.l.length * 4,none⟩=some (.string X.r.name)∧w'.cell? ⟨bL,oL+y.start.l.length * 4+1,none⟩=some (.slice X.A X.r.prof.length X.c)∧w'.cell? ⟨bL,oL+y.start.l.length * 4+2,none⟩=some (.int .i64 X.r.early)∧w'.cell? ⟨bL,oL+y.start.l.length * 4+3,none⟩=some (.int .i64 X.r.late))) (by kernel_rfl) ⟨k17,k0,d2,y0,y1,y2,y3⟩ (fun hHeld => ?_)
  refine tk 0 ?_
  try simp only [jA,jB,Act.put,jD,jE,jF]
  refine tk 1 ?_
  try simp only [jA,jB,jC,Act.put,jD,jE,jF]
  refine tk 2 ?_
  try simp only [jA,jB,jC,Act.put,jD,jE,jF]
  refine tk 3 ?_
  try simp only [jA,jB,jC,Act.put,jD,jE,jF]
  refine tk 4 ?_
  try simp only [jA,jB,jC,Act.put,jD,jE,jF]
  refine tk 5 ?_
  try simp only [jA,jB,jC,Act.put,jD,jE,jF]
  refine tk 6 ?_
  try simp only [jA,jB,jC,Act.put,jD,jE,jF]
  refine tk 7 ?_
  try simp only [jA,jB,jC,Act.put,jD,jE,jF]
  refine tk 8 ?_
  try simp only [jA,jB,jC,Act.put,jD,jE,jF]
  refine tk 9 ?_
  try simp only [jA,jB,jC,Act.put,jD,jE,jF]
  refine tk 10 ?_
  try simp only [jA,jB,jC,Act.put,jD,jE,jF]
  refine tk 11 ?_
  try simp only [jA,jB,jC,Act.put,jD,jE,jF]
  refine tk 12 ?_
  try simp only [jA,jB,jC,Act.put,jD,jE,jF]
  refine wpAnyH_ready (rs := [13]) (by kernel_rfl) (by simp) ?_
  refine (AllReadyH.cons rfl (fun K hK => ?_) AllReadyH.nil)
  have HKK:=Lib.hid hK
  clear hK
  go_simp
  refine (HST.out _ (HPF.out.below (Below.drew (Below.refl _ _)))).mono ?_
  rintro e' w3 ⟨AL,cL,rfl,hrl,hfl,hb3⟩
  have hBw3:Below W.heap.size W w3:=below_tr (Below.drew (Below.refl _ _)) hb3
  have hbz:W.heap.size ≤ W.drew.heap.size:=Nat.le_refl _
  go_wp2_with fail
  refine HKK.out _ _ (⟨cell_below k17 hBw3,cell_below k0 hBw3,cell_below d2 hBw3,cell_below y0 hBw3,cell_below y1 hBw3,cell_below y2 hBw3,cell_below y3 hBw3⟩) (fun hH2 => ?_)
  clear HKK K
  replace hHeld:=hH2
  clear hH2
  try simp only [jA,jB,jC,Act.put,jD,jE,jF]
  refine tk 14 ?_
  try simp only [jA,jB,jC,Act.put,jD,jE,jF]
  refine wpAnyH_done (by kernel_rfl) ?_ _
  have HX1:=Lib.hid (HX0.out.below hBw3)
  have HQ1:=Lib.hid (hQ.out.below HX1.out.bel)
  have HL1:=Lib.hid hrl
  have HFR:Hid (∀ ad,AL=some ad→w.heap.size+3 ≤ ad.block):=fun ad e => Nat.le_trans (Nat.le_trans HX0.out.lt hbz) (hfl ad e)
  clear hHeld k17 k0 d2 y0 y1 y2 y3 i1 i2 hrl hfl hBw3 hbz
  go_wp2_with fail
  go_loopw [6] (fun s6 wr => ∃ (i:Nat) (b':PnM) (f':Bool),i ≤ L.length∧s6 = .int .i64 i∧Hid (x.p.seen (Vi V y.start.l (L.take i)) f' b'.x)∧Hid (RPn wr b')∧Hid b'.Fit∧Hid (SB x b' y f' w wr)∧Hid (SAway b b' y w)∧Hid (RInts wr AL L))
   (fun s6 _ => L.length - (intOf s6).toNat)
  case atStart => exact ⟨0,b,f,by omega,rfl,see_s0 HS0.out,hB.out.below HX1.out.bel,hBF.out,HX1.out,SAway.start hB.out,HL1.out⟩
  case round =>
   clear HX0 HX1 hBF HS0 HQ1 HL1 HPF HST
   obtain ⟨i,b1,f1,hi0,rfl,hS1,hR1,hF1,hX1,hA1,hL1⟩:=hrel
   obtain ⟨wi,hwi⟩:∃ wi:World,wi=wr:=⟨_,rfl⟩
   subst hwi
   by_cases hlt:i < L.length
   ·obtain ⟨bI,oI,hAI,_,z0⟩:=hL1.out.at' hlt
    have HBI:Hid (w.heap.size+3 ≤ bI):=HFR.out _ hAI
    have hbs:=HBD.out _ (List.getElem_mem hlt)
    have HTK:=Lib.hid (List.take_succ_eq_append_getElem hlt)
    have j1:(0:Int) ≤ (i:Int):=by omega
    have j2:(i:Int) < (L.length:Int):=by omega
    generalize L[i]=z at *
    have HBS:=Lib.hid hbs
    have d2:=hX1.out.q.cell 2
    simp [PnM.cs] at d2
    rw [hAI]
    clear hbs
    go_upto_region 7 with fail
    refine wp_region_held_drew (S:=(fun w' => w'.cell? ⟨w.heap.size+1,2,none⟩=some (.slice y.start.A y.start.l.length y.start.c)∧w'.cell? ⟨bI,oI+i,none⟩=some (.int .i64 z))) (by kernel_rfl) ⟨d2,z0⟩ (fun hHeld => ?_)
    refine tk 1 ?_
    try simp only [jA,jB,jC,Act.put,jD,jE,jF]
    refine tk 2 ?_
    try simp only [jA,jB,jC,Act.put,jD,jE,jF]
    refine tk 3 ?_
    try simp only [jA,jB,jC,Act.put,jD,jE,jF]
    refine tk 4 ?_
    try simp only [jA,jB,jC,Act.put,jD,jE,jF]
    refine tk 5 ?_
    try simp only [jA,jB,jC,Act.put,jD,jE,jF]
    refine tk 6 ?_
    try simp only [jA,jB,jC,Act.put,jD,jE,jF]
    refine wpAnyH_ready (rs := [0,7]) (by kernel_rfl) (by simp) ?_
    refine (AllReadyH.cons rfl (fun K hK => ?_) (AllReadyH.cons rfl (fun K hK => ?_) AllReadyH.nil))
    ·have HKK:=Lib.hid hK
     clear hK
     refine step_load_blk (by rfl) 92 (by kernel_rfl) (by kernel_rfl) _ rfl w.heap.size rfl (hX1.out.below (Below.drew (Below.refl _ _))).s ?_
     refine HKK.out _ _ (⟨cell_below d2 (Below.drew (Below.refl _ _)),cell_below z0 (Below.drew (Below.refl _ _))⟩) (fun hH2 => ?_)
     clear HKK K
     replace hHeld:=hH2
     clear hH2
     try simp only [jA,jB,Act.put,jD,jE,jF]
     refine wpAnyH_ready (rs := [7]) (by kernel_rfl) (by simp) ?_
     refine (AllReadyH.cons rfl (fun K hK => ?_) AllReadyH.nil)
     have HKK:=Lib.hid hK
     clear hK
     go_simp
     refine (HWI.out z _ ((hQ.out.below hX1.out.bel).start.below (Below.drew (Below.refl _ _)))).mono ?_
     rintro e' u1 ⟨A1,e1,rfl,hr1,hc1,hf1,hb1⟩
     have hB1:Below wi.heap.size wi u1:=below_tr (Below.drew (Below.refl _ _)) hb1
     have HM1:=Lib.hid hr1
     have HC1:=Lib.hid hc1
     have HF1:Hid (∀ ad,A1=some ad→wi.heap.size ≤ ad.block):=hf1
     clear hr1 hc1 hf1 hb1
     go_wp2_with fail
     refine HKK.out _ _ (⟨cell_below d2 hB1,cell_below z0 hB1⟩) (fun hH2 => ?_)
     clear HKK K
     replace hHeld:=hH2
     clear hH2
     try simp only [jA,jB,jC,Act.put,jD,jE,jF]
     refine tk 8 ?_
     try simp only [jA,jB,jC,Act.put,jD,jE,jF]
     refine wpAnyH_ready (rs := [9]) (by kernel_rfl) (by simp) ?_
     refine (AllReadyH.cons rfl (fun K hK => ?_) AllReadyH.nil)
     have HKK:=Lib.hid hK
     clear hK
     go_simp
     have HX3:=Lib.hid (hX1.out.below hB1)
     have HRr:=Lib.hid (hR1.out.below hB1)
     have hsz:=HX3.out.lt
     have HIHC:=(HIH.out (Vi V y.start.l (L.take i)) b1 (PnM.begin A1 e1 (y.start.l ++ [z])) f1 _ (hP.out.below HX3.out.bel) HRr.out hF1.out (PnM.begin_r HM1.out) (PnM.begin_fit hHS.out HBS.out HC1.out) hS1.out rfl rfl (by show x.loads.length=(y.start.l ++ [z]).length+r; rw [List.length_append,List.length_singleton]; have:=HR0.out; omega))
     have hmv:(PnM.begin A1 e1 (y.start.l ++ [z])).v = .agg #[.slice none 0 0,.slice none 0 0,.slice A1 (y.start.l.length+1) e1]:=by simp [PnM.v,PnM.begin]
     rw [hmv] at HIHC
     clear hmv
     refine HIHC.mono ?_
     rintro e' u2 ⟨b3,f3,rfl,hrb,hfb,hsb,haw,hb2⟩
     have hB2:Below wi.heap.size wi u2:=below_tr hB1 hb2
     have HX4:=Lib.hid (HX3.out.below hb2)
     have HRB:=Lib.hid hrb
     have HFB:=Lib.hid hfb
     have HSM:=Lib.hid (HS1.out b3 f3 (L.take i) z hsb)
     have HA3:Hid (SAway b b3 y w):=⟨haw _ (by omega) hA1.out.1 (PnM.begin_away HF1.out hX1.out.lt),fun g hg h1 h2 => haw g (by omega) (hA1.out.2 g hg h1 h2) (PnM.begin_away HF1.out (by have:=hX1.out.lt; omega))⟩
     clear hrb hfb hsb haw hb2 HIHC hsz
     go_wp2_with fail
     refine HKK.out _ _ (⟨cell_below d2 hB2,cell_below z0 hB2⟩) (fun hH2 => ?_)
     clear HKK K
     replace hHeld:=hH2
     clear hH2
     try simp only [jA,jB,jC,Act.put,jD,jE,jF]
     refine wpAnyH_ready (rs := [10]) (by kernel_rfl) (by simp) ?_
     refine (AllReadyH.cons rfl (fun K hK => ?_) AllReadyH.nil)
     have HKK:=Lib.hid hK
     clear hK
     refine step_store_blk (by rfl) 92 _ _ rfl w.heap.size rfl (SR.cs x b3 f3) (by kernel_rfl) (by kernel_rfl) (SR.cs_one _ _ _) HX4.out.s rfl ?_
     intro u3 hB5 hg5
     have HX5:=Lib.hid (HX4.out.set hB5 hg5)
     have HR5:=Lib.hid (HRB.out.away HA3.out.1 hg5 (by omega) (by omega))
     have HL5:=Lib.hid ((hL1.out.below hB2).other hg5 (fun ad e h => by injection h with h; have:=HFR.out ad e; omega))
     have hbn:bI ≠ w.heap.size:=by have:=HBI.out; omega
     refine HKK.out _ _ (⟨cell_grown hg5 (cell_below d2 hB2) (by intro e; have e:w.heap.size+1=w.heap.size:=Option.some.inj e; omega),cell_grown hg5 (cell_below z0 hB2) (by intro e; exact hbn (Option.some.inj e))⟩) (fun hH2 => ?_)
     clear HKK K
     replace hHeld:=hH2
     clear hH2
     (try simp only [List.getElem_toArray,List.getElem_cons_zero,List.getElem_cons_succ,Act.put])
     refine wpAnyH_done (by kernel_rfl) ?_ _
     rw [← HTK.out] at HSM
     clear hHeld hB5 hg5 hbn
     have hsn0:=HSN.out
     go_wp2_with fail
     go_roundw
     case rel => exact ⟨i+1,b3,f3,by omega,by go_num,HSM.out,HR5.out,HFB.out,HX5.out,HA3.out,(by have h:=HL5.out; rw [hAI] at h; exact h)⟩
     case measure => simp [intOf]; omega
    ·have HKK:=Lib.hid hK
     clear hK
     go_simp
     refine (HWI.out z _ ((hQ.out.below hX1.out.bel).start.below (Below.drew (Below.refl _ _)))).mono ?_
     rintro e' u1 ⟨A1,e1,rfl,hr1,hc1,hf1,hb1⟩
     have hB1:Below wi.heap.size wi u1:=below_tr (Below.drew (Below.refl _ _)) hb1
     have HM1:=Lib.hid hr1
     have HC1:=Lib.hid hc1
     have HF1:Hid (∀ ad,A1=some ad→wi.heap.size ≤ ad.block):=hf1
     clear hr1 hc1 hf1 hb1
     go_wp2_with fail
     refine HKK.out _ _ (⟨cell_below d2 hB1,cell_below z0 hB1⟩) (fun hH2 => ?_)
     clear HKK K
     replace hHeld:=hH2
     clear hH2
     try simp only [jA,jB,jC,Act.put,jD,jE,jF]
     refine tk 8 ?_
     try simp only [jA,jB,jC,Act.put,jD,jE,jF]
     refine wpAnyH_ready (rs := [0]) (by kernel_rfl) (by simp) ?_
     refine (AllReadyH.cons rfl (fun K hK => ?_) AllReadyH.nil)
     have HKK:=Lib.hid hK
     clear hK
     refine step_load_blk (by rfl) 92 (by kernel_rfl) (by kernel_rfl) _ rfl w.heap.size rfl (hX1.out.below hB1).s ?_
     refine HKK.out _ _ (⟨cell_below d2 hB1,cell_below z0 hB1⟩) (fun hH2 => ?_)
     clear HKK K
     replace hHeld:=hH2
     clear hH2
     try simp only [jA,jB,Act.put,jD,jE,jF]
     refine wpAnyH_ready (rs := [9]) (by kernel_rfl) (by simp) ?_
     refine (AllReadyH.cons rfl (fun K hK => ?_) AllReadyH.nil)
     have HKK:=Lib.hid hK
     clear hK
     go_simp
     have HX3:=Lib.hid (hX1.out.below hB1)
     have HRr:=Lib.hid (hR1.out.below hB1)
     have hsz:=HX3.out.lt
     have HIHC:=(HIH.out (Vi V y.start.l (L.take i)) b1 (PnM.begin A1 e1 (y.start.l ++ [z])) f1 _ (hP.out.below HX3.out.bel) HRr.out hF1.out (PnM.begin_r HM1.out) (PnM.begin_fit hHS.out HBS.out HC1.out) hS1.out rfl rfl (by show x.loads.length=(y.start.l ++ [z]).length+r; rw [List.length_append,List.length_singleton]; have:=HR0.out; omega))
     have hmv:(PnM.begin A1 e1 (y.start.l ++ [z])).v = .agg #[.slice none 0 0,.slice none 0 0,.slice A1 (y.start.l.length+1) e1]:=by simp [PnM.v,PnM.begin]
     rw [hmv] at HIHC
     clear hmv
     refine HIHC.mono ?_
     rintro e' u2 ⟨b3,f3,rfl,hrb,hfb,hsb,haw,hb2⟩
     have hB2:Below wi.heap.size wi u2:=below_tr hB1 hb2
     have HX4:=Lib.hid (HX3.out.below hb2)
     have HRB:=Lib.hid hrb
     have HFB:=Lib.hid hfb
     have HSM:=Lib.hid (HS1.out b3 f3 (L.take i) z hsb)
     have HA3:Hid (SAway b b3 y w):=⟨haw _ (by omega) hA1.out.1 (PnM.begin_away HF1.out hX1.out.lt),fun g hg h1 h2 => haw g (by omega) (hA1.out.2 g hg h1 h2) (PnM.begin_away HF1.out (by have:=hX1.out.lt; omega))⟩
     clear hrb hfb hsb haw hb2 HIHC hsz
     go_wp2_with fail
     refine HKK.out _ _ (⟨cell_below d2 hB2,cell_below z0 hB2⟩) (fun hH2 => ?_)
     clear HKK K
     replace hHeld:=hH2
     clear hH2
     try simp only [jA,jB,jC,Act.put,jD,jE,jF]
     refine wpAnyH_ready (rs := [10]) (by kernel_rfl) (by simp) ?_
     refine (AllReadyH.cons rfl (fun K hK => ?_) AllReadyH.nil)
     have HKK:=Lib.hid hK
     clear hK
     refine step_store_blk (by rfl) 92 _ _ rfl w.heap.size rfl (SR.cs x b3 f3) (by kernel_rfl) (by kernel_rfl) (SR.cs_one _ _ _) HX4.out.s rfl ?_
     intro u3 hB5 hg5
     have HX5:=Lib.hid (HX4.out.set hB5 hg5)
     have HR5:=Lib.hid (HRB.out.away HA3.out.1 hg5 (by omega) (by omega))
     have HL5:=Lib.hid ((hL1.out.below hB2).other hg5 (fun ad e h => by injection h with h; have:=HFR.out ad e; omega))
     have hbn:bI ≠ w.heap.size:=by have:=HBI.out; omega
     refine HKK.out _ _ (⟨cell_grown hg5 (cell_below d2 hB2) (by intro e; have e:w.heap.size+1=w.heap.size:=Option.some.inj e; omega),cell_grown hg5 (cell_below z0 hB2) (by intro e; exact hbn (Option.some.inj e))⟩) (fun hH2 => ?_)
     clear HKK K
     replace hHeld:=hH2
     clear hH2
     (try simp only [List.getElem_toArray,List.getElem_cons_zero,List.getElem_cons_succ,Act.put])
     refine wpAnyH_done (by kernel_rfl) ?_ _
     rw [← HTK.out] at HSM
     clear hHeld hB5 hg5 hbn
     have hsn0:=HSN.out
     go_wp2_with fail
     go_roundw
     case rel => exact ⟨i+1,b3,f3,by omega,by go_num,HSM.out,HR5.out,HFB.out,HX5.out,HA3.out,(by have h:=HL5.out; rw [hAI] at h; exact h)⟩
     case measure => simp [intOf]; omega
   ·have e:i=L.length:=by omega
    have HSE:=Lib.hid (HS2.out b1 f1 (by have h:=hS1.out; rw [e,List.take_length] at h; exact h))
    go_upto_region 8 with fail
    go_wp2_with (first | refine wpList_load_S rfl _ rfl w.heap.size rfl x b1 f1 hX1.out.s ?_ | refine wpList_store_blk rfl 92 _ _ rfl (w.heap.size+1+1) rfl (SR.cs x b1 f1) (by kernel_rfl) (by kernel_rfl) (SR.cs_one _ _ _) hX1.out.r rfl ?_)
    intro w5 hB5 hg5
    have hbe:Below w.heap.size w w5:=hX1.out.bel.grown hg5 hX1.out.bel.size (fun k e => by injection e with e; omega)
    have hRb5:RPn w5 b1:=hR1.out.away hA1.out.1 hg5 (by omega) (by omega)
    have HBE:=Lib.hid hbe
    have HB5:=Lib.hid hB5
    have HRB5:=Lib.hid hRb5
    clear hbe hB5 hg5 hRb5
    go_wp2_with fail
    exact slots_ret HB5.out HRB5.out hF1.out HSE.out hA1.out.2 HBE.out rfl
def RBestOut (q:Pn) (er:Int) (w:World) (e:Ending) (w':World):Prop :=
 ∃ m:PnM,m.x=q∧e = .returned (.tuple #[m.v,.int .i64 er])∧RPn w' m∧m.Fit∧Below w.heap.size w w'
section
variable {ops:Array Oper} {rest:List Oper} {o:Oper} {a:Act} {W:World} {Q:Exit→Act→World→Prop}
theorem wpList_load_problemL (hgd:o.guard=none) (s:Operand) (ho:o.op = .load 31 s) (g:Nat) (hx:a.eval s = .pointer (some ⟨g,0,none⟩)) (x:PbM) (h:Blk W g 31 x.cs) (hk:wpList Tryz.prog ops Q rest (a.put o.dst (.agg #[.slice x.buy.A x.buy.l.length x.buy.c,.slice x.sell.A x.sell.l.length x.sell.c,.int .i64 x.fuse,.slice x.solar.A x.solar.l.length x.solar.c,.slice x.demand.A x.demand.l.length x.demand.c,.slice x.outside.A x.outside.l.length x.outside.c,.int .i64 x.bat.cap,.int .i64 x.bat.reserve,.int .i64 x.bat.charge,.int .i64 x.bat.discharge,.int .i64 x.bat.eff,.int .i64 x.gain,.int .i64 x.loss,.int .i64 x.steps,.int .i64 x.power,.slice x.low.A x.low.l.length x.low.c,.slice x.high.A x.high.l.length x.high.c,.slice x.LA x.loads.length x.lc,.int .i64 x.level,.int .i64 x.temp])) W) :
  wpList Tryz.prog ops Q (o :: rest) a W:=wpList_load_problem hgd s ho g hx x h hk
end
theorem rbest_ret {tmps:Array Value} {w W:World} {m:PnM} {er:Int} (h:Blk W (w.heap.size+1) 48 m.cs) (hm:RPn W m) (hf:m.Fit) (hb:Below w.heap.size w W)
  (h2:tmps.getD 2 undef = .pointer (some ⟨w.heap.size+1,0,none⟩)) (h3:tmps.getD 3 undef = .int .i64 er) :
  bodyPost Tryz.prog Tryz.f26 (RBestOut m.x er w) .ret { tmps:=tmps,defers := [] } W:=by
 have hr:=results_cell_tmp (P:=Tryz.prog) (fn:=Tryz.f26) (i:=2) (j:=3) (ty:=48) rfl h2 (run_load_blk (by kernel_rfl) (by kernel_rfl) h)
 refine bodyPost_ret hr rfl ?_
 exact ⟨m,rfl,by rw [h3]; rfl,hm,hf,hb⟩
set_option maxRecDepth 100000 in
set_option maxHeartbeats 64000000 in
theorem rbest_bad (x:PbM) (w:World) (hP0:RPb w x) (hF:x.Fit) (hbad:x.p.chk ≠ 0 ∨ x.p.lim=false) :
  Calls Tryz.prog 26 #[x.v] w (RBestOut x.p.best x.p.bestE w):=by
 have hP:=Lib.hid hP0
 have hck:=Lib.hid (fun W (h:RPb W x) => rpcheck_any x W h hF)
 have hst0:=BX.start x w
 simp only [PbM.v]
 obtain ⟨W,hW⟩:∃ W,W=(w.alloc (.cells x.cs 31)).alloc (.cells #[.slice none 0 0,.slice none 0 0,.slice none 0 0] 48):=⟨_,rfl⟩
 simp only [PbM.cs] at hW
 rw [show (w.alloc (.cells x.cs 31)).alloc (.cells PnM.zero.cs 48)=W from hW.symm] at hst0
 have hst:=Lib.hid hst0
 have hWH:=Lib.hid hW
 clear hst0 hW hP0
 by_cases hc:x.p.chk=0
 ·have hl:x.p.lim=false:=hbad.resolve_left (fun e => e hc)
  have e12:=Pb.best_lim hc hl
  rw [e12.1,e12.2]
  rw [hc] at hck
  have hcs:(24 < (x.buy.l.length:Int)) ∨ (¬ 24 < (x.buy.l.length:Int)∧20 < x.bat.cap) ∨ (¬ 24 < (x.buy.l.length:Int)∧¬ 20 < x.bat.cap∧8 < x.steps) ∨ (¬ 24 < (x.buy.l.length:Int)∧¬ 20 < x.bat.cap∧¬ 8 < x.steps∧2 < (x.loads.length:Int)):=by
   simp only [Pb.lim,Bool.and_eq_false_iff,decide_eq_false_iff_not] at hl
   have h1:x.p.n=x.buy.l.length:=rfl
   have h2:x.p.bat.cap=x.bat.cap:=rfl
   have h3:x.p.room.steps=x.steps:=rfl
   have h4:x.p.loads.length=x.loads.length:=by simp [PbM.p]
   omega
  clear hbad hc hl e12
  rcases hcs with g | ⟨g,g2⟩ | ⟨g,g2,g3⟩ | ⟨g,g2,g3,g4⟩
  all_goals
   go_enter Tryz.func26,Tryz.ntmps26
   go_upto_region 1 with fail
   rw [← hWH.out]
   clear hWH
   go_wp2_with (refine wpList_load_problem rfl _ rfl w.heap.size rfl x hst.out.p ?_)
   refine (hck.out _ (hst.out.pr hP.out)).mono ?_
   rintro e w1 ⟨rfl,hb1⟩
   have HX1:=Lib.hid (hst.out.below hb1)
   clear hb1 hst
   obtain ⟨c0, -, -, -, -, -,c6, -, -, -, -, -, -,c13, -, -, -,c17, -, -⟩:=PbC.of_blk HX1.out.p
   go_wp2_with (refine wpList_store_blk rfl 48 _ _ rfl (w.heap.size+1) rfl PnM.zero.cs rfl (by kernel_rfl) (PnM.cs_one _) HX1.out.r rfl ?_)
   intro w3 hB3 hg3
   have hb3:Below w.heap.size w w3:=HX1.out.bel.grown hg3 HX1.out.bel.size (fun k e => by injection e with e; omega)
   clear c0 c6 c13 c17
   go_wp2_with fail
   exact rbest_ret (m:=PnM.zero) hB3 (RPn.zero _) PnM.zero_fit hb3 rfl rfl
 ·have e12:=Pb.best_chk hc
  rw [e12.1,e12.2]
  have hen:(x.p.chk != 0)=true:=by simpa using hc
  clear hbad hc e12
  generalize x.p.chk=ck at *
  go_enter Tryz.func26,Tryz.ntmps26
  go_upto_region 1 with fail
  rw [← hWH.out]
  clear hWH
  go_wp2_with (refine wpList_load_problem rfl _ rfl w.heap.size rfl x hst.out.p ?_)
  refine (hck.out _ (hst.out.pr hP.out)).mono ?_
  rintro e w1 ⟨rfl,hb1⟩
  have HX1:=Lib.hid (hst.out.below hb1)
  clear hb1 hst
  go_wp2_with (refine wpList_store_blk rfl 48 _ _ rfl (w.heap.size+1) rfl PnM.zero.cs rfl (by kernel_rfl) (PnM.cs_one _) HX1.out.r rfl ?_)
  intro w3 hB3 hg3
  have hb3:Below w.heap.size w w3:=HX1.out.bel.grown hg3 HX1.out.bel.size (fun k e => by injection e with e; omega)
  go_wp2_with fail
  exact rbest_ret (m:=PnM.zero) hB3 (RPn.zero _) PnM.zero_fit hb3 rfl rfl
set_option maxRecDepth 100000 in
set_option maxHeartbeats 64000000 in
theorem rbest_run (x:PbM) (w:World) (hP0:RPb w x) (hF:x.Fit) (hc:x.p.chk=0) (hl:x.p.lim=true) :
  Calls Tryz.prog 26 #[x.v] w (RBestOut x.p.best x.p.bestE w):=by
 have hP:=Lib.hid hP0
 have hck0:=fun W (h:RPb W x) => rpcheck_any x W h hF
 rw [hc] at hck0
 have hck:=Lib.hid hck0
 have hsl:=Lib.hid (fun W (q:RPb W x) => rstarts_rec x hF hc x.loads.length (fun _ => False) PnM.zero PnM.zero false W q (RPn.zero _) PnM.zero_fit (RPn.zero _) PnM.zero_fit (Pb.seen_none _ _) rfl rfl (by show x.loads.length=0+x.loads.length; omega))
 have hend:=Lib.hid (fun (f:Bool) (b:PnM) (q:x.p.seen (Vs (fun _ => False) PnM.zero.start.l) f b.x) => Pb.seen_end hc hl q (fun y _ => .inr List.nil_prefix))
 have hlm:x.p.n ≤ 24∧x.p.bat.cap ≤ 20∧x.p.room.steps ≤ 8∧x.p.loads.length ≤ 2:=by
  unfold Pb.lim at hl
  simpa only [Bool.and_eq_true,decide_eq_true_iff] using hl
 have hlm:x.buy.l.length ≤ 24∧x.bat.cap ≤ 20∧x.steps ≤ 8∧x.loads.length ≤ 2:=by
  refine ⟨hlm.1,hlm.2.1,hlm.2.2.1,?_⟩
  have h4:x.p.loads.length=x.loads.length:=by simp [PbM.p]
  omega
 obtain ⟨l1,l2,l3,l4⟩:=hlm
 have HW0:Hid (1 ≤ w.heap.size):=by
  have hn:1 ≤ x.buy.l.length:=(Pb.nbd (Pb.good hc)).1
  obtain ⟨ad,_,h,_⟩:=hP0.buy.2 (by omega)
  show 1 ≤ w.heap.size
  omega
 have HBZ:=Lib.hid (Pb.best_run hc hl).1
 have HZ:Hid (x.p.bestE=20→x.p.best=Pn.zero):=fun h => by
  rw [HBZ.out]
  refine Pb.search_none ?_
  have h2:=(Pb.best_run hc hl).2
  rw [h] at h2
  split at h2
  ·assumption
  ·cases h2
 generalize hbe:x.p.bestE=be at *
 generalize hbp:x.p.best=bp at *
 have hst0:=BX.start x w
 simp only [PbM.v]
 obtain ⟨W,hW⟩:∃ W,W=(w.alloc (.cells x.cs 31)).alloc (.cells #[.slice none 0 0,.slice none 0 0,.slice none 0 0] 48):=⟨_,rfl⟩
 simp only [PbM.cs] at hW
 rw [show (w.alloc (.cells x.cs 31)).alloc (.cells PnM.zero.cs 48)=W from hW.symm] at hst0
 have hst:=Lib.hid hst0
 have hWH:=Lib.hid hW
 clear hst0 hW hP0 hck0 hc hl hF hbe hbp HBZ
 go_enter Tryz.func26,Tryz.ntmps26
 go_upto_region 1 with fail
 rw [← hWH.out]
 clear hWH
 go_wp2_with (refine wpList_load_problem rfl _ rfl w.heap.size rfl x hst.out.p ?_)
 refine (hck.out _ (hst.out.pr hP.out)).mono ?_
 rintro e w1 ⟨rfl,hb1⟩
 have HX1:=Lib.hid (hst.out.below hb1)
 clear hb1 hst hck
 have g1:¬ (24:Int) < (x.buy.l.length:Int):=by omega
 have g2:¬ (20:Int) < x.bat.cap:=by omega
 have g3:¬ (8:Int) < x.steps:=by omega
 have g4:¬ (2:Int) < (x.loads.length:Int):=by omega
 obtain ⟨c0, -, -, -, -, -,c6, -, -, -, -, -, -,c13, -, -, -,c17, -, -⟩:=PbC.of_blk HX1.out.p
 clear l1 l2 l3 l4
 go_upto_region 6 with fail
 clear c0 c6 c13 c17 g1 g2 g3 g4
 go_wp2_with (refine wpList_load_problemL rfl _ rfl w.heap.size rfl x HX1.out.p ?_)
 refine (hsl.out _ (HX1.out.pr hP.out)).mono ?_
 rintro e w2 ⟨b,f,rfl,hrb,hfb,hsb,haw,hb2⟩
 have HX2:=Lib.hid (HX1.out.below hb2)
 have HEN:=Lib.hid (hend.out f b hsb)
 have HRB:=Lib.hid hrb
 have HFB:=Lib.hid hfb
 have HAW:Hid (PnAway b (w.heap.size - 1)):=haw _ (by have h1:=HX1.out.lt; have h2:=HW0.out; omega) ⟨.inl rfl,.inl rfl,.inl rfl⟩ ⟨.inl rfl,.inl rfl,.inl rfl⟩
 clear hb2 hrb hfb hsb haw hsl hend HX1
 go_wp2_with (refine wpList_store_blk rfl 92 _ _ rfl w2.heap.size rfl (SR.cs x b f) (by kernel_rfl) (by kernel_rfl) (SR.cs_one _ _ _) (Blk.new w2 _ _) rfl ?_)
 intro w3 hB3 hg3
 have hs3:Below w2.heap.size w2 w3:=((Below.refl w2.heap.size w2).alloc (Nat.le_refl _) (.cells #[.slice none 0 0,.slice none 0 0,.int .i64 0,.slice none 0 0,.slice none 0 0,.slice none 0 0,.int .i64 0,.int .i64 0,.int .i64 0,.int .i64 0,.int .i64 0,.int .i64 0,.int .i64 0,.int .i64 0,.int .i64 0,.slice none 0 0,.slice none 0 0,.slice none 0 0,.int .i64 0,.int .i64 0,.slice none 0 0,.slice none 0 0,.slice none 0 0,.bool false] 92)).grown hg3 (by simp) (fun k e => by injection e with e; omega)
 obtain ⟨t5,ht⟩:∃ t,t=w2.heap.size:=⟨_,rfl⟩
 rw [← ht] at hB3
 go_upto_region 7 with fail
 rw [← ht]
 have HX3:=Lib.hid (HX2.out.below hs3)
 have HR3:=Lib.hid (HRB.out.below hs3)
 have HB3:=Lib.hid hB3
 have k23:=hB3.cell 23
 simp [SR.cs] at k23
 clear hs3 hg3 ht hB3 HX2 HRB
 cases f
 ·obtain ⟨-,h20⟩:=HEN.out.resolve_left (fun h => by cases h.1)
  obtain rfl:=h20
  have hz:=HZ.out rfl
  have HZ2:=Lib.hid hz
  clear hz HZ HEN
  go_upto_region 8 with fail
  clear k23
  go_wp2_with (refine wpList_store_blk rfl 48 _ _ rfl (w.heap.size+1) rfl PnM.zero.cs rfl (by kernel_rfl) (PnM.cs_one _) HX3.out.r rfl ?_)
  intro w5 hB5 hg5
  have hb5:Below w.heap.size w w5:=HX3.out.bel.grown hg5 HX3.out.bel.size (fun k e => by injection e with e; omega)
  have HB5:=Lib.hid hB5
  have HBE:=Lib.hid hb5
  clear hB5 hg5 hb5
  go_wp2_with fail
  rw [HZ2.out]
  exact rbest_ret (m:=PnM.zero) HB5.out (RPn.zero _) PnM.zero_fit HBE.out rfl rfl
 ·obtain ⟨-,hbq,h0⟩:=HEN.out.resolve_right (fun h => by cases h.1)
  obtain rfl:=h0
  have HBQ:=Lib.hid hbq
  clear hbq HEN HZ
  go_upto_region 9 with fail
  clear k23
  go_wp2_with (first | refine wpList_load_midB (by rfl) _ rfl t5 rfl b (SR.range_b HB3.out) ?_ | refine wpList_store_blk rfl 48 _ _ rfl (w.heap.size+1) rfl b.cs rfl (by kernel_rfl) (PnM.cs_one _) HX3.out.r rfl ?_)
  intro w5 hB5 hg5
  have hb5:Below w.heap.size w w5:=HX3.out.bel.grown hg5 HX3.out.bel.size (fun k e => by injection e with e; omega)
  have HB5:=Lib.hid hB5
  have HBE:=Lib.hid hb5
  have HRF:=Lib.hid (HR3.out.away HAW.out hg5 (by omega) (by have:=HW0.out; omega))
  clear hB5 hg5 hb5
  go_wp2_with fail
  rw [← HBQ.out]
  exact rbest_ret (m:=b) HB5.out HRF.out HFB.out HBE.out rfl rfl
theorem rbest_any (x:PbM) (w:World) (hP:RPb w x) (hF:x.Fit):Calls Tryz.prog 26 #[x.v] w (RBestOut x.p.best x.p.bestE w):=by
 by_cases hc:x.p.chk=0
 ·cases hl:x.p.lim
  ·exact rbest_bad x w hP hF (.inr hl)
  ·exact rbest_run x w hP hF hc hl
 ·exact rbest_bad x w hP hF (.inl hc)
end Go.Proofs.YtnppngaabfhkpaaGreat
