/-
  The walks of layer 43 (optimum), part 24: possible of the reference.
-/
import Derived.Test.YtnppngaabfhkpaaGreatEU20
import Derived.Test.YtnppngaabfhkpaaGreatEOP7
import Derived.Test.YtnppngaabfhkpaaGreatEOP6
namespace Go.Proofs.YtnppngaabfhkpaaGreat
open Go.RowKit
attribute [local go_sem ↓] Go.wp_at_zero Go.wp_at_succ
theorem Pb.slot_at {p:Pb} {x:Pn} (g:p.Good) (k:Nat) (h0:0 ≤ x.heat.getD k 0) (h1:x.heat.getD k 0 ≤ p.room.steps):Pb.Slot p x k (x.charge.getD k 0) (x.heat.getD k 0) (p.outside.getD k 0) (p.demand.getD k 0) (p.solar.getD k 0) ((p.uses x).getD k 0) (p.lv x k) (p.tm x k):=by
 have hd:=allB_getD g.de (by omega) (by omega) k
 have hs:=allB_getD g.so (by omega) (by omega) k
 have hb:=step_drawn_bd (Pb.bat_good g).2 (p.lv x k) (x.charge.getD k 0)
 have hr:=Rm.good (Pb.room_ok g).1
 have hu:=Pb.uses_bd g x k
 have hs40:=hr.s1
 refine ⟨rfl,rfl,rfl,rfl,hd.1,hd.2,hs.1,hs.2,hb.1,hb.2,Int.mul_nonneg h0 hr.p0,?_,hu.1,hu.2⟩
 have:x.heat.getD k 0 * p.room.power ≤ 40 * 1000:=Int.mul_le_mul (by omega) hr.p1 hr.p0 (by omega)
 omega
set_option maxRecDepth 100000 in
set_option maxHeartbeats 64000000 in
theorem possible_any (x:PbM) (y:PnM) (w:World) (hP0:RPb w x) (hQ0:RPn w y) (hG0:y.Fit) (hc:x.p.chk=0) (hk0:y.charge.l.length ≤ x.buy.l.length) (hh:y.heat.l.length=y.charge.l.length) (hhb:∀ k,k < y.charge.l.length→0 ≤ y.heat.l.getD k 0∧y.heat.l.getD k 0 ≤ x.steps) :
  Calls Tryz.prog 96 #[x.v,y.v] w (GuardOut (∃ i,i < y.charge.l.length∧x.p.slotErr y.x i ≠ 0) w):=by
 have hP:=Lib.hid hP0
 have hQ:=Lib.hid hQ0
 have hgood:=Pb.good hc
 have hgd:=Lib.hid hgood
 have hld4:=Pb.loads4 hgood
 have hel:x.p.loads.length=x.loads.length:=by simp [PbM.p]
 have hnb:=(Pb.nbd hgood)
 obtain ⟨e4,e5,e6⟩:=hgood.lens
 have e4:x.solar.l.length=x.buy.l.length:=e4
 have e5:x.demand.l.length=x.buy.l.length:=e5
 have e6:x.outside.l.length=x.buy.l.length:=e6
 have hU0:(x.p.uses y.x).length=x.buy.l.length:=Pb.uses_len hgood y.x
 have hus0:=fun W (h:RPb W x) (h2:RPn W y) => rluses_any x.LA y.start.A x.lc y.start.c x.loads y.start.l x.buy.l.length W h.loads h2.start (PbM.prof_short hgood) hG0.ss (by omega)
 have hU1:usesL (x.loads.map LdM.r) y.start.l x.buy.l.length=x.p.uses y.x:=rfl
 rw [hU1] at hus0
 have hSL:=Lib.hid (fun k (hk:k < y.charge.l.length) => Pb.slot_at (x:=y.x) hgood k (hhb k hk).1 (hhb k hk).2)
 obtain ⟨U,hU⟩:∃ U,U=x.p.uses y.x:=⟨_,rfl⟩
 have HU:=Lib.hid hU
 rw [← hU] at hus0 hU0
 have hus:=Lib.hid hus0
 have E2:=Lib.hid hh
 have E4:=Lib.hid e4
 have E5:=Lib.hid e5
 have E6:=Lib.hid e6
 have EU:=Lib.hid hU0
 have HN:Hid (1 ≤ x.buy.l.length∧x.buy.l.length ≤ 96):=hnb
 have HK0:=Lib.hid hk0
 have hst0:=PX.start x y w
 simp only [PbM.v,PnM.v]
 obtain ⟨W,hW⟩:∃ W,W=(w.alloc (.cells x.cs 31)).alloc (.cells #[.slice y.charge.A y.charge.l.length y.charge.c,.slice y.heat.A y.heat.l.length y.heat.c,.slice y.start.A y.start.l.length y.start.c] 48):=⟨_,rfl⟩
 simp only [PbM.cs] at hW
 rw [show (w.alloc (.cells x.cs 31)).alloc (.cells y.cs 48)=W from hW.symm] at hst0
 have hst:=Lib.hid hst0
 have hWH:=Lib.hid hW
 clear hst0 hW hP0 hQ0 hG0 hc hh hhb hgood hld4 hel hnb e4 e5 e6 hU0 hus0 hU1 hU
 go_enter Tryz.func96,Tryz.ntmps96
 go_upto_region 1 with fail
 rw [← hWH.out]
 clear hWH
 obtain ⟨c0, -, -, -, -, -, -, -, -, -, -, -, -, -, -, -, -,c17,c18,c19⟩:=hst.out.pc
 obtain ⟨-, -,d2⟩:=hst.out.qc
 go_quiet (fail)
 go_wp2_with fail
 refine (hus.out _ ((hst.out.drewN nq).pr hP.out) ((hst.out.drewN nq).qr hQ.out)).mono ?_
 rintro e w6 ⟨AU,cU,rfl,hRU,hfU,hb6⟩
 have HX6:=Lib.hid ((hst.out.drewN nq).below hb6)
 have HRU6:=Lib.hid hRU
 clear c0 c17 c18 c19 d2 hb6 hfU hRU hst hus
 go_wp2_with fail
 go_loopw [5,6,8] (fun s5 s6 s8 wr => ∃ k:Nat,k ≤ y.charge.l.length∧s5 = .int .i64 (x.p.lv y.x k)∧s6 = .int .i64 (x.p.tm y.x k)∧s8 = .int .i64 k∧Hid (PX x y w wr)∧Hid (RInts wr AU U))
  (fun _ _ s8 _ => y.charge.l.length - (intOf s8).toNat)
 case atStart => exact ⟨0,by omega,rfl,rfl,rfl,HX6.out,HRU6.out⟩
 case round =>
  obtain ⟨k,hk,rfl,rfl,rfl,hRX,hRU⟩:=hrel
  obtain ⟨wo,hwo⟩:∃ wo:World,wo=wr:=⟨_,rfl⟩
  subst hwo
  have hk9:=HK0.out
  have hn9:=HN.out
  by_cases hlt:k < y.charge.l.length
  ·have hkc:k < y.charge.l.length:=hlt
   have hkh:k < y.heat.l.length:=by have:=E2.out; omega
   have hks:k < x.solar.l.length:=by have:=E4.out; omega
   have hkd:k < x.demand.l.length:=by have:=E5.out; omega
   have hko:k < x.outside.l.length:=by have:=E6.out; omega
   have hku:k < U.length:=by have:=EU.out; omega
   have hsl:=hSL.out k hlt
   obtain ⟨bc,oc,hCe,_,x0⟩:=(hRX.out.qr hQ.out).charge.at' hkc
   obtain ⟨bu,ou,hUe,_,_⟩:=hRU.out.at' hku
   rw [show y.x.charge.getD k 0=y.charge.l[k] from (getD_eq hkc).symm,show y.x.heat.getD k 0=y.heat.l[k] from (getD_eq hkh).symm,show x.p.solar.getD k 0=x.solar.l[k] from (getD_eq hks).symm,
    show x.p.demand.getD k 0=x.demand.l[k] from (getD_eq hkd).symm,show x.p.outside.getD k 0=x.outside.l[k] from (getD_eq hko).symm, ← HU.out, ← getD_eq hku] at hsl
   have HSL0:=Lib.hid hsl
   clear hsl
   subst hUe
   have hst0:=fun W => rstep_any x.bat (x.p.lv y.x k) y.charge.l[k] W
   obtain ⟨-, -, -, -, -, -,c6,c7,c8,c9,c10, -, -, -, -, -, -, -, -, -⟩:=hRX.out.pc
   have d0:=hRX.out.q.cell 0
   simp [PnM.cs] at d0
   rw [hCe] at d0
   clear hCe
   generalize y.charge.l[k]=c at *
   generalize x.p.lv y.x k=lv at *
   obtain ⟨st,hst⟩:∃ st,st=stepZ x.bat lv c:=⟨_,rfl⟩
   rw [← hst] at hst0
   have HST:=Lib.hid hst
   obtain ⟨l1,dr,er⟩:=st
   have hst1:∀ W,Calls Tryz.prog 79 #[.agg #[.int .i64 x.bat.cap,.int .i64 x.bat.reserve,.int .i64 x.bat.charge,.int .i64 x.bat.discharge,.int .i64 x.bat.eff],.int .i64 lv,.int .i64 c] W (fun e w' => e = .returned (.tuple #[.int .i64 l1,.int .i64 dr,.int .i64 er])∧Below W.heap.size W w'):=fun W => hst0 W
   have hstep:=Lib.hid hst1
   have i1:(0:Int) ≤ (k:Int):=by omega
   have i2:(k:Int) < (y.charge.l.length:Int):=by omega
   have HK:Hid (∀ W,Below wo.heap.size wo W→Below wo.heap.size wo W∧W.cell? ⟨w.heap.size,6,none⟩=some (.int .i64 x.bat.cap)∧W.cell? ⟨w.heap.size,7,none⟩=some (.int .i64 x.bat.reserve)∧W.cell? ⟨w.heap.size,8,none⟩=some (.int .i64 x.bat.charge)∧W.cell? ⟨w.heap.size,9,none⟩=some (.int .i64 x.bat.discharge)∧W.cell? ⟨w.heap.size,10,none⟩=some (.int .i64 x.bat.eff)∧W.cell? ⟨w.heap.size+1,0,none⟩=some (.slice (some ⟨bc,oc,none⟩) y.charge.l.length y.charge.c)∧W.cell? ⟨bc,oc+k,none⟩=some (.int .i64 c)):=fun W hb => ⟨hb,cell_below c6 hb,cell_below c7 hb,cell_below c8 hb,cell_below c9 hb,cell_below c10 hb,cell_below d0 hb,cell_below x0 hb⟩
   have d0':=d0
   clear hst hst0 hst1 c6 c7 c8 c9 c10 x0
   go_wp2_with fail
   clear d0 d0'
   go_region_held3 (fun w' => Below wo.heap.size wo w'∧w'.cell? ⟨w.heap.size,6,none⟩=some (.int .i64 x.bat.cap)∧w'.cell? ⟨w.heap.size,7,none⟩=some (.int .i64 x.bat.reserve)∧w'.cell? ⟨w.heap.size,8,none⟩=some (.int .i64 x.bat.charge)∧w'.cell? ⟨w.heap.size,9,none⟩=some (.int .i64 x.bat.discharge)∧w'.cell? ⟨w.heap.size,10,none⟩=some (.int .i64 x.bat.eff)∧w'.cell? ⟨w.heap.size+1,0,none⟩=some (.slice (some ⟨bc,oc,none⟩) y.charge.l.length y.charge.c)∧w'.cell? ⟨bc,oc+k,none⟩=some (.int .i64 c))
    (first | exact HK.out _ (Below.refl _ _) | exact HK.out _ (Below.drew (Below.refl _ _)) | exact HK.out _ (Below.drew (by assumption)) | exact HK.out _ (Below.drew (And.left (by assumption))) | exact HK.out _ (Below.trans (by first | assumption | exact And.left (by assumption) | exact Below.refl _ _ | exact Below.drew (Below.refl _ _) | exact Below.drew (by assumption) | exact Below.drew (And.left (by assumption))) (Below.mono (by assumption) (Below.size (by first | assumption | exact And.left (by assumption) | exact Below.refl _ _ | exact Below.drew (Below.refl _ _) | exact Below.drew (by assumption) | exact Below.drew (And.left (by assumption)))))))
    (first | (go_at_call 79; refine (hstep.out _).mono ?_; rintro e' w7 ⟨rfl,hb7⟩))
   rename_i hHeld
   have hb7':=hHeld.1
   have HX7:=Lib.hid (hRX.out.below hb7')
   have HRU7:=Lib.hid (hRU.out.below hb7')
   clear hb7 hb7' hHeld hstep i2 HK hRX hRU
   have HSL:Hid (Pb.Slot x.p y.x k c _ _ _ _ _ lv (x.p.tm y.x k)):=HSL0
   obtain ⟨bo,oo,hOe,_,o0⟩:=(HX7.out.pr hP.out).outside.at' hko
   obtain ⟨bh,oh,hHe,_,h0⟩:=(HX7.out.qr hQ.out).heat.at' hkh
   obtain ⟨-, -, -, -, -,c5, -, -, -, -, -,c11,c12,c13,c14,c15,c16, -, -, -⟩:=HX7.out.pc
   obtain ⟨-,d1, -⟩:=HX7.out.qc
   rw [hOe] at c5
   rw [hHe] at d1
   clear hOe hHe
   generalize x.outside.l[k]=o at *
   generalize y.heat.l[k]=h at *
   obtain ⟨tz,htz⟩:∃ tz,tz=x.room.valid.step (x.p.tm y.x k) o h:=⟨_,rfl⟩
   have HTZ:=Lib.hid htz
   have ht1:∀ W,RPb W x→Calls Tryz.prog 51 #[.agg #[.int .i64 x.gain,.int .i64 x.loss,.int .i64 x.steps,.int .i64 x.power,.slice x.low.A x.low.l.length x.low.c,.slice x.high.A x.high.l.length x.high.c],.int .i64 (x.p.tm y.x k),.int .i64 o,.int .i64 h] W (fun e w' => e = .returned (.int .i64 tz)∧Below W.heap.size W w'):=fun W hp => by
    rw [htz]; exact rtstep_any x.room x.low.A x.high.A x.low.c x.high.c (x.p.tm y.x k) o h W hp.low hp.high
   have HT:=Lib.hid ht1
   clear htz ht1
   generalize x.p.tm y.x k=tm at *
   have i3:(k:Int) < (x.outside.l.length:Int):=by omega
   have i4:(k:Int) < (y.heat.l.length:Int):=by omega
   have HK:Hid (∀ W,Below w7.heap.size w7 W→Below w7.heap.size w7 W∧W.cell? ⟨w.heap.size,11,none⟩=some (.int .i64 x.gain)∧W.cell? ⟨w.heap.size,12,none⟩=some (.int .i64 x.loss)∧W.cell? ⟨w.heap.size,13,none⟩=some (.int .i64 x.steps)∧W.cell? ⟨w.heap.size,14,none⟩=some (.int .i64 x.power)∧W.cell? ⟨w.heap.size,15,none⟩=some (.slice x.low.A x.low.l.length x.low.c)∧W.cell? ⟨w.heap.size,16,none⟩=some (.slice x.high.A x.high.l.length x.high.c)∧W.cell? ⟨w.heap.size,5,none⟩=some (.slice (some ⟨bo,oo,none⟩) x.outside.l.length x.outside.c)∧W.cell? ⟨w.heap.size+1,1,none⟩=some (.slice (some ⟨bh,oh,none⟩) y.heat.l.length y.heat.c)∧W.cell? ⟨bo,oo+k,none⟩=some (.int .i64 o)∧W.cell? ⟨bh,oh+k,none⟩=some (.int .i64 h)):=fun W hb => ⟨hb,cell_below c11 hb,cell_below c12 hb,cell_below c13 hb,cell_below c14 hb,cell_below c15 hb,cell_below c16 hb,cell_below c5 hb,cell_below d1 hb,cell_below o0 hb,cell_below h0 hb⟩
   clear c5 c11 c12 c13 c14 c15 c16 d1 o0 h0
   go_wp2_with fail
   go_region_held3 (fun w' => Below w7.heap.size w7 w'∧w'.cell? ⟨w.heap.size,11,none⟩=some (.int .i64 x.gain)∧w'.cell? ⟨w.heap.size,12,none⟩=some (.int .i64 x.loss)∧w'.cell? ⟨w.heap.size,13,none⟩=some (.int .i64 x.steps)∧w'.cell? ⟨w.heap.size,14,none⟩=some (.int .i64 x.power)∧w'.cell? ⟨w.heap.size,15,none⟩=some (.slice x.low.A x.low.l.length x.low.c)∧w'.cell? ⟨w.heap.size,16,none⟩=some (.slice x.high.A x.high.l.length x.high.c)∧w'.cell? ⟨w.heap.size,5,none⟩=some (.slice (some ⟨bo,oo,none⟩) x.outside.l.length x.outside.c)∧w'.cell? ⟨w.heap.size+1,1,none⟩=some (.slice (some ⟨bh,oh,none⟩) y.heat.l.length y.heat.c)∧w'.cell? ⟨bo,oo+k,none⟩=some (.int .i64 o)∧w'.cell? ⟨bh,oh+k,none⟩=some (.int .i64 h))
    (first | exact HK.out _ (Below.refl _ _) | exact HK.out _ (Below.drew (Below.refl _ _)) | exact HK.out _ (Below.drew (by assumption)) | exact HK.out _ (Below.drew (And.left (by assumption))) | exact HK.out _ (Below.trans (by first | assumption | exact And.left (by assumption) | exact Below.refl _ _ | exact Below.drew (Below.refl _ _) | exact Below.drew (by assumption) | exact Below.drew (And.left (by assumption))) (Below.mono (by assumption) (Below.size (by first | assumption | exact And.left (by assumption) | exact Below.refl _ _ | exact Below.drew (Below.refl _ _) | exact Below.drew (by assumption) | exact Below.drew (And.left (by assumption)))))))
    (first | (go_at_call 51; refine (HT.out _ ((HX7.out.below (by first | assumption | exact And.left (by assumption) | exact Below.refl _ _ | exact Below.drew (Below.refl _ _) | exact Below.drew (by assumption) | exact Below.drew (And.left (by assumption)))).pr hP.out)).mono ?_; rintro e' w8 ⟨rfl,hb8⟩))
   rename_i hHeld
   obtain ⟨hb8',c11,c12,c13,c14,c15,c16, -,d1, -,h0⟩:=hHeld
   have HX8:=Lib.hid (HX7.out.below hb8')
   have HRU8:=Lib.hid (HRU7.out.below hb8')
   clear hb8 hb8' HK HT i3 HX7 HRU7
   obtain ⟨bd,od,hDe,_,e0⟩:=(HX8.out.pr hP.out).demand.at' hkd
   obtain ⟨bs,os,hSe,_,s0⟩:=(HX8.out.pr hP.out).solar.at' hks
   obtain ⟨bu',ou',hUe,_,u0⟩:=HRU8.out.at' hku
   cases hUe
   obtain ⟨-, -,f2,s3,c4, -, -, -, -, -, -, -, -, -, -, -, -, -, -, -⟩:=HX8.out.pc
   rw [hDe] at c4
   rw [hSe] at s3
   clear f2 hDe hSe
   generalize x.demand.l[k]=dd at *
   generalize x.solar.l[k]=so at *
   generalize U[k]=uu at *
   have hsl2:=HSL.out
   have hd0:=hsl2.d0; have hd1:=hsl2.d1; have hs0:=hsl2.s0; have hs1:=hsl2.s1; have hr0:=hsl2.r0; have hr1:=hsl2.r1; have hm0:=hsl2.m0; have hm1:=hsl2.m1; have hu0:=hsl2.u0; have hu1:=hsl2.u1
   have hnet:=hsl2.net
   have hse:=hsl2.err
   have HTM:Hid (x.p.tm y.x (k+1)=tz):=by show _=_; rw [hsl2.tm',HTZ.out]; rfl
   have HLV:Hid (x.p.lv y.x (k+1)=l1):=by show _=_; rw [hsl2.lv',show stepZ x.p.bat lv c=(l1,dr,er) from HST.out.symm]
   rw [show stepZ x.p.bat lv c=(l1,dr,er) from HST.out.symm] at hr0 hr1 hnet hse
   have hm0:0 ≤ h * x.power:=hm0
   have hm1:h * x.power ≤ 40000:=hm1
   have hnet:x.p.net y.x k=dd+dr+h * x.power+uu - so:=hnet
   simp only [] at hr0 hr1
   have a1:IntKind.i64.wrap (dd+dr)=dd+dr:=IntWalk.i64_in _ (by omega)
   have a2:IntKind.i64.wrap (h * x.power)=h * x.power:=IntWalk.i64_in _ (by omega)
   have a3:IntKind.i64.wrap (dd+dr+h * x.power)=dd+dr+h * x.power:=IntWalk.i64_in _ (by omega)
   have a4:IntKind.i64.wrap (dd+dr+h * x.power+uu)=dd+dr+h * x.power+uu:=IntWalk.i64_in _ (by omega)
   have hfb:=Pb.fuse_bd hgd.out
   have hfb:1 ≤ x.fuse∧x.fuse ≤ 1000:=hfb
   have a6:IntKind.i64.wrap (-x.fuse) = -x.fuse:=IntWalk.i64_in _ (by omega)
   have A6:=Lib.hid a6
   have HFB:=Lib.hid hfb
   have i3:(k:Int) < (x.demand.l.length:Int):=by omega
   have i5:(k:Int) < (x.solar.l.length:Int):=by omega
   have i6:(k:Int) < (U.length:Int):=by omega
   obtain ⟨nz,hnz⟩:∃ nz,nz=dd+dr+h * x.power+uu - so:=⟨_,rfl⟩
   have hNZ:x.p.net y.x k=nz:=by rw [hnz]; exact hnet
   have a5:IntKind.i64.wrap (dd+dr+h * x.power+uu - so)=nz:=by rw [hnz]; exact IntWalk.i64_in _ (by omega)
   rw [HTM.out,hNZ] at hse
   have hse:x.p.slotErr y.x k=if er ≠ 0 then er else if (x.room.valid.okAt k tz && wB nz (-x.fuse) x.fuse)=true then 0 else 20:=hse
   have HSE:=Lib.hid hse
   clear hsl2 hd0 hd1 hs0 hs1 hr0 hr1 hm0 hm1 hu0 hu1 hnet hfb a6 hnz hse hNZ
   have C16:=Lib.hid (And.intro c11 (And.intro c12 (And.intro c13 (And.intro c14 (And.intro c15 c16)))))
   clear c11 c12 c13 c15 c16
   go_wp2_with fail
   go_quiet (fail)
   clear a1 a2 a3 a4 a5 s3 c4 d1 h0 e0 s0 u0 i3 i4 i5 i6 c14
   have ho1:∀ W,RPb W x→Calls Tryz.prog 106 #[.agg #[.int .i64 x.gain,.int .i64 x.loss,.int .i64 x.steps,.int .i64 x.power,.slice x.low.A x.low.l.length x.low.c,.slice x.high.A x.high.l.length x.high.c],.int .i64 k,.int .i64 tz] W (fun e w' => e = .returned (.bool (x.room.valid.okAt k tz))∧Below W.heap.size W w'):=fun W hp =>
    rtok_any x.room x.low.A x.high.A x.low.c x.high.c k tz W hp.low hp.high
   by_cases her:er=0
   ·have hen:(er != 0)=false:=by simp [her]
    have HER:=Lib.hid her
    clear her
    obtain ⟨c11,c12,c13,c14,c15,c16⟩:=C16.out
    cases hok:x.room.valid.okAt k tz
    all_goals
     rw [hok] at ho1
     have HOK:=Lib.hid hok
     have HO:=Lib.hid ho1
     clear ho1 hok
     go_wp2_with fail
     refine (HO.out _ ((HX8.out.drewN _).pr hP.out)).mono ?_
     rintro e wa ⟨rfl,hba⟩
     have HXa:=Lib.hid ((HX8.out.drewN _).below hba)
     have HRUa:=Lib.hid ((HRU8.out.drewN _).below hba)
     clear hba c11 c12 c13 c14 c15 c16
    ·go_wp2_with fail
     go_ret
     exact ⟨false,rfl,fun _ => ⟨k,hlt,by rw [HSE.out,HER.out,HOK.out]; simp⟩,HXa.out.bel⟩
    ·have f2c:=HXa.out.pc.2.2.1
     have a6:=A6.out
     rcases (show (nz < -x.fuse) ∨ (¬ nz < -x.fuse∧x.fuse < nz) ∨ (¬ nz < -x.fuse∧¬ x.fuse < nz) by omega) with g1 | ⟨g1,g2⟩ | ⟨g1,g2⟩
     ·have HW:=Lib.hid (wB_false.2 (.inl g1):wB nz (-x.fuse) x.fuse=false)
      go_wp2_with fail
      go_ret
      exact ⟨false,rfl,fun _ => ⟨k,hlt,by rw [HSE.out,HER.out,HW.out]; simp⟩,HXa.out.bel⟩
     ·have HW:=Lib.hid (wB_false.2 (.inr g2):wB nz (-x.fuse) x.fuse=false)
      go_wp2_with fail
      go_ret
      exact ⟨false,rfl,fun _ => ⟨k,hlt,by rw [HSE.out,HER.out,HW.out]; simp⟩,HXa.out.bel⟩
     ·go_wp2_with fail
      go_roundw
      case rel => exact ⟨k+1,by omega,by rw [HLV.out],by rw [HTM.out],by go_num,HXa.out,HRUa.out⟩
      case measure => simp [intOf]; omega
   ·have hen:(er != 0)=true:=by simpa using her
    have HER:=Lib.hid her
    clear her ho1
    go_wp2_with fail
    go_ret
    exact ⟨false,rfl,fun _ => ⟨k,hlt,by rw [HSE.out,if_pos HER.out]; exact HER.out⟩,(HX8.out.drewN _).bel⟩
  ·have j2:¬ (k:Int) < (y.charge.l.length:Int):=by omega
   have d0:=hRX.out.q.cell 0
   simp [PnM.cs] at d0
   go_wp2_with fail
   go_ret
   exact ⟨true,rfl,fun h => (by first | cases h | trivial),hRX.out.bel⟩
def SR.cs (x:PbM) (b:PnM) (f:Bool):Array Value:=#[.slice x.buy.A x.buy.l.length x.buy.c,.slice x.sell.A x.sell.l.length x.sell.c,.int .i64 x.fuse,.slice x.solar.A x.solar.l.length x.solar.c,.slice x.demand.A x.demand.l.length x.demand.c,.slice x.outside.A x.outside.l.length x.outside.c,.int .i64 x.bat.cap,.int .i64 x.bat.reserve,.int .i64 x.bat.charge,.int .i64 x.bat.discharge,.int .i64 x.bat.eff,.int .i64 x.gain,.int .i64 x.loss,.int .i64 x.steps,.int .i64 x.power,.slice x.low.A x.low.l.length x.low.c,.slice x.high.A x.high.l.length x.high.c,.slice x.LA x.loads.length x.lc,.int .i64 x.level,.int .i64 x.temp,.slice b.charge.A b.charge.l.length b.charge.c,.slice b.heat.A b.heat.l.length b.heat.c,.slice b.start.A b.start.l.length b.start.c,.bool f]
theorem SR.cs_one (x:PbM) (b:PnM) (f:Bool):(SR.cs x b f).all (·.oneCell')=true:=by simp [SR.cs,Value.oneCell']
def SRz:Array Value:=#[.slice none 0 0,.slice none 0 0,.int .i64 0,.slice none 0 0,.slice none 0 0,.slice none 0 0,.int .i64 0,.int .i64 0,.int .i64 0,.int .i64 0,.int .i64 0,.int .i64 0,.int .i64 0,.int .i64 0,.int .i64 0,.slice none 0 0,.slice none 0 0,.slice none 0 0,.int .i64 0,.int .i64 0,.slice none 0 0,.slice none 0 0,.slice none 0 0,.bool false]
def IntsAway (m:IntsM) (g:Nat):Prop:=m.l = [] ∨ ∀ ad,m.A=some ad→ad.block < g ∨ g+3 ≤ ad.block
def PnAway (b:PnM) (g:Nat):Prop:=IntsAway b.charge g∧IntsAway b.heat g∧IntsAway b.start g
theorem RInts.nilD {w:World} {A:Option Addr} {l:List Int} (h:l = []):RInts w A l:=by rw [h]; exact ⟨rfl,fun h => absurd h (by simp)⟩
theorem RInts.away {W W':World} {m:IntsM} {g k:Nat} (h:RInts W m.A m.l) (ha:IntsAway m g) (hg:W.grownBy W' (some k)) (h1:g ≤ k) (h2:k < g+3):RInts W' m.A m.l:=by
 rcases ha with ha | ha
 ·exact RInts.nilD ha
 ·exact h.other hg fun ad e => by
   have:=ha ad e
   intro hh
   injection hh with hh
   omega
theorem RPn.away {W W':World} {b:PnM} {g k:Nat} (h:RPn W b) (ha:PnAway b g) (hg:W.grownBy W' (some k)) (h1:g ≤ k) (h2:k < g+3):RPn W' b :=
 ⟨h.charge.away ha.1 hg h1 h2,h.heat.away ha.2.1 hg h1 h2,h.start.away ha.2.2 hg h1 h2⟩
theorem IntsAway.old {W:World} {m:IntsM} (h:RInts W m.A m.l):IntsAway m W.heap.size:=by
 by_cases e:m.l = []
 ·exact .inl e
 ·exact .inr fun ad hA => .inl (h.lt e ad hA)
theorem PnAway.old {W:World} {b:PnM} (h:RPn W b):PnAway b W.heap.size:=⟨IntsAway.old h.charge,IntsAway.old h.heat,IntsAway.old h.start⟩
def SOut (x:PbM) (V:Pn→Prop) (b0 y0:PnM) (w:World) (e:Ending) (w':World):Prop :=
 ∃ (b:PnM) (f:Bool),e = .returned (.agg (SR.cs x b f))∧RPn w' b∧b.Fit∧x.p.seen V f b.x∧(∀ g,g+3 ≤ w.heap.size→PnAway b0 g→PnAway y0 g→PnAway b g)∧Below w.heap.size w w'
section
variable {ops:Array Oper} {rest:List Oper} {o:Oper} {a:Act} {W:World} {Q:Exit→Act→World→Prop}
theorem SR.range_p {g:Nat} {t:TypeId} {x:PbM} {b:PnM} {f:Bool} (h:Blk W g t (SR.cs x b f)):W.rangeAt g 0 x.cs.toList:=by
 intro j v hv
 rw [Nat.zero_add,h.cell]
 have hj:j < 20:=by
  rcases Nat.lt_or_ge j 20 with h | h
  ·exact h
  ·rw [List.getElem?_eq_none (by simpa [PbM.cs] using h)] at hv; cases hv
 rw [← hv]
 match j,hj with
 | 0,_ | 1,_ | 2,_ | 3,_ | 4,_ | 5,_ | 6,_ | 7,_ | 8,_ | 9,_ | 10,_ | 11,_ | 12,_ | 13,_ | 14,_ | 15,_ | 16,_ | 17,_ | 18,_ | 19,_ => rfl
theorem SR.range_b {g:Nat} {t:TypeId} {x:PbM} {b:PnM} {f:Bool} (h:Blk W g t (SR.cs x b f)):W.rangeAt g 20 b.cs.toList:=by
 intro j v hv
 rw [h.cell]
 have hj:j < 3:=by
  rcases Nat.lt_or_ge j 3 with h | h
  ·exact h
  ·rw [List.getElem?_eq_none (by simpa [PnM.cs] using h)] at hv; cases hv
 rw [← hv]
 match j,hj with
 | 0,_ | 1,_ | 2,_ => rfl
theorem wpList_load_midP (hw:Region.wanted o (yielded ops a.tmps)=true) (s:Operand) (ho:o.op = .load 31 s) (g:Nat) (hx:a.eval s = .pointer (some ⟨g,0,none⟩)) (x:PbM) (h:W.rangeAt g 0 x.cs.toList) (hk:wpList Tryz.prog ops Q rest (a.put o.dst x.v) W) :
  wpList Tryz.prog ops Q (o :: rest) a W:=wpList_step fun _ hK => by
 rw [if_pos hw]
 cases hd:Program.underlying Tryz.prog 31 with
 | none => exact absurd hd (by intro e; have:(Program.underlying Tryz.prog 31).isSome=true:=(by kernel_rfl); rw [e] at this; cases this)
 | some d => exact wp_load_mid 31 s ho g 0 hx x.cs.toList d h hd (by have h1:(Program.underlying Tryz.prog 31).map TypeDesc.isRow=some true:=(by kernel_rfl); rw [hd] at h1; simpa using h1) (by kernel_rfl) (hK _ _ hk)
theorem wpList_load_midPL (hw:Region.wanted o (yielded ops a.tmps)=true) (s:Operand) (ho:o.op = .load 31 s) (g:Nat) (hx:a.eval s = .pointer (some ⟨g,0,none⟩)) (x:PbM) (h:W.rangeAt g 0 x.cs.toList) (hk:wpList Tryz.prog ops Q rest (a.put o.dst (.agg #[.slice x.buy.A x.buy.l.length x.buy.c,.slice x.sell.A x.sell.l.length x.sell.c,.int .i64 x.fuse,.slice x.solar.A x.solar.l.length x.solar.c,.slice x.demand.A x.demand.l.length x.demand.c,.slice x.outside.A x.outside.l.length x.outside.c,.int .i64 x.bat.cap,.int .i64 x.bat.reserve,.int .i64 x.bat.charge,.int .i64 x.bat.discharge,.int .i64 x.bat.eff,.int .i64 x.gain,.int .i64 x.loss,.int .i64 x.steps,.int .i64 x.power,.slice x.low.A x.low.l.length x.low.c,.slice x.high.A x.high.l.length x.high.c,.slice x.LA x.loads.length x.lc,.int .i64 x.level,.int .i64 x.temp])) W) :
  wpList Tryz.prog ops Q (o :: rest) a W:=wpList_load_midP hw s ho g hx x h hk
theorem wpList_load_planL (hw:Region.wanted o (yielded ops a.tmps)=true) (s:Operand) (ho:o.op = .load 48 s) (g:Nat) (hx:a.eval s = .pointer (some ⟨g,0,none⟩)) (y:PnM) (h:Blk W g 48 y.cs) (hk:wpList Tryz.prog ops Q rest (a.put o.dst (.agg #[.slice y.charge.A y.charge.l.length y.charge.c,.slice y.heat.A y.heat.l.length y.heat.c,.slice y.start.A y.start.l.length y.start.c])) W) :
  wpList Tryz.prog ops Q (o :: rest) a W:=wpList_step fun _ hK => step_load_blk hw 48 (by kernel_rfl) (by kernel_rfl) s ho g hx h (hK _ _ hk)
theorem wpList_load_midB (hw:Region.wanted o (yielded ops a.tmps)=true) (s:Operand) (ho:o.op = .load 48 s) (g:Nat) (hx:a.eval s = .pointer (some ⟨g,20,none⟩)) (b:PnM) (h:W.rangeAt g 20 b.cs.toList) (hk:wpList Tryz.prog ops Q rest (a.put o.dst b.v) W) :
  wpList Tryz.prog ops Q (o :: rest) a W:=wpList_step fun _ hK => by
 rw [if_pos hw]
 cases hd:Program.underlying Tryz.prog 48 with
 | none => exact absurd hd (by intro e; have:(Program.underlying Tryz.prog 48).isSome=true:=(by kernel_rfl); rw [e] at this; cases this)
 | some d => exact wp_load_mid 48 s ho g 20 hx b.cs.toList d h hd (by have h1:(Program.underlying Tryz.prog 48).map TypeDesc.isRow=some true:=(by kernel_rfl); rw [hd] at h1; simpa using h1) (by kernel_rfl) (hK _ _ hk)
theorem wpList_load_S (hgd:o.guard=none) (s:Operand) (ho:o.op = .load 92 s) (g:Nat) (hx:a.eval s = .pointer (some ⟨g,0,none⟩)) (x:PbM) (b:PnM) (f:Bool) {t:TypeId} (h:Blk W g t (SR.cs x b f)) (hk:wpList Tryz.prog ops Q rest (a.put o.dst (.agg (SR.cs x b f))) W) :
  wpList Tryz.prog ops Q (o :: rest) a W:=wpList_load_blk 92 (by kernel_rfl) (by kernel_rfl) hgd s ho g hx h hk
end
section
variable {ops:Array Oper} {rest:List Oper} {o:Oper} {a:Act} {W:World} {Q:Exit→Act→World→Prop}
end
structure SB (x:PbM) (b y:PnM) (f:Bool) (w wr:World):Prop where
 s:Blk wr w.heap.size 92 (SR.cs x b f)
 q:Blk wr (w.heap.size+1) 48 y.cs
 r:Blk wr (w.heap.size+2) 92 SRz
 bel:Below w.heap.size w wr
theorem SB.start (x:PbM) (b y:PnM) (f:Bool) (w:World):SB x b y f w (((w.alloc (.cells (SR.cs x b f) 92)).alloc (.cells y.cs 48)).alloc (.cells SRz 92)):=by
 obtain ⟨h1,h2,h3,h4⟩:=two_boxes (w:=w) (cs:=SR.cs x b f) (t:=92) (cs2:=y.cs) (t2:=48) (Below.refl _ _)
 have h5:Below w.heap.size w ((w.alloc (.cells (SR.cs x b f) 92)).alloc (.cells y.cs 48)):=h4
 generalize hW:(w.alloc (.cells (SR.cs x b f) 92)).alloc (.cells y.cs 48)=W at *
 have hs:W.heap.size=w.heap.size+2:=by rw [← hW]; simp
 have h6:=Blk.new W 92 SRz
 rw [hs] at h6
 have hb:Below W.heap.size W (W.alloc (.cells SRz 92)):=below_al (Below.refl _ _)
 exact ⟨h1.below hb h1.lt,h2.below hb h2.lt,h6,h5.trans (hb.mono h5.size)⟩
section
variable {x:PbM} {b y:PnM} {f:Bool} {w wr w1:World}
theorem SB.lt (h:SB x b y f w wr):w.heap.size+3 ≤ wr.heap.size:=h.r.lt
theorem SB.below (h:SB x b y f w wr) (hb:Below wr.heap.size wr w1):SB x b y f w w1:=⟨h.s.below hb h.s.lt,h.q.below hb h.q.lt,h.r.below hb h.r.lt,h.bel.trans (hb.mono h.bel.size)⟩
theorem SB.set {b':PnM} {f':Bool} (h:SB x b y f w wr) (hB:Blk w1 w.heap.size 92 (SR.cs x b' f')) (hg:wr.grownBy w1 (some w.heap.size)):SB x b' y f' w w1 :=
 ⟨hB,(h.q.grown hg (by intro e; injection e with e; omega)),(h.r.grown hg (by intro e; injection e with e; omega)),h.bel.grown hg h.bel.size (fun k e => by injection e with e; omega)⟩
end
theorem slots_ret {tmps:Array Value} {x:PbM} {b:PnM} {f:Bool} {V:Pn→Prop} {b0 y0:PnM} {w W:World} (h:Blk W (w.heap.size+2) 92 (SR.cs x b f)) (hb:RPn W b) (hf:b.Fit) (hs:x.p.seen V f b.x) (ha:∀ g,g+3 ≤ w.heap.size→PnAway b0 g→PnAway y0 g→PnAway b g) (hbel:Below w.heap.size w W)
  (h4:tmps.getD 4 undef = .pointer (some ⟨w.heap.size+2,0,none⟩)) :
  bodyPost Tryz.prog Tryz.f73 (SOut x V b0 y0 w) .ret { tmps:=tmps,defers := [] } W:=by
 refine bodyPost_ret (v := .agg (SR.cs x b f)) (results_cell rfl h4 (run_load_blk (by kernel_rfl) (by kernel_rfl) h)) rfl ?_
 exact ⟨b,f,rfl,hb,hf,hs,ha,hbel⟩
set_option maxRecDepth 100000 in
set_option maxHeartbeats 64000000 in
theorem slots_leaf (x:PbM) (V:Pn→Prop) (b y:PnM) (f:Bool) (w:World) (hP0:RPb w x) (hB0:RPn w b) (hBf:b.Fit) (hQ0:RPn w y) (hG0:y.Fit) (hF0:x.Fit) (hc:x.p.chk=0) (hs:x.p.seen V f b.x) (hl:y.heat.l.length=y.charge.l.length) (hk:y.charge.l.length=x.buy.l.length) :
  Calls Tryz.prog 73 #[.agg (SR.cs x b f),y.v] w (SOut x (Ve V y.x) b y w):=by
 have hP:=Lib.hid hP0
 have hB:=Lib.hid hB0
 have hQ:=Lib.hid hQ0
 have hG:=Lib.hid hG0
 have hF:=Lib.hid hF0
 have hBF:=Lib.hid hBf
 have HL:=Lib.hid hl
 have hst0:=SB.start x b y f w
 simp only [SR.cs,PnM.v]
 obtain ⟨W,hW⟩:∃ W,W=((w.alloc (.cells #[.slice x.buy.A x.buy.l.length x.buy.c,.slice x.sell.A x.sell.l.length x.sell.c,.int .i64 x.fuse,.slice x.solar.A x.solar.l.length x.solar.c,.slice x.demand.A x.demand.l.length x.demand.c,.slice x.outside.A x.outside.l.length x.outside.c,.int .i64 x.bat.cap,.int .i64 x.bat.reserve,.int .i64 x.bat.charge,.int .i64 x.bat.discharge,.int .i64 x.bat.eff,.int .i64 x.gain,.int .i64 x.loss,.int .i64 x.steps,.int .i64 x.power,.slice x.low.A x.low.l.length x.low.c,.slice x.high.A x.high.l.length x.high.c,.slice x.LA x.loads.length x.lc,.int .i64 x.level,.int .i64 x.temp,.slice b.charge.A b.charge.l.length b.charge.c,.slice b.heat.A b.heat.l.length b.heat.c,.slice b.start.A b.start.l.length b.start.c,.bool f] 92)).alloc (.cells #[.slice y.charge.A y.charge.l.length y.charge.c,.slice y.heat.A y.heat.l.length y.heat.c,.slice y.start.A y.start.l.length y.start.c] 48)).alloc (.cells #[.slice none 0 0,.slice none 0 0,.int .i64 0,.slice none 0 0,.slice none 0 0,.slice none 0 0,.int .i64 0,.int .i64 0,.int .i64 0,.int .i64 0,.int .i64 0,.int .i64 0,.int .i64 0,.int .i64 0,.int .i64 0,.slice none 0 0,.slice none 0 0,.slice none 0 0,.int .i64 0,.int .i64 0,.slice none 0 0,.slice none 0 0,.slice none 0 0,.bool false] 92):=⟨_,rfl⟩
 rw [show ((w.alloc (.cells (SR.cs x b f) 92)).alloc (.cells y.cs 48)).alloc (.cells SRz 92)=W from hW.symm] at hst0
 have HX0:Hid (SB x b y f w W):=hst0
 have hWH:=Lib.hid hW
 have hrun:=fun W (h:RPb W x) (h2:RPn W y) => rrun_any x y W h h2 hF0 hG0
 have hld:x.loads.length ≤ 1000:=by
  have h1:=Pb.loads4 (Pb.good hc)
  have h2:x.p.loads.length=x.loads.length:=by simp [PbM.p]
  omega
 have hbt:=fun W (h:RPb W x) (h2:RPn W y) (h3:RPn W b) => rbetter_any x y b W h h2 h3 hF0 hG0 hBf hld
 have hkeep:(x.p.err y.x ≠ 0 ∨ (f=true∧x.p.better y.x b.x=false))→x.p.seen (Ve V y.x) f b.x:=fun h => see_leaf (show y.charge.l.length=_ from hk) (show y.heat.l.length=_ from hl.trans hk) (Pb.seen_leave hs h)
 have htake:x.p.err y.x=0→(f=false ∨ x.p.better y.x b.x=true)→x.p.seen (Ve V y.x) true y.x:=fun h1 h2 => see_leaf (show y.charge.l.length=_ from hk) (show y.heat.l.length=_ from hl.trans hk) (Pb.seen_take hs h1 h2)
 have hkq:((y.charge.l.length:Int) == (x.buy.l.length:Int))=true:=by rw [beq_iff_eq]; omega
 have k0:=HX0.out.s.cell 0
 have d0:=HX0.out.q.cell 0
 simp [SR.cs] at k0
 simp [PnM.cs] at d0
 generalize x.p.err y.x=er at *
 generalize x.p.trace y.x=tr at *
 generalize x.p.better y.x b.x=bb at *
 have HRUN:=Lib.hid hrun
 have HBT:=Lib.hid hbt
 have HKEEP:=Lib.hid hkeep
 have HTAKE:=Lib.hid htake
 clear hst0 hW hP0 hB0 hQ0 hG0 hF0 hBf hc hs hl hrun hbt hkeep htake hk hld
 go_enter Tryz.func73,Tryz.ntmps73
 go_upto_region 1 with fail
 rw [← hWH.out]
 clear hWH
 go_wp2_with (first | refine wpList_load_midP (by rfl) _ rfl w.heap.size rfl x (SR.range_p HX0.out.s) ?_ | refine wpList_load_planG (by rfl) _ rfl (w.heap.size+1) rfl y HX0.out.q ?_ | refine wpList_load_midB (by rfl) _ rfl w.heap.size rfl b (SR.range_b HX0.out.s) ?_ | refine wpList_load_S rfl _ rfl w.heap.size rfl x b f HX0.out.s ?_)
 clear k0 d0 hkq
 refine (HRUN.out _ ((HX0.out.bel |> hP.out.below)) (hQ.out.below HX0.out.bel)).mono ?_
 rintro e w3 ⟨m, -,rfl, -,hbt⟩
 simp only [TrM.v]
 go_upto_region 4 with fail
 obtain ⟨v,hv⟩:∃ v,v=w3.alloc (.cells #[.slice m.net.A m.net.l.length m.net.c,.slice m.level.A m.level.l.length m.level.c,.slice m.temp.A m.temp.l.length m.temp.c,.int .i64 m.cost] 128):=⟨_,rfl⟩
 have HX1:Hid (SB x b y f w v):=by show SB _ _ _ _ _ _; rw [hv]; exact (HX0.out.below hbt).below (below_al (Below.refl _ _))
 rw [← hv]
 clear hv hbt HX0 HRUN
 have k22:=HX1.out.s.cell 23
 simp [SR.cs] at k22
 by_cases he:er=0
 ·have e1:(er == 0)=true:=by simp [he]
  have HE:=Lib.hid he
  clear he
  cases f
  ·go_upto_region 5 with fail
   go_wp2_with (first | (first | refine wpList_load_midPL (by rfl) _ rfl w.heap.size rfl x (SR.range_p HX1.out.s) ?_ | refine wpList_load_planL (by rfl) _ rfl (w.heap.size+1) rfl y HX1.out.q ?_) | refine wpList_store_blk rfl 92 _ _ rfl (w.heap.size+1+1) rfl (SR.cs x y true) (by kernel_rfl) (by kernel_rfl) (SR.cs_one _ _ _) HX1.out.r rfl ?_)
   intro w5 hB5 hg5
   have hbe:Below w.heap.size w w5:=HX1.out.bel.grown hg5 HX1.out.bel.size (fun k e => by injection e with e; omega)
   have HBE:=Lib.hid hbe
   have HB5:=Lib.hid hB5
   have HSE:=Lib.hid (HTAKE.out HE.out (by simp))
   clear hbe hB5 hg5
   go_wp2_with fail
   exact slots_ret HB5.out (hQ.out.below HBE.out) hG.out HSE.out (fun _ _ _ h => h) HBE.out rfl
  ·go_wp2_with (first | refine wpList_load_midP (by rfl) _ rfl w.heap.size rfl x (SR.range_p HX1.out.s) ?_ | refine wpList_load_planG (by rfl) _ rfl (w.heap.size+1) rfl y HX1.out.q ?_ | refine wpList_load_midB (by rfl) _ rfl w.heap.size rfl b (SR.range_b HX1.out.s) ?_ | refine wpList_load_S rfl _ rfl w.heap.size rfl x b true HX1.out.s ?_)
   clear k22
   refine (HBT.out _ (hP.out.below HX1.out.bel) (hQ.out.below HX1.out.bel) (hB.out.below HX1.out.bel)).mono ?_
   rintro e w4 ⟨rfl,hb4⟩
   have HX2:=Lib.hid (HX1.out.below hb4)
   clear hb4 HX1
   cases bb
   ·go_upto_region 6 with fail
    go_wp2_with (first | (first | refine wpList_load_midP (by rfl) _ rfl w.heap.size rfl x (SR.range_p HX2.out.s) ?_ | refine wpList_load_planG (by rfl) _ rfl (w.heap.size+1) rfl y HX2.out.q ?_ | refine wpList_load_midB (by rfl) _ rfl w.heap.size rfl b (SR.range_b HX2.out.s) ?_ | refine wpList_load_S rfl _ rfl w.heap.size rfl x b true HX2.out.s ?_) | refine wpList_store_blk rfl 92 _ _ rfl (w.heap.size+1+1) rfl (SR.cs x b true) (by kernel_rfl) (by kernel_rfl) (SR.cs_one _ _ _) HX2.out.r rfl ?_)
    intro w5 hB5 hg5
    have hbe:Below w.heap.size w w5:=HX2.out.bel.grown hg5 HX2.out.bel.size (fun k e => by injection e with e; omega)
    have HBE:=Lib.hid hbe
    have HB5:=Lib.hid hB5
    have HSE:=Lib.hid (HKEEP.out (by simp))
    clear hbe hB5 hg5
    go_wp2_with fail
    exact slots_ret HB5.out (hB.out.below HBE.out) hBF.out HSE.out (fun _ _ h _ => h) HBE.out rfl
   ·go_upto_region 5 with fail
    go_wp2_with (first | (first | refine wpList_load_midPL (by rfl) _ rfl w.heap.size rfl x (SR.range_p HX2.out.s) ?_ | refine wpList_load_planL (by rfl) _ rfl (w.heap.size+1) rfl y HX2.out.q ?_) | refine wpList_store_blk rfl 92 _ _ rfl (w.heap.size+1+1) rfl (SR.cs x y true) (by kernel_rfl) (by kernel_rfl) (SR.cs_one _ _ _) HX2.out.r rfl ?_)
    intro w5 hB5 hg5
    have hbe:Below w.heap.size w w5:=HX2.out.bel.grown hg5 HX2.out.bel.size (fun k e => by injection e with e; omega)
    have HBE:=Lib.hid hbe
    have HB5:=Lib.hid hB5
    have HSE:=Lib.hid (HTAKE.out HE.out (by simp))
    clear hbe hB5 hg5
    go_wp2_with fail
    exact slots_ret HB5.out (hQ.out.below HBE.out) hG.out HSE.out (fun _ _ _ h => h) HBE.out rfl
 ·have e1:(er == 0)=false:=by simp [he]
  have HE:=Lib.hid he
  clear he
  go_upto_region 6 with fail
  go_wp2_with (first | (first | refine wpList_load_midP (by rfl) _ rfl w.heap.size rfl x (SR.range_p HX1.out.s) ?_ | refine wpList_load_planG (by rfl) _ rfl (w.heap.size+1) rfl y HX1.out.q ?_ | refine wpList_load_midB (by rfl) _ rfl w.heap.size rfl b (SR.range_b HX1.out.s) ?_ | refine wpList_load_S rfl _ rfl w.heap.size rfl x b f HX1.out.s ?_) | refine wpList_store_blk rfl 92 _ _ rfl (w.heap.size+1+1) rfl (SR.cs x b f) (by kernel_rfl) (by kernel_rfl) (SR.cs_one _ _ _) HX1.out.r rfl ?_)
  intro w5 hB5 hg5
  have hbe:Below w.heap.size w w5:=HX1.out.bel.grown hg5 HX1.out.bel.size (fun k e => by injection e with e; omega)
  have HBE:=Lib.hid hbe
  have HB5:=Lib.hid hB5
  have HSE:=Lib.hid (HKEEP.out (.inl HE.out))
  clear hbe hB5 hg5
  go_wp2_with fail
  exact slots_ret HB5.out (hB.out.below HBE.out) hBF.out HSE.out (fun _ _ h _ => h) HBE.out rfl
end Go.Proofs.YtnppngaabfhkpaaGreat
