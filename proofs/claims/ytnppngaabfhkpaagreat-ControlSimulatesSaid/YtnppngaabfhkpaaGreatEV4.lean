/-
  The walks of layer 44 (control): the guards of the laws.
-/
import Derived.Test.YtnppngaabfhkpaaGreatECX
import Derived.Test.YtnppngaabfhkpaaGreatEOP6
namespace Go.Proofs.YtnppngaabfhkpaaGreat
open Go.RowKit
attribute [local go_sem ↓] Go.wp_at_zero Go.wp_at_succ
theorem seven_at (x:PbM) (k:Nat) (hk:k < 7):∃ A n c,(#[.slice x.buy.A x.buy.l.length x.buy.c,.slice x.sell.A x.sell.l.length x.sell.c,.slice x.solar.A x.solar.l.length x.solar.c,.slice x.demand.A x.demand.l.length x.demand.c,.slice x.outside.A x.outside.l.length x.outside.c,.slice x.low.A x.low.l.length x.low.c,.slice x.high.A x.high.l.length x.high.c]:Array Value)[k]? = some (.slice A n c):=by
 match k,hk with
 | 0,_ => exact ⟨_,_,_,rfl⟩
 | 1,_ => exact ⟨_,_,_,rfl⟩
 | 2,_ => exact ⟨_,_,_,rfl⟩
 | 3,_ => exact ⟨_,_,_,rfl⟩
 | 4,_ => exact ⟨_,_,_,rfl⟩
 | 5,_ => exact ⟨_,_,_,rfl⟩
 | 6,_ => exact ⟨_,_,_,rfl⟩
set_option maxRecDepth 100000 in
set_option maxHeartbeats 16000000 in
theorem large_any (x:PbM) (w:World) (hP0:RPb w x) :
  Calls Tryz.prog 5 #[x.v] w (GuardOut True w):=by
 have hP:=Lib.hid hP0
 have hst0:=PB.start x w
 simp only [PbM.v]
 obtain ⟨W,hW⟩:∃ W,W=w.alloc (.cells x.cs 31):=⟨_,rfl⟩
 simp only [PbM.cs] at hW
 rw [show w.alloc (.cells x.cs 31)=W from hW.symm] at hst0
 have hst:=Lib.hid hst0
 have hWH:=Lib.hid hW
 clear hst0 hW hP0
 go_enter Tryz.func5,Tryz.ntmps5
 go_upto_region 1 with fail
 rw [← hWH.out]
 clear hWH
 have c0:=hst.out.p.cell 0
 have c1:=hst.out.p.cell 1
 have c3:=hst.out.p.cell 3
 have c4:=hst.out.p.cell 4
 have c5:=hst.out.p.cell 5
 have c15:=hst.out.p.cell 15
 have c16:=hst.out.p.cell 16
 simp [PbM.cs] at c0 c1 c3 c4 c5 c15 c16
 go_upto_region 2 with fail
 obtain ⟨gb,hgb⟩:∃ n,n=W.heap.size:=⟨_,rfl⟩
 obtain ⟨w1,hw1⟩:∃ V,V=W.alloc (.cells #[.slice x.buy.A x.buy.l.length x.buy.c,.slice x.sell.A x.sell.l.length x.sell.c,.slice x.solar.A x.solar.l.length x.solar.c,.slice x.demand.A x.demand.l.length x.demand.c,.slice x.outside.A x.outside.l.length x.outside.c,.slice x.low.A x.low.l.length x.low.c,.slice x.high.A x.high.l.length x.high.c] 52):=⟨_,rfl⟩
 rw [← hgb, ← hw1]
 have H7:Hid (Blk w1 gb 52 #[.slice x.buy.A x.buy.l.length x.buy.c,.slice x.sell.A x.sell.l.length x.sell.c,.slice x.solar.A x.solar.l.length x.solar.c,.slice x.demand.A x.demand.l.length x.demand.c,.slice x.outside.A x.outside.l.length x.outside.c,.slice x.low.A x.low.l.length x.low.c,.slice x.high.A x.high.l.length x.high.c]):=by show Blk _ _ _ _; rw [hw1,hgb]; exact Blk.new _ _ _
 have hb1:Below W.heap.size W w1:=by rw [hw1]; exact below_al (Below.refl _ _)
 have HP:=Lib.hid (hst.out.p.below hb1 hst.out.p.lt)
 have HB:=Lib.hid (hst.out.bel.trans (hb1.mono hst.out.bel.size))
 clear hst hgb hw1 hb1 c0 c1 c3 c4 c5 c15 c16
 go_wp2_with fail
 go_loopw [4] (fun s4 wr => ∃ k:Nat,k ≤ 7∧s4 = .int .i64 k∧w1=wr)
  (fun s4 _ => 7 - (intOf s4).toNat)
 case atStart => exact ⟨0,by omega,rfl,rfl⟩
 case round =>
  obtain ⟨k,hk,rfl,rfl⟩:=hrel
  by_cases hlt:k < 7
  ·have i1:(0:Int) ≤ (k:Int):=by omega
   have i2:(k:Int) < 7:=by omega
   obtain ⟨A,n,c,hA⟩:=seven_at x k hlt
   have z0:=H7.out.cell k
   rw [hA] at z0
   clear hA
   by_cases h1:(110:Int) < (n:Int)
   ·go_wp2_with fail
    go_ret
    exact ⟨_,rfl,(fun _ => trivial),HB.out⟩
   ·go_wp2_with fail
    go_roundw
    case rel => exact ⟨k+1,by omega,by go_num,trivial⟩
    case measure => simp [intOf]; omega
  ·have c17:=HP.out.cell 17
   simp [PbM.cs] at c17
   clear H7
   go_wp2_with fail
   go_loopw [5] (fun s5 wr => ∃ k:Nat,k ≤ x.loads.length∧k ≤ 7∧s5 = .int .i64 k∧w1=wr)
    (fun s5 _ => 7 - (intOf s5).toNat)
   case atStart => exact ⟨0,by omega,by omega,rfl,rfl⟩
   case round =>
    obtain ⟨k,hk,hk7,rfl,rfl⟩:=hrel
    by_cases hl:k < x.loads.length
    ·by_cases h7:k < 7
     ·have i1:(0:Int) ≤ (k:Int):=by omega
      have i2:(k:Int) < (x.loads.length:Int):=by omega
      have i3:(k:Int) < 7:=by omega
      obtain ⟨bL,oL,hAe,_,y0,y1,y2,y3⟩:=(hP.out.below HB.out).loads.at' hl
      generalize x.loads[k]=X at *
      rw [hAe] at c17
      by_cases h1:(30:Int) < (X.r.prof.length:Int)
      ·go_wp2_with fail
       go_ret
       exact ⟨_,rfl,(fun _ => trivial),HB.out⟩
      ·go_wp2_with fail
       go_roundw
       case rel => exact ⟨k+1,by omega,by omega,by go_num,trivial⟩
       case measure => simp [intOf]; omega
     ·have i2:(k:Int) < (x.loads.length:Int):=by omega
      have i3:¬ (k:Int) < 7:=by omega
      go_wp2_with fail
      go_ret
      exact ⟨_,rfl,(fun _ => trivial),HB.out⟩
    ·have i2:¬ (k:Int) < (x.loads.length:Int):=by omega
     go_wp2_with fail
     go_ret
     exact ⟨_,rfl,(fun _ => trivial),HB.out⟩
theorem rloads44_lit {W:World} (cs:Array Value) (t:TypeId) {l:List LdM} (h:∀ x ∈ l,RInts W x.A x.r.prof) (hcs:cs.toList=ldCells l):RLoads (W.alloc (.cells cs t)) (some ⟨W.heap.size,0,none⟩) l:=by
 refine ⟨⟨by rw [ldCells_length],fun _ => ⟨_,rfl,by simp,fun j u hu => ?_⟩⟩,fun x hx => (h x hx).alloc _⟩
 rw [addr_add,Nat.zero_add,(Blk.new W t cs).cell j, ← hu, ← hcs]
 simp
def awM (b:Nat):PbM:=⟨⟨some ⟨b,0,none⟩,1, [30]⟩,⟨some ⟨b+1,0,none⟩,1, [5]⟩,2,⟨some ⟨b+1+1,0,none⟩,1, [0]⟩,⟨some ⟨b+1+1+1,0,none⟩,1, [0]⟩,⟨some ⟨b+1+1+1+1,0,none⟩,1, [100]⟩,⟨0,0,0,0,1000⟩,0,0,0,0,⟨some ⟨b+1+1+1+1+1,0,none⟩,1, [0]⟩,⟨some ⟨b+1+1+1+1+1+1,0,none⟩,1, [200]⟩,some ⟨b+1+1+1+1+1+1+1+1,0,none⟩,1, [⟨⟨⟨#[119,97,115,104]⟩, [5],0,1⟩,some ⟨b+1+1+1+1+1+1+1,0,none⟩,1⟩],0,100⟩
def awP:Pb:=⟨⟨[30], [5],2⟩, [0], [0], [100],⟨0,0,0,0,1000⟩,⟨0,0,0,0, [0], [200]⟩, [⟨⟨#[119,97,115,104]⟩, [5],0,1⟩],0,100⟩
theorem awM_p (b:Nat):(awM b).p=awP:=rfl
theorem awM_fit (b:Nat):(awM b).Fit:=⟨by simp [awM,maxLen]; decide,by simp [awM,maxLen],by simp [awM],by simp [awM,maxLen],by simp [awM]⟩
theorem awM_cap (b:Nat):(awM b).Cap:=⟨by simp [awM],by simp [awM],by simp [awM],by simp [awM],by simp [awM],by simp [awM],by simp [awM],by simp [awM],by simp [awM]⟩
theorem aw_be:awP.bestE=20:=by decide +kernel
theorem aw_d0:awP.dec.charge=0:=by decide +kernel
theorem aw_d1:awP.dec.heat=0:=by decide +kernel
theorem aw_d2:awP.dec.starts = [true]:=by decide +kernel
theorem aw_s0:awP.simP.charge.length=1:=by decide +kernel
theorem aw_s1:awP.simP.heat.length=1:=by decide +kernel
theorem aw_s2:awP.simP.start = [0]:=by decide +kernel
theorem aw_ae:awP.advE awP.dec=2:=by decide +kernel
theorem aw_a0:awP.apL awP.dec=0:=by decide +kernel
theorem aw_a1:awP.apT awP.dec=100:=by decide +kernel
theorem aw_a2:awP.apN awP.dec=5:=by decide +kernel
theorem aw_a3:awP.doE awP.dec=0:=by decide +kernel
structure LD44 (d:DcM) (t:Nat) (wr:World):Prop where
 p:Blk wr t 39 d.cs
 r:RBools wr d.A d.l
theorem LD44.below {d:DcM} {t:Nat} {wr w1:World} (h:LD44 d t wr) (hb:Below wr.heap.size wr w1):LD44 d t w1:=⟨h.p.below hb h.p.lt,h.r.below hb⟩
theorem ld44_store {d:DcM} {w1 w2:World} (hr:RBools w1 d.A d.l) (hs:Below w1.heap.size w1 w2) (hB:Blk w2 w1.heap.size 39 d.cs):LD44 d w1.heap.size w2:=⟨hB,hr.below hs⟩
set_option maxRecDepth 100000 in
set_option maxHeartbeats 64000000 in
theorem awake44_any (w:World):Calls Tryz.prog 8 #[] w fun e w' => e = .returned (.bool true)∧Below w.heap.size w w':=by
 obtain ⟨m,hm⟩:∃ m,m=awM w.heap.size:=⟨_,rfl⟩
 have hcs:m.cs=(awM w.heap.size).cs:=by rw [hm]
 have hmf:m.Fit:=by rw [hm]; exact awM_fit _
 have hmc:m.Cap:=by rw [hm]; exact awM_cap _
 have hmp:m.p=awP:=by rw [hm]; exact awM_p _
 have hde:=fun W (h:RPb W m) => decide_any m W h hmf
 have hsi:=fun W (h:RPb W m) => simulateX_any m W h hmf hmc
 have had:=fun (d:DcM) W (hd:d.d=awP.dec) (h:RPb W m) (h2:RBools W d.A d.l) => ((advanceX_any m d W h hmf hmc h2).mono (by
  intro e w' hh
  rw [hmp,hd] at hh
  rcases hh with ⟨h0,_⟩ | ⟨_,he,hb⟩
  ·rw [aw_ae] at h0; cases h0
  ·rw [aw_ae] at he; exact ⟨he,hb⟩):Calls Tryz.prog 21 #[m.v,d.v] W (fun e w' => e = .returned (.tuple #[PbM.nil.v,.int .i64 2])∧Below W.heap.size W w'))
 have hap:=fun (d:DcM) W (hd:d.d=awP.dec) (h:RPb W m) (h2:RBools W d.A d.l) => ((apply_any m d W h hmf h2).mono (by
  intro e w' hh
  rw [hmp,hd] at hh
  obtain ⟨he,hb⟩:=hh
  rw [aw_a0,aw_a1,aw_a2,aw_a3] at he
  exact ⟨he,hb⟩):Calls Tryz.prog 22 #[m.v,d.v] W (fun e w' => e = .returned (.tuple #[.int .i64 0,.int .i64 100,.int .i64 5,.int .i64 0])∧Below W.heap.size W w'))
 rw [hmp,aw_be] at hde
 rw [hmp] at hsi
 have HDE:=Lib.hid hde
 have HSI:=Lib.hid hsi
 have HAD:=Lib.hid had
 have HAP:=Lib.hid hap
 have HCS:=Lib.hid hcs
 have HM:=Lib.hid hm
 obtain ⟨W,hW⟩:∃ W,W=(((((((((w).alloc (.cells #[.int .i64 30] 3)).alloc (.cells #[.int .i64 5] 3)).alloc (.cells #[.int .i64 0] 3)).alloc (.cells #[.int .i64 0] 3)).alloc (.cells #[.int .i64 100] 3)).alloc (.cells #[.int .i64 0] 3)).alloc (.cells #[.int .i64 200] 3)).alloc (.cells #[.int .i64 5] 3)).alloc (.cells #[.string ⟨#[119,97,115,104]⟩,.slice (some ⟨w.heap.size+1+1+1+1+1+1+1,0,none⟩) 1 1,.int .i64 0,.int .i64 1] 54):=⟨_,rfl⟩
 have hr:RPb W m∧Below w.heap.size w W∧W.heap.size=w.heap.size+1+1+1+1+1+1+1+1+1:=by
  rw [hm,hW]
  have r0:RInts ((w).alloc (.cells #[.int .i64 30] 3)) (some ⟨w.heap.size,0,none⟩) [30]:=by
   have h:=rints_lit (w) #[.int .i64 30] 3 (l := [30]) rfl
   simpa using h
  have r1:RInts (((w).alloc (.cells #[.int .i64 30] 3)).alloc (.cells #[.int .i64 5] 3)) (some ⟨w.heap.size+1,0,none⟩) [5]:=by
   have h:=rints_lit ((w).alloc (.cells #[.int .i64 30] 3)) #[.int .i64 5] 3 (l := [5]) rfl
   simpa using h
  have r2:RInts ((((w).alloc (.cells #[.int .i64 30] 3)).alloc (.cells #[.int .i64 5] 3)).alloc (.cells #[.int .i64 0] 3)) (some ⟨w.heap.size+1+1,0,none⟩) [0]:=by
   have h:=rints_lit (((w).alloc (.cells #[.int .i64 30] 3)).alloc (.cells #[.int .i64 5] 3)) #[.int .i64 0] 3 (l := [0]) rfl
   simpa using h
  have r3:RInts (((((w).alloc (.cells #[.int .i64 30] 3)).alloc (.cells #[.int .i64 5] 3)).alloc (.cells #[.int .i64 0] 3)).alloc (.cells #[.int .i64 0] 3)) (some ⟨w.heap.size+1+1+1,0,none⟩) [0]:=by
   have h:=rints_lit ((((w).alloc (.cells #[.int .i64 30] 3)).alloc (.cells #[.int .i64 5] 3)).alloc (.cells #[.int .i64 0] 3)) #[.int .i64 0] 3 (l := [0]) rfl
   simpa using h
  have r4:RInts ((((((w).alloc (.cells #[.int .i64 30] 3)).alloc (.cells #[.int .i64 5] 3)).alloc (.cells #[.int .i64 0] 3)).alloc (.cells #[.int .i64 0] 3)).alloc (.cells #[.int .i64 100] 3)) (some ⟨w.heap.size+1+1+1+1,0,none⟩) [100]:=by
   have h:=rints_lit (((((w).alloc (.cells #[.int .i64 30] 3)).alloc (.cells #[.int .i64 5] 3)).alloc (.cells #[.int .i64 0] 3)).alloc (.cells #[.int .i64 0] 3)) #[.int .i64 100] 3 (l := [100]) rfl
   simpa using h
  have r5:RInts (((((((w).alloc (.cells #[.int .i64 30] 3)).alloc (.cells #[.int .i64 5] 3)).alloc (.cells #[.int .i64 0] 3)).alloc (.cells #[.int .i64 0] 3)).alloc (.cells #[.int .i64 100] 3)).alloc (.cells #[.int .i64 0] 3)) (some ⟨w.heap.size+1+1+1+1+1,0,none⟩) [0]:=by
   have h:=rints_lit ((((((w).alloc (.cells #[.int .i64 30] 3)).alloc (.cells #[.int .i64 5] 3)).alloc (.cells #[.int .i64 0] 3)).alloc (.cells #[.int .i64 0] 3)).alloc (.cells #[.int .i64 100] 3)) #[.int .i64 0] 3 (l := [0]) rfl
   simpa using h
  have r6:RInts ((((((((w).alloc (.cells #[.int .i64 30] 3)).alloc (.cells #[.int .i64 5] 3)).alloc (.cells #[.int .i64 0] 3)).alloc (.cells #[.int .i64 0] 3)).alloc (.cells #[.int .i64 100] 3)).alloc (.cells #[.int .i64 0] 3)).alloc (.cells #[.int .i64 200] 3)) (some ⟨w.heap.size+1+1+1+1+1+1,0,none⟩) [200]:=by
   have h:=rints_lit (((((((w).alloc (.cells #[.int .i64 30] 3)).alloc (.cells #[.int .i64 5] 3)).alloc (.cells #[.int .i64 0] 3)).alloc (.cells #[.int .i64 0] 3)).alloc (.cells #[.int .i64 100] 3)).alloc (.cells #[.int .i64 0] 3)) #[.int .i64 200] 3 (l := [200]) rfl
   simpa using h
  have r7:RInts (((((((((w).alloc (.cells #[.int .i64 30] 3)).alloc (.cells #[.int .i64 5] 3)).alloc (.cells #[.int .i64 0] 3)).alloc (.cells #[.int .i64 0] 3)).alloc (.cells #[.int .i64 100] 3)).alloc (.cells #[.int .i64 0] 3)).alloc (.cells #[.int .i64 200] 3)).alloc (.cells #[.int .i64 5] 3)) (some ⟨w.heap.size+1+1+1+1+1+1+1,0,none⟩) [5]:=by
   have h:=rints_lit ((((((((w).alloc (.cells #[.int .i64 30] 3)).alloc (.cells #[.int .i64 5] 3)).alloc (.cells #[.int .i64 0] 3)).alloc (.cells #[.int .i64 0] 3)).alloc (.cells #[.int .i64 100] 3)).alloc (.cells #[.int .i64 0] 3)).alloc (.cells #[.int .i64 200] 3)) #[.int .i64 5] 3 (l := [5]) rfl
   simpa using h
  have hl:RLoads ((((((((((w).alloc (.cells #[.int .i64 30] 3)).alloc (.cells #[.int .i64 5] 3)).alloc (.cells #[.int .i64 0] 3)).alloc (.cells #[.int .i64 0] 3)).alloc (.cells #[.int .i64 100] 3)).alloc (.cells #[.int .i64 0] 3)).alloc (.cells #[.int .i64 200] 3)).alloc (.cells #[.int .i64 5] 3)).alloc (.cells #[.string ⟨#[119,97,115,104]⟩,.slice (some ⟨w.heap.size+1+1+1+1+1+1+1,0,none⟩) 1 1,.int .i64 0,.int .i64 1] 54)) (some ⟨w.heap.size+1+1+1+1+1+1+1+1,0,none⟩) (awM w.heap.size).loads:=by
   have h:=rloads44_lit (W:=((((((((w).alloc (.cells #[.int .i64 30] 3)).alloc (.cells #[.int .i64 5] 3)).alloc (.cells #[.int .i64 0] 3)).alloc (.cells #[.int .i64 0] 3)).alloc (.cells #[.int .i64 100] 3)).alloc (.cells #[.int .i64 0] 3)).alloc (.cells #[.int .i64 200] 3)).alloc (.cells #[.int .i64 5] 3)) (#[.string ⟨#[119,97,115,104]⟩,.slice (some ⟨w.heap.size+1+1+1+1+1+1+1,0,none⟩) 1 1,.int .i64 0,.int .i64 1]) 54 (l:=(awM w.heap.size).loads) (by
    intro x hx
    have hx:x=⟨⟨⟨#[119,97,115,104]⟩, [5],0,1⟩,some ⟨w.heap.size+1+1+1+1+1+1+1,0,none⟩,1⟩:=by simpa [awM] using hx
    subst hx
    exact r7) rfl
   simpa using h
  refine ⟨⟨((((((((r0).alloc _).alloc _).alloc _).alloc _).alloc _).alloc _).alloc _).alloc _,(((((((r1).alloc _).alloc _).alloc _).alloc _).alloc _).alloc _).alloc _,((((((r2).alloc _).alloc _).alloc _).alloc _).alloc _).alloc _,(((((r3).alloc _).alloc _).alloc _).alloc _).alloc _,((((r4).alloc _).alloc _).alloc _).alloc _,(((r5).alloc _).alloc _).alloc _,((r6).alloc _).alloc _,hl⟩,?_,by simp⟩
  exact (((((((((Below.refl w.heap.size w).alloc (by omega) _).alloc (by simp; try omega) _).alloc (by simp; try omega) _).alloc (by simp; try omega) _).alloc (by simp; try omega) _).alloc (by simp; try omega) _).alloc (by simp; try omega) _).alloc (by simp; try omega) _).alloc (by simp; try omega) _
 have HR:=Lib.hid hr
 have HW:=Lib.hid hW
 clear hr hW hcs hmf hmc hmp hde hsi had hap hm
 go_enter Tryz.func8,Tryz.ntmps8
 go_upto_region 1 with fail
 go_wp2_with (refine wpList_plain rfl (fun K hK => ?_); have HK:=Lib.hid hK; clear hK)
 refine HK.out _ _ ?_
 clear HK
 go_wp2_with (refine wpList_plain rfl (fun K hK => ?_); have HK:=Lib.hid hK; clear hK)
 refine HK.out _ _ ?_
 clear HK
 go_wp2_with (refine wpList_plain rfl (fun K hK => ?_); have HK:=Lib.hid hK; clear hK)
 refine HK.out _ _ ?_
 clear HK
 go_wp2_with (refine wpList_plain rfl (fun K hK => ?_); have HK:=Lib.hid hK; clear hK)
 refine HK.out _ _ ?_
 clear HK
 go_wp2_with (refine wpList_plain rfl (fun K hK => ?_); have HK:=Lib.hid hK; clear hK)
 refine HK.out _ _ ?_
 clear HK
 go_wp2_with (refine wpList_plain rfl (fun K hK => ?_); have HK:=Lib.hid hK; clear hK)
 refine HK.out _ _ ?_
 clear HK
 go_wp2_with (refine wpList_plain rfl (fun K hK => ?_); have HK:=Lib.hid hK; clear hK)
 refine HK.out _ _ ?_
 clear HK
 go_wp2_with (refine wpList_plain rfl (fun K hK => ?_); have HK:=Lib.hid hK; clear hK)
 refine HK.out _ _ ?_
 clear HK
 go_wp2_with (refine wpList_plain rfl (fun K hK => ?_); have HK:=Lib.hid hK; clear hK)
 refine HK.out _ _ ?_
 clear HK
 go_wp2_with (refine wpList_plain rfl (fun K hK => ?_); have HK:=Lib.hid hK; clear hK)
 refine HK.out _ _ ?_
 clear HK
 go_wp2_with (refine wpList_plain rfl (fun K hK => ?_); have HK:=Lib.hid hK; clear hK)
 refine HK.out _ _ ?_
 clear HK
 go_wp2_with (refine wpList_plain rfl (fun K hK => ?_); have HK:=Lib.hid hK; clear hK)
 refine HK.out _ _ ?_
 clear HK
 go_wp2_with (refine wpList_plain rfl (fun K hK => ?_); have HK:=Lib.hid hK; clear hK)
 refine HK.out _ _ ?_
 clear HK
 go_wp2_with (refine wpList_plain rfl (fun K hK => ?_); have HK:=Lib.hid hK; clear hK)
 refine HK.out _ _ ?_
 clear HK
 go_wp2_with (refine wpList_plain rfl (fun K hK => ?_); have HK:=Lib.hid hK; clear hK)
 refine HK.out _ _ ?_
 clear HK
 rw [← HW.out]
 (try rw [← HR.out.2.2])
 refine wpList_store_blk rfl 31 _ _ rfl W.heap.size rfl m.cs (by rw [HCS.out]; rfl) (by kernel_rfl) (PbM.cs_one _) (Blk.new W _ _) rfl ?_
 intro w2 hB2 hg2
 have hs2:Below W.heap.size W w2:=((Below.refl W.heap.size W).alloc (Nat.le_refl _) (.cells #[.slice none 0 0,.slice none 0 0,.int .i64 0,.slice none 0 0,.slice none 0 0,.slice none 0 0,.int .i64 0,.int .i64 0,.int .i64 0,.int .i64 0,.int .i64 0,.int .i64 0,.int .i64 0,.int .i64 0,.int .i64 0,.slice none 0 0,.slice none 0 0,.slice none 0 0,.int .i64 0,.int .i64 0] 31)).grown hg2 (by simp) (fun k e => by injection e with e; omega)
 obtain ⟨t1,ht⟩:∃ t,t=W.heap.size:=⟨_,rfl⟩
 have HV2:=Lib.hid (lv_store HR.out.1 HR.out.2.1 hs2 hB2)
 rw [← ht] at HV2
 have HT:=Lib.hid ht
 clear hs2 hB2 hg2 ht HR HW HCS
 go_upto_region 2 with fail
 rw [← HT.out]
 clear HT
 go_wp2_with (refine wpList_load_problemG (by rfl) _ rfl t1 rfl m HV2.out.p ?_)
 refine (HDE.out _ HV2.out.r).mono ?_
 rintro e w3 ⟨_,rfl,d,rfl,hd,hrd,_,_,hb3⟩
 have HV3:=Lib.hid (HV2.out.below hb3)
 have HDd:=Lib.hid hd
 have HRd:=Lib.hid hrd
 clear hb3 HV2 HDE hd hrd
 simp only [DcM.v]
 go_wp2_with (refine wpList_store_blk rfl 39 _ _ rfl w3.heap.size rfl d.cs rfl (by kernel_rfl) (DcM.cs_one _) (Blk.new w3 _ _) rfl ?_)
 intro w4 hBw4 hgw4
 have hsw4:Below w3.heap.size w3 w4:=((Below.refl w3.heap.size w3).alloc (Nat.le_refl _) (.cells #[.int .i64 0,.int .i64 0,.slice none 0 0] 39)).grown hgw4 (by simp) (fun k e => by injection e with e; omega)
 clear hgw4
 obtain ⟨t2,ht⟩:∃ t,t=w3.heap.size:=⟨_,rfl⟩
 have HV4:=Lib.hid (HV3.out.below hsw4)
 have HD4:=Lib.hid (ld44_store HRd.out hsw4 hBw4)
 rw [← ht] at HD4
 have HT:=Lib.hid ht
 clear hsw4 hBw4 ht HV3 HRd
 go_upto_region 3 with fail
 rw [← HT.out]
 clear HT
 go_wp2_with (refine wpList_load_problemG (by rfl) _ rfl t1 rfl m HV4.out.p ?_)
 refine (HSI.out _ HV4.out.r).mono ?_
 rintro e w5 ⟨y,rfl,⟨hy,_⟩,hry,hb5⟩
 have HV5:=Lib.hid (HV4.out.below hb5)
 have HD5:=Lib.hid (HD4.out.below hb5)
 clear hb5 HV4 HD4 HSI
 simp only [PnM.v]
 go_wp2_with (refine wpList_store_blk rfl 48 _ _ rfl w5.heap.size rfl y.cs rfl (by kernel_rfl) (PnM.cs_one _) (Blk.new w5 _ _) rfl ?_)
 intro w6 hBw6 hgw6
 have hsw6:Below w5.heap.size w5 w6:=((Below.refl w5.heap.size w5).alloc (Nat.le_refl _) (.cells #[.slice none 0 0,.slice none 0 0,.slice none 0 0] 48)).grown hgw6 (by simp) (fun k e => by injection e with e; omega)
 clear hgw6
 obtain ⟨t4,ht⟩:∃ t,t=w5.heap.size:=⟨_,rfl⟩
 have HV6:=Lib.hid (HV5.out.below hsw6)
 have HD6:=Lib.hid (HD5.out.below hsw6)
 have HY6:=Lib.hid (ly_store hry hsw6 hBw6)
 rw [← ht] at HY6
 have HYX:=Lib.hid hy
 have HT:=Lib.hid ht
 clear hry hsw6 hBw6 ht hy HV5 HD5
 go_upto_region 4 with fail
 rw [← HT.out]
 clear HT
 go_wp2_with (first | refine wpList_load_problemG (by rfl) _ rfl t1 rfl m HV6.out.p ?_ | refine wpList_load_decG (by rfl) _ rfl t2 rfl d HD6.out.p ?_)
 refine (HAD.out d _ HDd.out HV6.out.r HD6.out.r).mono ?_
 rintro e w7 ⟨rfl,hb7⟩
 have HV7:=Lib.hid (HV6.out.below hb7)
 have HD7:=Lib.hid (HD6.out.below hb7)
 have HY7:=Lib.hid (HY6.out.below hb7)
 clear hb7 HV6 HD6 HY6 HAD
 go_wp2_with (refine wpList_store_blk rfl 31 _ _ rfl w7.heap.size rfl PbM.nil.cs rfl (by kernel_rfl) (PbM.cs_one _) (Blk.new w7 _ _) rfl ?_)
 intro w8 hBw8 hgw8
 have hsw8:Below w7.heap.size w7 w8:=((Below.refl w7.heap.size w7).alloc (Nat.le_refl _) (.cells #[.slice none 0 0,.slice none 0 0,.int .i64 0,.slice none 0 0,.slice none 0 0,.slice none 0 0,.int .i64 0,.int .i64 0,.int .i64 0,.int .i64 0,.int .i64 0,.int .i64 0,.int .i64 0,.int .i64 0,.int .i64 0,.slice none 0 0,.slice none 0 0,.slice none 0 0,.int .i64 0,.int .i64 0] 31)).grown hgw8 (by simp) (fun k e => by injection e with e; omega)
 clear hgw8
 have HV8:=Lib.hid (HV7.out.below hsw8)
 have HD8:=Lib.hid (HD7.out.below hsw8)
 have HY8:=Lib.hid (HY7.out.below hsw8)
 clear hsw8 hBw8 HV7 HD7 HY7
 go_upto_region 5 with fail
 go_wp2_with (first | refine wpList_load_problemG (by rfl) _ rfl t1 rfl m HV8.out.p ?_ | refine wpList_load_decG (by rfl) _ rfl t2 rfl d HD8.out.p ?_)
 refine (HAP.out d _ HDd.out HV8.out.r HD8.out.r).mono ?_
 rintro e w9 ⟨rfl,hb9⟩
 have HV9:=Lib.hid (HV8.out.below hb9)
 have HD9:=Lib.hid (HD8.out.below hb9)
 have HY9:=Lib.hid (HY8.out.below hb9)
 clear hb9 HV8 HD8 HY8 HAP
 go_upto_region 6 with fail
 have d0:d.charge=0:=(congrArg Dc.charge HDd.out).trans aw_d0
 have d1:d.heat=0:=(congrArg Dc.heat HDd.out).trans aw_d1
 have d2:d.l = [true]:=(congrArg Dc.starts HDd.out).trans aw_d2
 have y0:y.charge.l.length=1:=(congrArg (fun z => z.charge.length) HYX.out).trans aw_s0
 have y1:y.heat.l.length=1:=(congrArg (fun z => z.heat.length) HYX.out).trans aw_s1
 have y2:y.start.l = [0]:=(congrArg Pn.start HYX.out).trans aw_s2
 have k0:=HD9.out.p.cell 0
 have k1:=HD9.out.p.cell 1
 have k2:=HD9.out.p.cell 2
 have p0:=HY9.out.p.cell 0
 have p1:=HY9.out.p.cell 1
 have p2:=HY9.out.p.cell 2
 have hq:=HD9.out.r
 have hs:=HY9.out.r.start
 simp [DcM.cs] at k0 k1 k2
 simp [PnM.cs] at p0 p1 p2
 rw [d2] at hq k2
 rw [d0] at k0
 rw [d1] at k1
 rw [y0] at p0
 rw [y1] at p1
 rw [y2] at hs p2
 obtain ⟨b0,o0,hA,_,e0⟩:=hq.at' (k:=0) (by decide)
 obtain ⟨b1,o1,hA1,_,e1⟩:=hs.at' (k:=0) (by decide)
 rw [hA] at k2
 rw [hA1] at p2
 simp at e0 e1 k2 p2
 have HB:=Lib.hid HV9.out.bel
 clear hq hs hA hA1 d0 d1 d2 y0 y1 y2 HV9 HD9 HY9 HDd HYX HM
 go_wp2_with fail
 go_ret
 exact ⟨by simp,HB.out⟩
end Go.Proofs.YtnppngaabfhkpaaGreat
