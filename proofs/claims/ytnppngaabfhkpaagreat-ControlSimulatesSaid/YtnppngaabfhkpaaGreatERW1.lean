/-
  The walks of layer 44's reference: the rest of a list.
-/
import Derived.Test.YtnppngaabfhkpaaGreatERW2
import Derived.Test.YtnppngaabfhkpaaGreatETR1
import Derived.Test.YtnppngaabfhkpaaGreatEL20
import Derived.Test.YtnppngaabfhkpaaGreatEC4
namespace Go.Proofs.YtnppngaabfhkpaaGreat
open Go.RowKit
attribute [local go_sem ↓] Go.wp_at_zero Go.wp_at_succ
theorem ints_capO {w0 w:World} {base:Nat} {e:TypeId} {v:Value} {n:Nat} {l:List Int} (h:w.ownsRow base e 1 v n (ints l)) (hb:w0.heap.size ≤ base) (hB:Below w0.heap.size w0 w):IntsCap l w0 (.returned v) w:=by
 obtain ⟨A,c,rfl⟩:=own_form h
 have hn:n=l.length:=by have:=h.1; rw [ints_length] at this; omega
 subst hn
 exact ⟨A,c,rfl,Reads.of_own h,own_cap h,fun ad ha => Nat.le_trans hb (own_fresh h ad ha),hB⟩
set_option maxRecDepth 100000 in
set_option maxHeartbeats 4000000 in
theorem rtail44_any (A:Option Addr) (c:Nat) (l:List Int) (w:World) (hA0:RInts w A l) (hk:1 ≤ l.length) (hc:l.length ≤ c) (hl:l.length ≤ 1000000000) :
  Calls Tryz.prog 53 #[.slice A l.length c] w (IntsCap (l.drop 1) w):=by
 have hcut:=RInts.cut hA0 hk hc
 obtain ⟨i0,hi,hz0,hz1,hz2⟩:=info_parts Tryz.infoInt
 have h2:=ints_one (l.drop 1)
 have HO:=Lib.hid (World.ownsRow_lit (base:=w.heap.size) (e:=3) (size:=1) w #[] 0 (Nat.le_refl _) (by unfold maxLen; omega) rfl)
 by_cases hck:c=1
 ·subst hck
  rw [if_pos rfl] at hcut
  have hz:l.drop 1 = []:=List.drop_eq_nil_of_le (by omega)
  rw [hz] at hcut h2 ⊢
  clear hz
  have HR:Hid (Reads (w.alloc (.cells #[] 3)) (w.heap.size+1) 1 A 0 (ints [])):=by
   have h:=hcut.alloc (.cells #[] 3)
   unfold RInts at h
   rw [World.size_alloc] at h
   exact h
  obtain ⟨n,hn⟩:∃ n,n=l.length:=⟨_,rfl⟩
  rw [← hn] at hk hc hl ⊢
  have i2:(1:Int) ≤ (n:Int):=by omega
  have HN:=Lib.hid hn
  clear hA0 hcut hn
  go_enter Tryz.func53,Tryz.ntmps53
  go_wp2_with (at_builtin; refine wpList_append_any _ rfl _ _ 22 rfl w.heap.size 3 i0 (.int .i64 0) 1 8 Tryz.underlying22 hi hz0 hz1 hz2 rfl (by decide) _ _ _ rfl HO.out _ _ _ _ (ints []) rfl HR.out h2 (by unfold maxLen; omega) (by omega) (by simp) ?_)
  intro v' w5 hown5 hg5 hv5
  have hB5:Below w.heap.size w w5:=((Below.refl w.heap.size w).alloc (Nat.le_refl _) (.cells #[] 3)).grown hg5 (by simp) (fun k hk => (HO.out.lt k hk).1)
  have hfin:Hid (IntsCap [] w (.returned v') w5):=ints_capO (n:=0+0) (by simpa using hown5) (Nat.le_refl _) hB5
  clear hown5 hg5 hv5 hB5
  go_wp2_with fail
  go_ret
  exact hfin.out
 ·rw [if_neg hck] at hcut
  have HR:Hid (Reads (w.alloc (.cells #[] 3)) (w.heap.size+1) 1 (A.map (·.add 1)) (l.length - 1) (ints (l.drop 1))):=by
   have h:=hcut.alloc (.cells #[] 3)
   unfold RInts at h
   rw [List.length_drop,World.size_alloc] at h
   exact h
  obtain ⟨n,hn⟩:∃ n,n=l.length:=⟨_,rfl⟩
  rw [← hn] at hk hc hl HR ⊢
  have i2:(1:Int) ≤ (n:Int):=by omega
  have HN:=Lib.hid hn
  clear hA0 hcut hn
  go_enter Tryz.func53,Tryz.ntmps53
  go_wp2_with (at_builtin; refine wpList_append_any _ rfl _ _ 22 rfl w.heap.size 3 i0 (.int .i64 0) 1 8 Tryz.underlying22 hi hz0 hz1 hz2 rfl (by decide) _ _ _ rfl HO.out _ _ _ _ (ints (l.drop 1)) rfl HR.out h2 (by unfold maxLen; omega) (by omega) (by simp) ?_)
  intro v' w5 hown5 hg5 hv5
  have hB5:Below w.heap.size w w5:=((Below.refl w.heap.size w).alloc (Nat.le_refl _) (.cells #[] 3)).grown hg5 (by simp) (fun k hk => (HO.out.lt k hk).1)
  have hfin:Hid (IntsCap (l.drop 1) w (.returned v') w5):=ints_capO (n:=0+(n - 1)) (by simpa using hown5) (Nat.le_refl _) hB5
  clear hown5 hg5 hv5 hB5
  go_wp2_with fail
  go_ret
  exact hfin.out
set_option maxRecDepth 100000 in
set_option maxHeartbeats 64000000 in
theorem rapply_any (x:PbM) (d:DcM) (w:World) (hP0:RPb w x) (hF:x.Fit) (hD0:RBools w d.A d.l) :
  Calls Tryz.prog 52 #[x.v,d.v] w (ApplyOut x.p d.d w):=by
 have hP:=Lib.hid hP0
 have hD:=Lib.hid hD0
 have hck0:=fun W (h:RPb W x) => rpcheck_any x W h hF
 have hst0:=PD.start x d 42 w
 simp only [PbM.v,DcM.v]
 obtain ⟨W,hW⟩:∃ W,W=(w.alloc (.cells x.cs 31)).alloc (.cells #[.int .i64 d.charge,.int .i64 d.heat,.slice d.A d.l.length d.c] 42):=⟨_,rfl⟩
 simp only [PbM.cs] at hW
 rw [show (w.alloc (.cells x.cs 31)).alloc (.cells d.cs 42)=W from hW.symm] at hst0
 have hst:=Lib.hid hst0
 have hWH:=Lib.hid hW
 clear hst0 hW hP0 hD0
 by_cases hc:x.p.chk=0
 ·have hlen:=PbM.loads_len x
  have hcd:x.p.canDo d.d=if d.l.length ≠ x.loads.length then 3 else if d.heat < 0 ∨ x.steps < d.heat then 2 else if x.p.clash d.d x.loads.length=true then 2 else 0:=by
   unfold Pb.canDo
   rw [hlen]
   rfl
  have HBAD:Hid (x.p.canDo d.d ≠ 0→x.p.doE d.d=x.p.canDo d.d∧x.p.apL d.d=0∧x.p.apT d.d=0∧x.p.apN d.d=0):=fun h => by
   have h1:=Pb.do_can hc h
   exact ⟨h1,Pb.ap_bad (by rw [h1]; exact h)⟩
  rw [hc] at hck0
  have HCK:=Lib.hid hck0
  by_cases h1:d.l.length=x.loads.length
  ·have q1:((d.l.length:Int) != (x.loads.length:Int))=false:=by rw [bne_eq_false_iff_eq]; omega
   by_cases h2:d.heat < 0 ∨ x.steps < d.heat
   ·have hz:x.p.canDo d.d=2:=by rw [hcd,if_neg (fun e => e h1),if_pos h2]
    have hbd:=HBAD.out (by rw [hz]; decide)
    rw [hz] at hbd
    have HB:=Lib.hid hbd
    clear hbd hz HBAD hcd hck0 hc hF hlen h1
    rcases h2 with h2 | h2
    ·go_enter Tryz.func52,Tryz.ntmps52
     go_upto_region 1 with fail
     rw [← hWH.out]
     clear hWH
     go_wp2_with (first | refine wpList_load_problemG (by rfl) _ rfl w.heap.size rfl x hst.out.p ?_)
     refine (HCK.out _ (hP.out.below hst.out.bel)).mono ?_
     rintro e w1 ⟨rfl,hb1⟩
     have HX1:=Lib.hid (hst.out.below hb1)
     clear hb1 hst
     clear HCK
     have c13:=HX1.out.p.cell 13
     have c17:=HX1.out.p.cell 17
     have d1:=HX1.out.q.cell 1
     have d2:=HX1.out.q.cell 2
     simp [PbM.cs] at c13 c17
     simp [DcM.cs] at d1 d2
     go_wp2_with fail
     refine bodyPost_ret (v := .tuple #[.int .i64 0,.int .i64 0,.int .i64 0,.int .i64 2]) (by simp [results,Tryz.results52,go_sem]) rfl ?_
     exact ⟨by rw [HB.out.1,HB.out.2.1,HB.out.2.2.1,HB.out.2.2.2],HX1.out.bel⟩
    ·by_cases h3:d.heat < 0
     ·go_enter Tryz.func52,Tryz.ntmps52
      go_upto_region 1 with fail
      rw [← hWH.out]
      clear hWH
      go_wp2_with (first | refine wpList_load_problemG (by rfl) _ rfl w.heap.size rfl x hst.out.p ?_)
      refine (HCK.out _ (hP.out.below hst.out.bel)).mono ?_
      rintro e w1 ⟨rfl,hb1⟩
      have HX1:=Lib.hid (hst.out.below hb1)
      clear hb1 hst
      clear HCK
      have c13:=HX1.out.p.cell 13
      have c17:=HX1.out.p.cell 17
      have d1:=HX1.out.q.cell 1
      have d2:=HX1.out.q.cell 2
      simp [PbM.cs] at c13 c17
      simp [DcM.cs] at d1 d2
      go_wp2_with fail
      refine bodyPost_ret (v := .tuple #[.int .i64 0,.int .i64 0,.int .i64 0,.int .i64 2]) (by simp [results,Tryz.results52,go_sem]) rfl ?_
      exact ⟨by rw [HB.out.1,HB.out.2.1,HB.out.2.2.1,HB.out.2.2.2],HX1.out.bel⟩
     ·go_enter Tryz.func52,Tryz.ntmps52
      go_upto_region 1 with fail
      rw [← hWH.out]
      clear hWH
      go_wp2_with (first | refine wpList_load_problemG (by rfl) _ rfl w.heap.size rfl x hst.out.p ?_)
      refine (HCK.out _ (hP.out.below hst.out.bel)).mono ?_
      rintro e w1 ⟨rfl,hb1⟩
      have HX1:=Lib.hid (hst.out.below hb1)
      clear hb1 hst
      clear HCK
      have c13:=HX1.out.p.cell 13
      have c17:=HX1.out.p.cell 17
      have d1:=HX1.out.q.cell 1
      have d2:=HX1.out.q.cell 2
      simp [PbM.cs] at c13 c17
      simp [DcM.cs] at d1 d2
      go_wp2_with fail
      refine bodyPost_ret (v := .tuple #[.int .i64 0,.int .i64 0,.int .i64 0,.int .i64 2]) (by simp [results,Tryz.results52,go_sem]) rfl ?_
      exact ⟨by rw [HB.out.1,HB.out.2.1,HB.out.2.2.1,HB.out.2.2.2],HX1.out.bel⟩
   ·have h3:¬ d.heat < 0:=by omega
    have h4:¬ x.steps < d.heat:=by omega
    have HCN:Hid (x.p.canDo d.d=if x.p.clash d.d x.loads.length=true then 2 else 0):=by show _=_; rw [hcd,if_neg (fun e => e h1),if_neg h2]
    have HST:Hid (x.p.canDo d.d=0→x.p.doE d.d=(stepZ x.bat x.level d.charge).2.2):=fun h => Pb.do_step hc h
    have hl4:x.loads.length ≤ 1000:=by have h1:=Pb.loads4 (Pb.good hc); omega
    have hg:=Pb.good hc
    have hbt:=(Pb.bat_good hg).2
    have hrm:=Rm.good (Pb.room_ok hg).1
    have hdr:=step_drawn_bd hbt x.p.level d.d.charge
    have hn1:=(Pb.nbd hg).1
    have hde:0 < x.demand.l.length:=by have h:x.demand.l.length=x.buy.l.length:=hg.lens.2.1; have h2:1 ≤ x.buy.l.length:=hn1; omega
    have hso:0 < x.solar.l.length:=by have h:x.solar.l.length=x.buy.l.length:=hg.lens.1; have h2:1 ≤ x.buy.l.length:=hn1; omega
    have hou:0 < x.outside.l.length:=by have h:x.outside.l.length=x.buy.l.length:=hg.lens.2.2; have h2:1 ≤ x.buy.l.length:=hn1; omega
    have b1:=allB_getD hg.de (by omega) (by omega) 0
    have b2:=allB_getD hg.so (by omega) (by omega) 0
    have b3:0 ≤ d.heat * x.power∧d.heat * x.power ≤ 40000:=by
     have h0:0 ≤ x.power:=hrm.p0
     have h1:x.power ≤ 1000:=hrm.p1
     have h2:x.steps ≤ 40:=hrm.s1
     have g2:0 ≤ d.heat:=by omega
     refine ⟨Int.mul_nonneg g2 h0,?_⟩
     have:=Int.mul_le_mul (show d.heat ≤ 40 by omega) h1 h0 (by omega)
     omega
    have hfu:=fun (k:Nat) (hk:k ≤ x.loads.length) => Pb.firstUse_bd hg d.d (k:=k) (by rw [hlen]; exact hk)
    have hlk:=fun (k:Nat) (hk:k < x.loads.length) => (by have h:=Pb.load_at hg (i:=k) (by rw [hlen]; exact hk); rw [PbM.load_at hk] at h; exact h:x.loads[k].r.chk x.p.n=0)
    have hnet:x.p.nextNet d.d=x.demand.l.getD 0 0+(stepZ x.bat x.level d.charge).2.1+d.heat * x.power - x.solar.l.getD 0 0+x.p.firstUse d.d x.loads.length:=by
     unfold Pb.nextNet
     rw [hlen]
     rfl
    have hs0:=fun W => rstep_any x.bat x.level d.charge W
    have ht0:=fun (o:Int) W (q:RPb W x) => rtstep_any x.room x.low.A x.high.A x.low.c x.high.c x.temp o d.heat W q.low q.high
    simp only [Rm.v,Bat.v] at hs0 ht0
    have hlv:x.p.nextLv d.d=(stepZ x.bat x.level d.charge).1:=rfl
    have htm:x.p.nextTm d.d=x.room.valid.step x.temp (x.outside.l.getD 0 0) d.heat:=rfl
    have hdr : -1000 ≤ (stepZ x.bat x.level d.charge).2.1∧(stepZ x.bat x.level d.charge).2.1 ≤ 1000:=hdr
    generalize stepZ x.bat x.level d.charge=st at *
    obtain ⟨lv,dr,er⟩:=st
    simp only [] at hlv hdr hnet
    have HS:=Lib.hid hs0
    have HT0:=Lib.hid ht0
    have HLV:=Lib.hid hlv
    have HTM:=Lib.hid htm
    have HNET:=Lib.hid hnet
    have HFU:=Lib.hid hfu
    have HLK:=Lib.hid hlk
    have HDL:=Lib.hid h1
    have HDR:=Lib.hid hdr
    have HLT:=Lib.hid hou
    obtain ⟨bE,oE,hAE,_,s1⟩:=(hP.out.below hst.out.bel).demand.at' hde
    obtain ⟨bS,oS,hAS,_,s2⟩:=(hP.out.below hst.out.bel).solar.at' hso
    have g1:=getD_at _ hde
    have g2:=getD_at _ hso
    rw [← g1] at s1
    rw [← g2] at s2
    have e1:x.p.demand.getD 0 0=x.demand.l.getD 0 0:=rfl
    have e2:x.p.solar.getD 0 0=x.solar.l.getD 0 0:=rfl
    rw [e1] at b1
    rw [e2] at b2
    generalize x.demand.l.getD 0 0=ev at *
    generalize x.solar.l.getD 0 0=sv at *
    simp only [Nat.add_zero] at s1 s2
    obtain ⟨PW,hPW⟩:∃ z,z=d.heat * x.power:=⟨_,rfl⟩
    rw [← hPW] at b3
    have a2:IntKind.i64.wrap (d.heat * x.power)=PW:=by rw [hPW]; exact IntWalk.i64_in _ (by omega)
    have a3:IntKind.i64.wrap (ev+PW)=ev+PW:=IntWalk.i64_in _ (by omega)
    have a4:IntKind.i64.wrap (ev+PW - sv)=ev+PW - sv:=IntWalk.i64_in _ (by omega)
    have HNB:Hid (-100000 ≤ ev+PW - sv∧ev+PW - sv ≤ 100000):=by show _∧_; omega
    have HPW:=Lib.hid hPW
    have HAE:=Lib.hid (And.intro hAE hAS)
    clear h2 hg hbt hrm hdr hn1 hou b1 b2 b3 hfu hlk hnet hs0 ht0 hlv htm hck0 hc hcd hF hlen g1 g2 e1 e2 hAE hAS hPW h1
    have c13:=hst.out.p.cell 13
    have c17:=hst.out.p.cell 17
    have d1:=hst.out.q.cell 1
    have d2:=hst.out.q.cell 2
    simp [PbM.cs] at c13 c17
    simp [DcM.cs] at d1 d2
    clear c13 c17 d1 d2
    go_enter Tryz.func52,Tryz.ntmps52
    go_upto_region 1 with fail
    rw [← hWH.out]
    clear hWH
    go_wp2_with (first | refine wpList_load_problemG (by rfl) _ rfl w.heap.size rfl x hst.out.p ?_)
    refine (HCK.out _ (hP.out.below hst.out.bel)).mono ?_
    rintro e w1 ⟨rfl,hb1⟩
    have HX1:=Lib.hid (hst.out.below hb1)
    have hb1x:=Lib.hid hb1
    clear hb1 hst
    clear HCK
    have c13:=HX1.out.p.cell 13
    have c17:=HX1.out.p.cell 17
    have d1:=HX1.out.q.cell 1
    have d2:=HX1.out.q.cell 2
    have c3:=HX1.out.p.cell 3
    have c4:=HX1.out.p.cell 4
    have c14:=HX1.out.p.cell 14
    simp [PbM.cs] at c3 c4 c13 c14 c17
    simp [DcM.cs] at d1 d2
    rw [HAE.out.1] at c4
    rw [HAE.out.2] at c3
    have s1:=cell_below s1 hb1x.out
    have s2:=cell_below s2 hb1x.out
    go_upto_region 7 with fail
    clear q1 h3 h4 c13 c17 d2
    go_cut [8] (fun s8 wx => s8 = .int .i64 (ev+PW - sv)∧Hid (Below w1.heap.size w1 wx))
    case first =>
     refine wp_region_held_drew (S:=(fun w' => w'.cell? ⟨w.heap.size,4,none⟩=some (.slice (some ⟨bE,oE,none⟩) x.demand.l.length x.demand.c)∧w'.cell? ⟨bE,oE,none⟩=some (.int .i64 ev)∧w'.cell? ⟨w.heap.size+1,1,none⟩=some (.int .i64 d.heat)∧w'.cell? ⟨w.heap.size,14,none⟩=some (.int .i64 x.power)∧w'.cell? ⟨w.heap.size,3,none⟩=some (.slice (some ⟨bS,oS,none⟩) x.solar.l.length x.solar.c)∧w'.cell? ⟨bS,oS,none⟩=some (.int .i64 sv))) (by kernel_rfl) (⟨c4,s1,d1,c14,c3,s2⟩) (fun hHeld => ?_)
     refine tk 0 ?_
     try simp only [jA,jB,Act.put,jD,jE,jF]
     refine tk 1 ?_
     try simp only [jA,jB,jC,Act.put,jD,jE,jF]
     refine tk 2 ?_
     try simp only [jA,jB,jC,Act.put,jD,jE,jF]
     refine tk 3 ?_
     try simp only [jA,jB,jC,Act.put,jD,jE,jF]
     refine tk 4 ?_
     try simp only [jA,jB,jC,Act.put,jD,jE,jF]
     refine tk 5 ?_
     try simp only [jA,jB,jC,Act.put,jD,jE,jF]
     refine tk 6 ?_
     try simp only [jA,jB,jC,Act.put,jD,jE,jF]
     refine tk 7 ?_
     try simp only [jA,jB,jC,Act.put,jD,jE,jF]
     refine tk 8 ?_
     try simp only [jA,jB,jC,Act.put,jD,jE,jF]
     refine tk 9 ?_
     try simp only [jA,jB,jC,Act.put,jD,jE,jF]
     refine tk 10 ?_
     try simp only [jA,jB,jC,Act.put,jD,jE,jF]
     refine tk 11 ?_
     try simp only [jA,jB,jC,Act.put,jD,jE,jF]
     refine tk 12 ?_
     try simp only [jA,jB,jC,Act.put,jD,jE,jF]
     refine tk 13 ?_
     try simp only [jA,jB,jC,Act.put,jD,jE,jF]
     refine tk 14 ?_
     try simp only [jA,jB,jC,Act.put,jD,jE,jF]
     refine tk 15 ?_
     try simp only [jA,jB,jC,Act.put,jD,jE,jF]
     refine tk 16 ?_
     try simp only [jA,jB,jC,Act.put,jD,jE,jF]
     refine wpAnyH_done (by kernel_rfl) ?_ _
     clear hHeld
     go_wp2_with fail
     go_meet
     exact ⟨rfl,Below.drew (Below.refl _ _)⟩
    case rest =>
     obtain ⟨rfl,hBy⟩:=hcut
     obtain ⟨w5,hw5⟩:∃ W,W=wc:=⟨_,rfl⟩
     subst hw5
     have HX5:=Lib.hid (HX1.out.below hBy.out)
     clear hBy HX1 c3 c4 c14 d1 s1 s2 a2 a3 a4 hb1x
     obtain ⟨N0,hN0⟩:∃ z,z=ev+PW - sv:=⟨_,rfl⟩
     have HN0:Hid (-100000 ≤ N0∧N0 ≤ 100000):=by show _∧_; rw [hN0]; exact HNB.out
     have HNN:Hid (x.p.nextNet d.d=N0+x.p.firstUse d.d x.loads.length+dr):=by show _=_; rw [HNET.out,hN0,HPW.out]; omega
     rw [← hN0]
     clear hN0 HNB HNET HPW
     go_wp2_with fail
     go_loopw [9,8] (fun s9 s8 wr => ∃ k:Nat,k ≤ x.loads.length∧s9 = .int .i64 k∧s8 = .int .i64 (N0+x.p.firstUse d.d k)∧Hid (x.p.clash d.d k=false)∧Hid (PD x d 42 w wr))
      (fun s9 _ _ => x.loads.length - (intOf s9).toNat)
     case atStart => exact ⟨0,by omega,rfl,by show _=Value.int .i64 (N0+0); rw [Int.add_zero],rfl,HX5.out⟩
     case round =>
      clear HX5
      obtain ⟨k,hk,rfl,rfl,hCL,hX⟩:=hrel
      obtain ⟨wo,hwo⟩:∃ wo:World,wo=wr:=⟨_,rfl⟩
      subst hwo
      have c17:=hX.out.p.cell 17
      simp [PbM.cs] at c17
      by_cases hlt:k < x.loads.length
      ·obtain ⟨bL,oL,hAe,_,y0,y1,y2,y3⟩:=(hP.out.below hX.out.bel).loads.at' hlt
       have hpr:=(hP.out.below hX.out.bel).loads.prof hlt
       have hld:=HLK.out k hlt
       have hl0:=(Ld.good hld).p0
       have hu:=Ld.unit_at hld (k:=0) (by omega)
       have hkd:k < d.l.length:=by have:=HDL.out; omega
       obtain ⟨bD,oD,hAD,_,z0⟩:=(hD.out.below hX.out.bel).at' hkd
       obtain ⟨bF,oF,hAF,_,p0⟩:=hpr.at' (show 0 < x.loads[k].r.prof.length by omega)
       have hsucc:=Pb.clash_succ x.p d.d k
       rw [PbM.load_at hlt,show d.d.starts.getD k false=d.l[k] from bools_at hkd,hCL.out,Bool.false_or] at hsucc
       have hfs:x.p.firstUse d.d (k+1)=x.p.firstUse d.d k+if d.l[k]=true then x.loads[k].r.prof[0] else 0:=by
        rw [Pb.firstUse,PbM.load_at hlt,show d.d.starts.getD k false=d.l[k] from bools_at hkd,getD_at _ (show 0 < x.loads[k].r.prof.length by omega)]
       have hf1:=HFU.out k (by omega)
       have hn0:=HN0.out
       have i1:(0:Int) ≤ (k:Int):=by omega
       have i2:(k:Int) < (x.loads.length:Int):=by omega
       have i3:(k:Int) < (d.l.length:Int):=by omega
       have i4:(0:Int) < (x.loads[k].r.prof.length:Int):=by omega
       have i5:0 < x.loads[k].r.prof.length:=by omega
       have hk4:(k:Int) ≤ 1000:=by omega
       have hun:x.loads[k].r.prof[0]=x.loads[k].r.prof[0]:=rfl
       generalize x.loads[k].r.prof[0]=u at *
       clear hun hld hl0 hpr
       generalize x.loads[k]=X at *
       generalize d.l[k]=db at *
       simp only [Nat.add_zero] at p0
       rw [hAF] at y1
       rw [hAe] at c17
       have d2:=hX.out.q.cell 2
       simp [DcM.cs] at d2
       rw [hAD] at d2
       clear hAe hAD hAF y0 y3
       have HFS:=Lib.hid hfs
       have HSC:=Lib.hid hsucc
       clear hfs hsucc
       obtain ⟨FU,hFU⟩:∃ z,z=x.p.firstUse d.d k:=⟨_,rfl⟩
       rw [← hFU] at hf1
       rw [← hFU]
       cases db
       ·have HFE:Hid (x.p.firstUse d.d (k+1)=FU):=by show _=_; rw [HFS.out,if_neg (by decide),hFU,Int.add_zero]
        have HCL2:Hid (x.p.clash d.d (k+1)=false):=by show _=_; rw [HSC.out]; rfl
        clear HFS HSC hFU hf1 hn0
        go_wp2_with fail
        go_roundw
        case rel => exact ⟨k+1,by omega,by go_num,by rw [HFE.out],HCL2.out,hX.out⟩
        case measure => simp [intOf]; omega
       ·by_cases he:X.r.early=0
        ·have HFE:Hid (x.p.firstUse d.d (k+1)=FU+u):=by show _=_; rw [HFS.out,if_pos rfl,hFU]
         have HCL2:Hid (x.p.clash d.d (k+1)=false):=by show _=_; rw [HSC.out,he]; rfl
         have a1:IntKind.i64.wrap (N0+FU+u)=N0+FU+u:=IntWalk.i64_in _ (by omega)
         have q5:(X.r.early != 0)=false:=by rw [bne_eq_false_iff_eq]; exact he
         clear HFS HSC hFU hf1 hn0 he
         go_upto_region 13 with fail
         clear q5 y2
         go_wp2_with fail
         go_roundw
         case rel => exact ⟨k+1,by omega,by go_num,by rw [HFE.out, ← Int.add_assoc],HCL2.out,hX.out⟩
         case measure => simp [intOf]; omega
        ·have hz:x.p.canDo d.d=2:=by
          rw [HCN.out,if_pos (Pb.clash_le (k:=k+1) (by rw [HSC.out]; simp [he]) (by omega))]
         have hbd:=HBAD.out (by rw [hz]; decide)
         rw [hz] at hbd
         have HB:=Lib.hid hbd
         have q5:(X.r.early != 0)=true:=by rw [bne_iff_ne]; exact he
         clear hbd hz HFS HSC hFU hf1 hn0 he
         go_wp2_with fail
         refine bodyPost_ret (v := .tuple #[.int .i64 0,.int .i64 0,.int .i64 0,.int .i64 2]) (by simp [results,Tryz.results52,go_sem]) rfl ?_
         exact ⟨by rw [HB.out.1,HB.out.2.1,HB.out.2.2.1,HB.out.2.2.2],hX.out.bel⟩
      ·have hrl:k=x.loads.length:=by omega
       have hz:x.p.canDo d.d=0:=by rw [HCN.out, ← hrl,if_neg (by rw [hCL.out]; decide)]
       have HDO:=Lib.hid (HST.out hz)
       have HNN2:Hid (x.p.nextNet d.d=N0+x.p.firstUse d.d k+dr):=by show _=_; rw [HNN.out,hrl]
       have hf1:=HFU.out k (by omega)
       have hdr:=HDR.out
       have hn0:=HN0.out
       obtain ⟨FU,hFU⟩:∃ z,z=x.p.firstUse d.d k:=⟨_,rfl⟩
       have HFU2:=Lib.hid hFU
       rw [← hFU] at hf1
       rw [← hFU]
       have i2:¬ (k:Int) < (x.loads.length:Int):=by omega
       have a5:IntKind.i64.wrap (N0+FU+dr)=N0+FU+dr:=IntWalk.i64_in _ (by omega)
       clear hz hFU hCL HST HCN hrl hf1 hdr hn0 hlt hk
       go_upto_region 15 with fail
       clear c17 i2
       obtain ⟨-, -, -, -, -, -,c6,c7,c8,c9,c10, -, -, -, -, -, -, -,c18, -⟩:=PbC.of_blk hX.out.p
       have d0:=hX.out.q.cell 0
       simp [DcM.cs] at d0
       go_wp2_with fail
       refine (HS.out _).mono ?_
       rintro e w3 ⟨rfl,hb3⟩
       have HX3:=Lib.hid (hX.out.below hb3)
       clear hb3 hX HS c6 c7 c8 c9 c10 c18 d0
       go_upto_region 16 with fail
       by_cases he:er=0
       ·have q0:(er != 0)=false:=by simp [he]
        have HOK:=Lib.hid (Pb.ap_ok (HDO.out.trans he))
        have HDE:=Lib.hid (HDO.out.trans he)
        clear he
        have lt3:=HLT.out
        obtain ⟨bO,oO,hAO,_,s0⟩:=(hP.out.below HX3.out.bel).outside.at' lt3
        have g0:=getD_at _ lt3
        rw [← g0] at s0
        generalize x.outside.l.getD 0 0=ov at *
        simp only [Nat.add_zero] at s0
        have HTS:=Lib.hid (HT0.out ov)
        generalize x.room.valid.step x.temp ov d.heat=tv at *
        have HRT:Hid (x.p.apL d.d=lv∧x.p.apT d.d=tv∧x.p.apN d.d=N0+FU+dr):=by
         obtain ⟨h1,h2,h3⟩:=HOK.out
         refine ⟨by rw [h1]; exact HLV.out,by rw [h2]; exact HTM.out,?_⟩
         rw [h3,HNN2.out,HFU2.out]
        obtain ⟨-, -, -, -, -,c5, -, -, -, -, -,c11,c12,c13,c14,c15,c16, -, -,c19⟩:=PbC.of_blk HX3.out.p
        have d1:=HX3.out.q.cell 1
        simp [DcM.cs] at d1
        rw [hAO] at c5
        clear g0 hAO HT0 HLT
        go_upto_region 18 with fail
        clear q0
        refine wp_region_held_drew (S:=(fun w' => w'.cell? ⟨w.heap.size,5,none⟩=some (.slice (some ⟨bO,oO,none⟩) x.outside.l.length x.outside.c)∧w'.cell? ⟨w.heap.size,11,none⟩=some (.int .i64 x.gain)∧w'.cell? ⟨w.heap.size,12,none⟩=some (.int .i64 x.loss)∧w'.cell? ⟨w.heap.size,13,none⟩=some (.int .i64 x.steps)∧w'.cell? ⟨w.heap.size,14,none⟩=some (.int .i64 x.power)∧w'.cell? ⟨w.heap.size,15,none⟩=some (.slice x.low.A x.low.l.length x.low.c)∧w'.cell? ⟨w.heap.size,16,none⟩=some (.slice x.high.A x.high.l.length x.high.c)∧w'.cell? ⟨w.heap.size,19,none⟩=some (.int .i64 x.temp)∧w'.cell? ⟨w.heap.size+1,1,none⟩=some (.int .i64 d.heat)∧w'.cell? ⟨bO,oO,none⟩=some (.int .i64 ov))) (by kernel_rfl) (⟨c5,c11,c12,c13,c14,c15,c16,c19,d1,s0⟩) (fun hHeld => ?_)
        refine tk 0 ?_
        try simp only [jA,jB,Act.put,jD,jE,jF]
        refine tk 1 ?_
        try simp only [jA,jB,jC,Act.put,jD,jE,jF]
        refine tk 2 ?_
        try simp only [jA,jB,jC,Act.put,jD,jE,jF]
        refine tk 3 ?_
        try simp only [jA,jB,jC,Act.put,jD,jE,jF]
        refine tk 4 ?_
        try simp only [jA,jB,jC,Act.put,jD,jE,jF]
        refine tk 5 ?_
        try simp only [jA,jB,jC,Act.put,jD,jE,jF]
        refine tk 6 ?_
        try simp only [jA,jB,jC,Act.put,jD,jE,jF]
        refine tk 7 ?_
        try simp only [jA,jB,jC,Act.put,jD,jE,jF]
        refine tk 8 ?_
        try simp only [jA,jB,jC,Act.put,jD,jE,jF]
        refine tk 9 ?_
        try simp only [jA,jB,jC,Act.put,jD,jE,jF]
        refine tk 10 ?_
        try simp only [jA,jB,jC,Act.put,jD,jE,jF]
        refine tk 12 ?_
        try simp only [jA,jB,jC,Act.put,jD,jE,jF]
        refine tk 13 ?_
        try simp only [jA,jB,jC,Act.put,jD,jE,jF]
        refine tk 14 ?_
        try simp only [jA,jB,jC,Act.put,jD,jE,jF]
        refine wpAnyH_ready (rs := [11]) (by kernel_rfl) (by simp) ?_
        refine (AllReadyH.cons rfl (fun K hK => ?_) AllReadyH.nil)
        have HKK:=Lib.hid hK
        clear hK
        go_simp
        refine (HTS.out _ (hP.out.below ((Below.drew (HX3.out.bel))))).mono ?_
        rintro e' yw1 ⟨rfl,hb1⟩
        have hq1:Below w3.heap.size w3 yw1:=below_tr (Below.drew (Below.refl w3.heap.size w3)) hb1
        have HB_yw1:=Lib.hid ((HX3.out.bel).trans (hq1.mono (Below.size (HX3.out.bel))))
        have HS_yw1:Hid (w3.heap.size ≤ yw1.heap.size):=Nat.le_trans ((Nat.le_refl w3.heap.size)) hq1.size
        clear hb1
        go_wp2_with fail
        refine HKK.out _ _ (⟨(cell_below c5 hq1),(cell_below c11 hq1),(cell_below c12 hq1),(cell_below c13 hq1),(cell_below c14 hq1),(cell_below c15 hq1),(cell_below c16 hq1),(cell_below c19 hq1),(cell_below d1 hq1),(cell_below s0 hq1)⟩) (fun hH2 => ?_)
        clear HKK K
        replace hHeld:=hH2
        clear hH2
        try simp only [jA,jB,jC,Act.put,jD,jE,jF]
        refine tk 15 ?_
        try simp only [jA,jB,jC,Act.put,jD,jE,jF]
        refine tk 16 ?_
        try simp only [jA,jB,jC,Act.put,jD,jE,jF]
        refine tk 17 ?_
        try simp only [jA,jB,jC,Act.put,jD,jE,jF]
        refine tk 18 ?_
        try simp only [jA,jB,jC,Act.put,jD,jE,jF]
        refine wpAnyH_done (by kernel_rfl) ?_ _
        have HBF:=Lib.hid (HB_yw1.out)
        clear hHeld
        go_wp2_with fail
        refine bodyPost_ret (v := .tuple #[.int .i64 lv,.int .i64 tv,.int .i64 (N0+FU+dr),.int .i64 0]) (by simp [results,Tryz.results52,go_sem]) rfl ?_
        exact ⟨by rw [HRT.out.1,HRT.out.2.1,HRT.out.2.2,HDE.out],HBF.out⟩
       ·have q0:(er != 0)=true:=by simp [he]
        have HBD:Hid (x.p.apL d.d=0∧x.p.apT d.d=0∧x.p.apN d.d=0):=Pb.ap_bad (by rw [HDO.out]; exact he)
        clear he
        go_wp2_with fail
        refine bodyPost_ret (v := .tuple #[.int .i64 0,.int .i64 0,.int .i64 0,.int .i64 er]) (by simp [results,Tryz.results52,go_sem]) rfl ?_
        exact ⟨by rw [HBD.out.1,HBD.out.2.1,HBD.out.2.2,HDO.out],HX3.out.bel⟩
  ·have q1:((d.l.length:Int) != (x.loads.length:Int))=true:=by rw [bne_iff_ne]; omega
   have hz:x.p.canDo d.d=3:=by rw [hcd,if_pos h1]
   have hbd:=HBAD.out (by rw [hz]; decide)
   rw [hz] at hbd
   have HB:=Lib.hid hbd
   clear hbd hz HBAD hcd hck0 hc hF hlen h1
   go_enter Tryz.func52,Tryz.ntmps52
   go_upto_region 1 with fail
   rw [← hWH.out]
   clear hWH
   go_wp2_with (first | refine wpList_load_problemG (by rfl) _ rfl w.heap.size rfl x hst.out.p ?_)
   refine (HCK.out _ (hP.out.below hst.out.bel)).mono ?_
   rintro e w1 ⟨rfl,hb1⟩
   have HX1:=Lib.hid (hst.out.below hb1)
   clear hb1 hst
   clear HCK
   have c17:=HX1.out.p.cell 17
   have d2:=HX1.out.q.cell 2
   simp [PbM.cs] at c17
   simp [DcM.cs] at d2
   go_wp2_with fail
   refine bodyPost_ret (v := .tuple #[.int .i64 0,.int .i64 0,.int .i64 0,.int .i64 3]) (by simp [results,Tryz.results52,go_sem]) rfl ?_
   exact ⟨by rw [HB.out.1,HB.out.2.1,HB.out.2.2.1,HB.out.2.2.2],HX1.out.bel⟩
 ·have hdo:=Pb.do_chk (d:=d.d) hc
  have HBD:Hid (x.p.apL d.d=0∧x.p.apT d.d=0∧x.p.apN d.d=0):=Pb.ap_bad (by rw [hdo]; exact hc)
  have q0:(x.p.chk != 0)=true:=by simp [hc]
  generalize x.p.chk=ck at *
  have HCK:=Lib.hid hck0
  have HDO:=Lib.hid hdo
  clear hdo hc hck0 hF
  go_enter Tryz.func52,Tryz.ntmps52
  go_upto_region 1 with fail
  rw [← hWH.out]
  clear hWH
  go_wp2_with (first | refine wpList_load_problemG (by rfl) _ rfl w.heap.size rfl x hst.out.p ?_)
  refine (HCK.out _ (hP.out.below hst.out.bel)).mono ?_
  rintro e w1 ⟨rfl,hb1⟩
  have HX1:=Lib.hid (hst.out.below hb1)
  clear hb1 hst
  go_upto_region 2 with fail
  go_wp2_with (first | refine wpList_load_problemG (by rfl) _ rfl w.heap.size rfl x HX1.out.p ?_)
  refine (HCK.out _ (hP.out.below HX1.out.bel)).mono ?_
  rintro e w2 ⟨rfl,hb2⟩
  have HX2:=Lib.hid (HX1.out.below hb2)
  clear hb2 HX1 HCK
  go_wp2_with fail
  refine bodyPost_ret (v := .tuple #[.int .i64 0,.int .i64 0,.int .i64 0,.int .i64 ck]) (by simp [results,Tryz.results52,go_sem]) rfl ?_
  exact ⟨by rw [HBD.out.1,HBD.out.2.1,HBD.out.2.2,HDO.out],HX2.out.bel⟩
end Go.Proofs.YtnppngaabfhkpaaGreat
