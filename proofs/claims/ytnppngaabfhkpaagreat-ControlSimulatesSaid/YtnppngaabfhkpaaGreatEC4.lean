/-
  The walks of layer 44 (control), part 4: Apply.
-/
import Derived.Test.YtnppngaabfhkpaaGreatECS0
import Derived.Test.YtnppngaabfhkpaaGreatEC1
import Derived.Test.YtnppngaabfhkpaaGreatET3
import Derived.Test.YtnppngaabfhkpaaGreatEU20
import Derived.Test.YtnppngaabfhkpaaGreatEL19
import Derived.Test.YtnppngaabfhkpaaGreatEPO
namespace Go.Proofs.YtnppngaabfhkpaaGreat
open Go.RowKit
attribute [local go_sem ↓] Go.wp_at_zero Go.wp_at_succ
def Pb.apL (p:Pb) (d:Dc):Int:=if p.doE d=0 then p.nextLv d else 0
def Pb.apT (p:Pb) (d:Dc):Int:=if p.doE d=0 then p.nextTm d else 0
def Pb.apN (p:Pb) (d:Dc):Int:=if p.doE d=0 then p.nextNet d else 0
def ApplyOut (p:Pb) (d:Dc) (w:World) (e:Ending) (w':World):Prop:=e = .returned (.tuple #[.int .i64 (p.apL d),.int .i64 (p.apT d),.int .i64 (p.apN d),.int .i64 (p.doE d)])∧Below w.heap.size w w'
theorem Pb.ap_bad {p:Pb} {d:Dc} (h:p.doE d ≠ 0):p.apL d=0∧p.apT d=0∧p.apN d=0:=by unfold Pb.apL Pb.apT Pb.apN; rw [if_neg h,if_neg h,if_neg h]; exact ⟨rfl,rfl,rfl⟩
theorem Pb.ap_ok {p:Pb} {d:Dc} (h:p.doE d=0):p.apL d=p.nextLv d∧p.apT d=p.nextTm d∧p.apN d=p.nextNet d:=by unfold Pb.apL Pb.apT Pb.apN; rw [if_pos h,if_pos h,if_pos h]; exact ⟨rfl,rfl,rfl⟩
theorem Pb.do_chk {p:Pb} {d:Dc} (h:p.chk ≠ 0):p.doE d=p.chk:=by unfold Pb.doE; rw [if_pos h]
theorem Pb.do_can {p:Pb} {d:Dc} (h:p.chk=0) (h2:p.canDo d ≠ 0):p.doE d=p.canDo d:=by unfold Pb.doE; rw [if_neg (fun e => e h),if_pos h2]
theorem Pb.do_step {p:Pb} {d:Dc} (h:p.chk=0) (h2:p.canDo d=0):p.doE d=(stepZ p.bat p.level d.charge).2.2:=by unfold Pb.doE; rw [if_neg (fun e => e h),if_neg (fun e => e h2)]
theorem Pb.can_good {p:Pb} {d:Dc} (h:p.canDo d=0):d.starts.length=p.loads.length∧0 ≤ d.heat∧d.heat ≤ p.room.steps∧p.clash d p.loads.length=false:=by
 unfold Pb.canDo at h
 split at h
 ·cases h
 ·split at h
  ·cases h
  ·split at h
   ·cases h
   ·rename_i h1 h2 h3
    exact ⟨by simpa using h1,by omega,by omega,by simpa using h3⟩
theorem Ld.unit_at {r:Ld} {n:Int} (h:r.chk n=0) {k:Nat} (hk:k < r.prof.length):0 ≤ r.prof[k]∧r.prof[k] ≤ 1000:=unitOk_true.1 (List.all_eq_true.1 (Ld.good h).units _ (List.getElem_mem hk))
theorem Pb.firstUse_bd {p:Pb} (g:p.Good) (d:Dc) {k:Nat} (hk:k ≤ p.loads.length):0 ≤ p.firstUse d k∧p.firstUse d k ≤ 1000 * (k:Int):=by
 induction k with
 | zero => exact ⟨Int.le_refl _,Int.le_refl _⟩
 | succ k ih =>
  have ih:=ih (by omega)
  have h:=Pb.load_at g (i:=k) (by omega)
  have h0:=(Ld.good h).p0
  have h1:=Ld.unit_at h (k:=0) (by omega)
  have e:(p.loads.getD k Ld.zero).prof.getD 0 0=(p.loads.getD k Ld.zero).prof[0]:=getD_at _ (by omega)
  rw [Pb.firstUse,e]
  split <;> omega
section
variable {ops:Array Oper} {rest:List Oper} {o:Oper} {a:Act} {W:World} {Q:Exit→Act→World→Prop}
theorem wpList_load_decG (hw:Region.wanted o (yielded ops a.tmps)=true) (s:Operand) (ho:o.op = .load 39 s) (g:Nat) (hx:a.eval s = .pointer (some ⟨g,0,none⟩)) (d:DcM) {t:TypeId} (h:Blk W g t d.cs) (hk:wpList Tryz.prog ops Q rest (a.put o.dst d.v) W) :
  wpList Tryz.prog ops Q (o :: rest) a W:=wpList_step fun _ hK => step_load_blk hw 39 (by kernel_rfl) (by kernel_rfl) s ho g hx h (hK _ _ hk)
end
set_option maxRecDepth 100000 in
set_option maxHeartbeats 64000000 in
theorem apply_any (x:PbM) (d:DcM) (w:World) (hP0:RPb w x) (hF:x.Fit) (hD0:RBools w d.A d.l) :
  Calls Tryz.prog 22 #[x.v,d.v] w (ApplyOut x.p d.d w):=by
 have hP:=Lib.hid hP0
 have hD:=Lib.hid hD0
 have hck0:=fun W (h:RPb W x) => pcheck_any x W h hF
 have hst0:=PD.start x d 39 w
 simp only [PbM.v,DcM.v]
 obtain ⟨W,hW⟩:∃ W,W=(w.alloc (.cells x.cs 31)).alloc (.cells #[.int .i64 d.charge,.int .i64 d.heat,.slice d.A d.l.length d.c] 39):=⟨_,rfl⟩
 simp only [PbM.cs] at hW
 rw [show (w.alloc (.cells x.cs 31)).alloc (.cells d.cs 39)=W from hW.symm] at hst0
 have hst:=Lib.hid hst0
 have hWH:=Lib.hid hW
 clear hst0 hW hP0 hD0
 by_cases hc:x.p.chk=0
 ·have hl4:x.loads.length ≤ 1000:=by have h1:=Pb.loads4 (Pb.good hc); have h2:=PbM.loads_len x; omega
  have hpo0:=fun W (h:RPb W x) (h2:RBools W d.A d.l) => possibleD_any x d W h h2 hl4
  rw [hc] at hck0
  have HCK:=Lib.hid hck0
  by_cases hcd:x.p.canDo d.d=0
  ·have hg:=Pb.good hc
   obtain ⟨g1,g2,g3, -⟩:=Pb.can_good hcd
   have hdo:=Pb.do_step hc hcd
   have hbt:=(Pb.bat_good hg).2
   have hrm:=Rm.good (Pb.room_ok hg).1
   have hdr:=step_drawn_bd hbt x.p.level d.d.charge
   have hn1:=(Pb.nbd hg).1
   have hde:0 < x.demand.l.length:=by have h:x.demand.l.length=x.buy.l.length:=hg.lens.2.1; have h2:1 ≤ x.buy.l.length:=hn1; omega
   have hso:0 < x.solar.l.length:=by have h:x.solar.l.length=x.buy.l.length:=hg.lens.1; have h2:1 ≤ x.buy.l.length:=hn1; omega
   have hou:0 < x.outside.l.length:=by have h:x.outside.l.length=x.buy.l.length:=hg.lens.2.2; have h2:1 ≤ x.buy.l.length:=hn1; omega
   have b1:=allB_getD hg.de (by omega) (by omega) 0
   have b2:=allB_getD hg.so (by omega) (by omega) 0
   have b3:0 ≤ d.heat * x.power∧d.heat * x.power ≤ 40000:=by
    have h0:0 ≤ x.power:=hrm.p0
    have h1:x.power ≤ 1000:=hrm.p1
    have h2:x.steps ≤ 40:=hrm.s1
    have g2:0 ≤ d.heat:=g2
    have g3:d.heat ≤ x.steps:=g3
    refine ⟨Int.mul_nonneg g2 h0,?_⟩
    have:=Int.mul_le_mul (show d.heat ≤ 40 by omega) h1 h0 (by omega)
    omega
   have hfu:=fun (k:Nat) (hk:k ≤ x.loads.length) => Pb.firstUse_bd hg d.d (k:=k) (by rw [PbM.loads_len]; exact hk)
   have hlk:=fun (k:Nat) (hk:k < x.loads.length) => (by have h:=Pb.load_at hg (i:=k) (by rw [PbM.loads_len]; exact hk); rw [PbM.load_at hk] at h; exact h:x.loads[k].r.chk x.p.n=0)
   have hdl:d.l.length=x.loads.length:=by have h:d.l.length=x.p.loads.length:=g1; rw [PbM.loads_len] at h; exact h
   have hnet:x.p.nextNet d.d=x.demand.l.getD 0 0+(stepZ x.bat x.level d.charge).2.1+d.heat * x.power - x.solar.l.getD 0 0+x.p.firstUse d.d x.loads.length:=by
    unfold Pb.nextNet
    rw [PbM.loads_len]
    rfl
   rw [hcd] at hpo0
   have HPO:=Lib.hid hpo0
   have hs0:=fun W => step_any x.bat x.level d.charge W
   have ht0:=fun (o:Int) W (q:RPb W x) => tstep_any x.room x.low.A x.high.A x.low.c x.high.c x.temp o d.heat W q.low q.high
   simp only [Rm.v,Bat.v] at hs0 ht0
   have hlv:x.p.nextLv d.d=(stepZ x.bat x.level d.charge).1:=rfl
   have htm:x.p.nextTm d.d=x.room.valid.step x.temp (x.outside.l.getD 0 0) d.heat:=rfl
   have hdr : -1000 ≤ (stepZ x.bat x.level d.charge).2.1∧(stepZ x.bat x.level d.charge).2.1 ≤ 1000:=hdr
   have hdo:x.p.doE d.d=(stepZ x.bat x.level d.charge).2.2:=hdo
   generalize stepZ x.bat x.level d.charge=st at *
   obtain ⟨lv,dr,er⟩:=st
   simp only [] at hlv hdr hdo hnet
   have HS:=Lib.hid hs0
   have HT0:=Lib.hid ht0
   have HLV:=Lib.hid hlv
   have HTM:=Lib.hid htm
   have HDO:=Lib.hid hdo
   have HNET:=Lib.hid hnet
   have HFU:=Lib.hid hfu
   have HLK:=Lib.hid hlk
   have HDL:=Lib.hid hdl
   have HB:=Lib.hid (And.intro b1 (And.intro b2 (And.intro b3 hdr)))
   have HLT:=Lib.hid (And.intro hde (And.intro hso hou))
   have c6:=hst.out.p.cell 6
   clear c6 hg g1 g2 g3 hdo hbt hrm hdr hn1 hde hso hou b1 b2 b3 hfu hlk hdl hnet hpo0 hs0 ht0 hlv htm hck0 hc hcd hF
   go_enter Tryz.func22,Tryz.ntmps22
   go_upto_region 1 with fail
   rw [← hWH.out]
   clear hWH
   go_wp2_with (first | refine wpList_load_problemG (by rfl) _ rfl w.heap.size rfl x hst.out.p ?_ | refine wpList_load_decG (by rfl) _ rfl (w.heap.size+1) rfl d hst.out.q ?_)
   refine (HCK.out _ (hP.out.below hst.out.bel)).mono ?_
   rintro e w1 ⟨rfl,hb1⟩
   have HX1:=Lib.hid (hst.out.below hb1)
   clear hb1 hst HCK
   go_upto_region 4 with fail
   go_wp2_with (first | refine wpList_load_problemG (by rfl) _ rfl w.heap.size rfl x HX1.out.p ?_ | refine wpList_load_decG (by rfl) _ rfl (w.heap.size+1) rfl d HX1.out.q ?_)
   refine (HPO.out _ (hP.out.below HX1.out.bel) (hD.out.below HX1.out.bel)).mono ?_
   rintro e w2 ⟨rfl,hb2⟩
   have HX2:=Lib.hid (HX1.out.below hb2)
   clear hb2 HX1 HPO
   go_upto_region 7 with fail
   obtain ⟨-, -, -, -, -, -,c6,c7,c8,c9,c10, -, -, -, -, -, -, -,c18, -⟩:=PbC.of_blk HX2.out.p
   have d0:=HX2.out.q.cell 0
   simp [DcM.cs] at d0
   go_wp2_with fail
   refine (HS.out _).mono ?_
   rintro e w3 ⟨rfl,hb3⟩
   have HX3:=Lib.hid (HX2.out.below hb3)
   clear hb3 HX2 HS c6 c7 c8 c9 c10 c18 d0
   go_upto_region 8 with fail
   by_cases he:er=0
   ·have q0:(er != 0)=false:=by simp [he]
    have HOK:=Lib.hid (Pb.ap_ok (HDO.out.trans he))
    have HDE:=Lib.hid (HDO.out.trans he)
    clear he
    obtain ⟨lt1,lt2,lt3⟩:=HLT.out
    obtain ⟨bO,oO,hAO,_,s0⟩:=(hP.out.below HX3.out.bel).outside.at' lt3
    obtain ⟨bE,oE,hAE,_,s1⟩:=(hP.out.below HX3.out.bel).demand.at' lt1
    obtain ⟨bS,oS,hAS,_,s2⟩:=(hP.out.below HX3.out.bel).solar.at' lt2
    have g0:=getD_at _ lt3
    have g1:=getD_at _ lt1
    have g2:=getD_at _ lt2
    rw [← g0] at s0
    rw [← g1] at s1
    rw [← g2] at s2
    have hb:=HB.out
    generalize x.outside.l.getD 0 0=ov at *
    have e1:x.p.demand.getD 0 0=x.demand.l.getD 0 0:=rfl
    have e2:x.p.solar.getD 0 0=x.solar.l.getD 0 0:=rfl
    rw [e1,e2] at hb
    generalize x.demand.l.getD 0 0=ev at *
    generalize x.solar.l.getD 0 0=sv at *
    simp at s0 s1 s2
    have HTS:=Lib.hid (HT0.out ov)
    generalize x.room.valid.step x.temp ov d.heat=tv at *
    obtain ⟨-,c1, -,c3,c4,c5, -, -, -, -, -,c11,c12,c13,c14,c15,c16,c17, -,c19⟩:=PbC.of_blk HX3.out.p
    have d1:=HX3.out.q.cell 1
    simp [DcM.cs] at d1
    rw [hAO] at c5
    rw [hAE] at c4
    rw [hAS] at c3
    obtain ⟨PW,hPW⟩:∃ z,z=d.heat * x.power:=⟨_,rfl⟩
    rw [← hPW] at hb
    have a1:IntKind.i64.wrap (ev+dr)=ev+dr:=IntWalk.i64_in _ (by omega)
    have a2:IntKind.i64.wrap (d.heat * x.power)=PW:=by rw [hPW]; exact IntWalk.i64_in _ (by omega)
    have a3:IntKind.i64.wrap (ev+dr+PW)=ev+dr+PW:=IntWalk.i64_in _ (by omega)
    have a4:IntKind.i64.wrap (ev+dr+PW - sv)=ev+dr+PW - sv:=IntWalk.i64_in _ (by omega)
    have HNB:Hid (-100000 ≤ ev+dr+PW - sv∧ev+dr+PW - sv ≤ 100000):=by show _∧_; omega
    have HPW:=Lib.hid hPW
    clear g0 g1 g2 hb e1 e2 hAO hAE hAS HB HT0 HLT hPW
    go_upto_region 10 with fail
    clear q0
    go_cut [13] (fun s13 wx => s13 = .int .i64 tv∧Hid (Below w3.heap.size w3 wx))
    case first =>
     refine wp_region_held_drew (S:=(fun w' => w'.cell? ⟨w.heap.size,5,none⟩=some (.slice (some ⟨bO,oO,none⟩) x.outside.l.length x.outside.c)∧w'.cell? ⟨w.heap.size,11,none⟩=some (.int .i64 x.gain)∧w'.cell? ⟨w.heap.size,12,none⟩=some (.int .i64 x.loss)∧w'.cell? ⟨w.heap.size,13,none⟩=some (.int .i64 x.steps)∧w'.cell? ⟨w.heap.size,14,none⟩=some (.int .i64 x.power)∧w'.cell? ⟨w.heap.size,15,none⟩=some (.slice x.low.A x.low.l.length x.low.c)∧w'.cell? ⟨w.heap.size,16,none⟩=some (.slice x.high.A x.high.l.length x.high.c)∧w'.cell? ⟨w.heap.size,19,none⟩=some (.int .i64 x.temp)∧w'.cell? ⟨w.heap.size+1,1,none⟩=some (.int .i64 d.heat)∧w'.cell? ⟨bO,oO,none⟩=some (.int .i64 ov))) (by kernel_rfl) (⟨c5,c11,c12,c13,c14,c15,c16,c19,d1,s0⟩) (fun hHeld => ?_)
     refine tk 0 ?_
     try simp only [jA,jB,Act.put,jD,jE,jF]
     refine tk 1 ?_
     try simp only [jA,jB,jC,Act.put,jD,jE,jF]
     refine tk 2 ?_
     try simp only [jA,jB,jC,Act.put,jD,jE,jF]
     refine tk 3 ?_
     try simp only [jA,jB,jC,Act.put,jD,jE,jF]
     refine tk 4 ?_
     try simp only [jA,jB,jC,Act.put,jD,jE,jF]
     refine tk 5 ?_
     try simp only [jA,jB,jC,Act.put,jD,jE,jF]
     refine tk 6 ?_
     try simp only [jA,jB,jC,Act.put,jD,jE,jF]
     refine tk 7 ?_
     try simp only [jA,jB,jC,Act.put,jD,jE,jF]
     refine tk 8 ?_
     try simp only [jA,jB,jC,Act.put,jD,jE,jF]
     refine tk 9 ?_
     try simp only [jA,jB,jC,Act.put,jD,jE,jF]
     refine wpAnyH_ready (rs := [10]) (by kernel_rfl) (by simp) ?_
     refine (AllReadyH.cons rfl (fun K hK => ?_) AllReadyH.nil)
     have HKK:=Lib.hid hK
     clear hK
     go_simp
     refine (HTS.out _ (hP.out.below ((Below.drew (HX3.out.bel))))).mono ?_
     rintro e' yw1 ⟨rfl,hb1⟩
     have hq1:Below w3.heap.size w3 yw1:=below_tr (Below.drew (Below.refl w3.heap.size w3)) hb1
     have HB_yw1:=Lib.hid ((HX3.out.bel).trans (hq1.mono (Below.size (HX3.out.bel))))
     have HS_yw1:Hid (w3.heap.size ≤ yw1.heap.size):=Nat.le_trans ((Nat.le_refl w3.heap.size)) hq1.size
     have HBW:=Lib.hid hq1
     clear hb1
     go_wp2_with fail
     refine HKK.out _ _ (⟨(cell_below c5 hq1),(cell_below c11 hq1),(cell_below c12 hq1),(cell_below c13 hq1),(cell_below c14 hq1),(cell_below c15 hq1),(cell_below c16 hq1),(cell_below c19 hq1),(cell_below d1 hq1),(cell_below s0 hq1)⟩) (fun hH2 => ?_)
     clear HKK K
     replace hHeld:=hH2
     clear hH2
     try simp only [jA,jB,jC,Act.put,jD,jE,jF]
     refine tk 11 ?_
     try simp only [jA,jB,jC,Act.put,jD,jE,jF]
     refine wpAnyH_done (by kernel_rfl) ?_ _
     clear hHeld
     go_wp2_with fail
     go_meet
     exact ⟨rfl,HBW.out⟩
    case rest =>
     obtain ⟨rfl,hBx⟩:=hcut
     obtain ⟨w4,hw4⟩:∃ W,W=wc:=⟨_,rfl⟩
     subst hw4
     have c1:=cell_below c1 hBx.out
     have c3:=cell_below c3 hBx.out
     have c4:=cell_below c4 hBx.out
     have c14:=cell_below c14 hBx.out
     have c17:=cell_below c17 hBx.out
     have d1:=cell_below d1 hBx.out
     have s1:=cell_below s1 hBx.out
     have s2:=cell_below s2 hBx.out
     have HX4:=Lib.hid (HX3.out.below hBx.out)
     clear hBx HX3 c5 c11 c12 c13 c15 c16 c19 s0 lt3 HTS
     go_upto_region 11 with fail
     go_cut [14] (fun s14 wx => s14 = .int .i64 (ev+dr+PW - sv)∧Hid (Below w4.heap.size w4 wx))
     case first =>
      refine wp_region_held_drew (S:=(fun w' => w'.cell? ⟨w.heap.size,4,none⟩=some (.slice (some ⟨bE,oE,none⟩) x.demand.l.length x.demand.c)∧w'.cell? ⟨bE,oE,none⟩=some (.int .i64 ev)∧w'.cell? ⟨w.heap.size+1,1,none⟩=some (.int .i64 d.heat)∧w'.cell? ⟨w.heap.size,14,none⟩=some (.int .i64 x.power)∧w'.cell? ⟨w.heap.size,3,none⟩=some (.slice (some ⟨bS,oS,none⟩) x.solar.l.length x.solar.c)∧w'.cell? ⟨bS,oS,none⟩=some (.int .i64 sv))) (by kernel_rfl) (⟨c4,s1,d1,c14,c3,s2⟩) (fun hHeld => ?_)
      refine tk 0 ?_
      try simp only [jA,jB,Act.put,jD,jE,jF]
      refine tk 1 ?_
      try simp only [jA,jB,jC,Act.put,jD,jE,jF]
      refine tk 2 ?_
      try simp only [jA,jB,jC,Act.put,jD,jE,jF]
      refine tk 3 ?_
      try simp only [jA,jB,jC,Act.put,jD,jE,jF]
      refine tk 4 ?_
      try simp only [jA,jB,jC,Act.put,jD,jE,jF]
      refine tk 5 ?_
      try simp only [jA,jB,jC,Act.put,jD,jE,jF]
      refine tk 6 ?_
      try simp only [jA,jB,jC,Act.put,jD,jE,jF]
      refine tk 7 ?_
      try simp only [jA,jB,jC,Act.put,jD,jE,jF]
      refine tk 8 ?_
      try simp only [jA,jB,jC,Act.put,jD,jE,jF]
      refine tk 9 ?_
      try simp only [jA,jB,jC,Act.put,jD,jE,jF]
      refine tk 10 ?_
      try simp only [jA,jB,jC,Act.put,jD,jE,jF]
      refine tk 11 ?_
      try simp only [jA,jB,jC,Act.put,jD,jE,jF]
      refine tk 12 ?_
      try simp only [jA,jB,jC,Act.put,jD,jE,jF]
      refine tk 13 ?_
      try simp only [jA,jB,jC,Act.put,jD,jE,jF]
      refine tk 14 ?_
      try simp only [jA,jB,jC,Act.put,jD,jE,jF]
      refine tk 15 ?_
      try simp only [jA,jB,jC,Act.put,jD,jE,jF]
      refine tk 16 ?_
      try simp only [jA,jB,jC,Act.put,jD,jE,jF]
      refine tk 17 ?_
      try simp only [jA,jB,jC,Act.put,jD,jE,jF]
      refine tk 18 ?_
      try simp only [jA,jB,jC,Act.put,jD,jE,jF]
      refine wpAnyH_done (by kernel_rfl) ?_ _
      clear hHeld
      go_wp2_with fail
      go_meet
      exact ⟨rfl,Below.drew (Below.refl _ _)⟩
     case rest =>
      obtain ⟨rfl,hBy⟩:=hcut
      obtain ⟨w5,hw5⟩:∃ W,W=wc:=⟨_,rfl⟩
      subst hw5
      have c17:=cell_below c17 hBy.out
      have HX5:=Lib.hid (HX4.out.below hBy.out)
      clear hBy HX4 c1 c3 c4 c14 d1 s1 s2 a1 a2 a3 a4 lt1 lt2
      obtain ⟨N0,hN0⟩:∃ z,z=ev+dr+PW - sv:=⟨_,rfl⟩
      have HN0:Hid (-100000 ≤ N0∧N0 ≤ 100000):=by show _∧_; rw [hN0]; exact HNB.out
      have HNN:Hid (x.p.nextNet d.d=N0+x.p.firstUse d.d x.loads.length):=by show _=_; rw [HNET.out,hN0,HPW.out]
      rw [← hN0]
      clear hN0 HNB HNET HPW
      go_wp2_with fail
      clear c17
      go_loopw [74,14] (fun s74 s14 wr => ∃ k:Nat,k ≤ x.loads.length∧s74 = .int .i64 k∧s14 = .int .i64 (N0+x.p.firstUse d.d k)∧Hid (PD x d 39 w wr))
       (fun s74 _ _ => x.loads.length - (intOf s74).toNat)
      case atStart => exact ⟨0,by omega,rfl,by show _=Value.int .i64 (N0+0); rw [Int.add_zero],HX5.out⟩
      case round =>
       clear HX5
       obtain ⟨k,hk,rfl,rfl,hX⟩:=hrel
       obtain ⟨wo,hwo⟩:∃ wo:World,wo=wr:=⟨_,rfl⟩
       subst hwo
       by_cases hlt:k < x.loads.length
       ·obtain ⟨bL,oL,hAe,_,y0,y1,y2,y3⟩:=(hP.out.below hX.out.bel).loads.at' hlt
        have hpr:=(hP.out.below hX.out.bel).loads.prof hlt
        have hld:=HLK.out k hlt
        have hl0:=(Ld.good hld).p0
        have hu:=Ld.unit_at hld (k:=0) (by omega)
        have hkd:k < d.l.length:=by have:=HDL.out; omega
        obtain ⟨bD,oD,hAD,_,z0⟩:=(hD.out.below hX.out.bel).at' hkd
        obtain ⟨bF,oF,hAF,_,p0⟩:=hpr.at' (show 0 < x.loads[k].r.prof.length by omega)
        have hfs:x.p.firstUse d.d (k+1)=x.p.firstUse d.d k+if d.l[k]=true then x.loads[k].r.prof[0] else 0:=by
         rw [Pb.firstUse,PbM.load_at hlt,show d.d.starts.getD k false=d.l[k] from bools_at hkd,getD_at _ (show 0 < x.loads[k].r.prof.length by omega)]
        have hf1:=HFU.out k (by omega)
        have hn0:=HN0.out
        have i1:(0:Int) ≤ (k:Int):=by omega
        have i2:(k:Int) < (x.loads.length:Int):=by omega
        have i3:(k:Int) < (d.l.length:Int):=by omega
        have i4:(0:Int) < (x.loads[k].r.prof.length:Int):=by omega
        have i5:0 < x.loads[k].r.prof.length:=by omega
        have hk4:(k:Int) ≤ 1000:=by omega
        have hun:x.loads[k].r.prof[0]=x.loads[k].r.prof[0]:=rfl
        generalize x.loads[k].r.prof[0]=u at *
        clear hun hld hl0 hpr
        generalize x.loads[k]=X at *
        generalize d.l[k]=db at *
        simp at p0
        rw [hAF] at y1
        rw [hAe]
        clear hAe
        have HFS:=Lib.hid hfs
        clear hfs
        go_upto_region 15 with fail
        clear y0 y1 y2 y3
        obtain ⟨wi,hwi⟩:∃ W,W=wo.alloc (.cells #[.string X.r.name,.slice (some ⟨bF,oF,none⟩) X.r.prof.length X.c,.int .i64 X.r.early,.int .i64 X.r.late] 54):=⟨_,rfl⟩
        obtain ⟨t16,ht16⟩:∃ n,n=wo.heap.size:=⟨_,rfl⟩
        rw [← hwi, ← ht16]
        have hX2:Hid (PD x d 39 w wi):=by show PD _ _ _ _ _; rw [hwi]; exact hX.out.alloc _
        have z0:wi.cell? ⟨bD,oD+k,none⟩=some (.bool db):=by rw [hwi]; exact cell_below z0 (below_al (Below.refl _ _))
        have p0:wi.cell? ⟨bF,oF,none⟩=some (.int .i64 u):=by rw [hwi]; exact cell_below p0 (below_al (Below.refl _ _))
        have hkb:Blk wi t16 54 #[.string X.r.name,.slice (some ⟨bF,oF,none⟩) X.r.prof.length X.c,.int .i64 X.r.early,.int .i64 X.r.late]:=by rw [hwi,ht16]; exact Blk.new _ _ _
        have y1:=hkb.cell 1
        simp at y1
        have d2:=hX2.out.q.cell 2
        simp [DcM.cs] at d2
        rw [hAD] at d2
        clear hwi ht16 hkb hX hAD
        obtain ⟨FU,hFU⟩:∃ z,z=x.p.firstUse d.d k:=⟨_,rfl⟩
        rw [← hFU] at hf1
        rw [← hFU]
        cases db
        ·have HFE:Hid (x.p.firstUse d.d (k+1)=FU):=by show _=_; rw [HFS.out,if_neg (by decide),hFU,Int.add_zero]
         clear HFS hFU hf1 hn0
         go_wp2_with fail
         go_roundw
         case rel => exact ⟨k+1,by omega,by go_num,by rw [HFE.out],hX2.out⟩
         case measure => simp [intOf]; omega
        ·have HFE:Hid (x.p.firstUse d.d (k+1)=FU+u):=by show _=_; rw [HFS.out,if_pos rfl,hFU]
         have a1:IntKind.i64.wrap (N0+FU+u)=N0+FU+u:=IntWalk.i64_in _ (by omega)
         clear HFS hFU hf1 hn0
         go_wp2_with fail
         go_roundw
         case rel => exact ⟨k+1,by omega,by go_num,by rw [HFE.out, ← Int.add_assoc],hX2.out⟩
         case measure => simp [intOf]; omega
       ·have hrl:k=x.loads.length:=by omega
        have HRT:Hid (x.p.apL d.d=lv∧x.p.apT d.d=tv∧x.p.apN d.d=N0+x.p.firstUse d.d k):=by
         obtain ⟨h1,h2,h3⟩:=HOK.out
         refine ⟨by rw [h1]; exact HLV.out,by rw [h2]; exact HTM.out,?_⟩
         rw [h3,HNN.out,hrl]
        go_wp2_with fail
        refine bodyPost_ret (v := .tuple #[.int .i64 lv,.int .i64 tv,.int .i64 (N0+x.p.firstUse d.d k),.int .i64 0]) (by simp [results,Tryz.results22,go_sem]) rfl ?_
        exact ⟨by rw [HRT.out.1,HRT.out.2.1,HRT.out.2.2,HDE.out],hX.out.bel⟩
   ·have q0:(er != 0)=true:=by simp [he]
    have HBD:Hid (x.p.apL d.d=0∧x.p.apT d.d=0∧x.p.apN d.d=0):=Pb.ap_bad (by rw [HDO.out]; exact he)
    clear he
    go_wp2_with fail
    refine bodyPost_ret (v := .tuple #[.int .i64 0,.int .i64 0,.int .i64 0,.int .i64 er]) (by simp [results,Tryz.results22,go_sem]) rfl ?_
    exact ⟨by rw [HBD.out.1,HBD.out.2.1,HBD.out.2.2,HDO.out],HX3.out.bel⟩
  ·have hdo:=Pb.do_can hc hcd
   have HBD:Hid (x.p.apL d.d=0∧x.p.apT d.d=0∧x.p.apN d.d=0):=Pb.ap_bad (by rw [hdo]; exact hcd)
   have q0:(x.p.canDo d.d != 0)=true:=by simp [hcd]
   generalize x.p.canDo d.d=cd at *
   have HPO:=Lib.hid hpo0
   have HDO:=Lib.hid hdo
   clear hpo0 hdo hcd hc hck0 hF
   go_enter Tryz.func22,Tryz.ntmps22
   go_upto_region 1 with fail
   rw [← hWH.out]
   clear hWH
   go_wp2_with (first | refine wpList_load_problemG (by rfl) _ rfl w.heap.size rfl x hst.out.p ?_ | refine wpList_load_decG (by rfl) _ rfl (w.heap.size+1) rfl d hst.out.q ?_)
   refine (HCK.out _ (hP.out.below hst.out.bel)).mono ?_
   rintro e w1 ⟨rfl,hb1⟩
   have HX1:=Lib.hid (hst.out.below hb1)
   clear hb1 hst HCK
   go_upto_region 4 with fail
   go_wp2_with (first | refine wpList_load_problemG (by rfl) _ rfl w.heap.size rfl x HX1.out.p ?_ | refine wpList_load_decG (by rfl) _ rfl (w.heap.size+1) rfl d HX1.out.q ?_)
   refine (HPO.out _ (hP.out.below HX1.out.bel) (hD.out.below HX1.out.bel)).mono ?_
   rintro e w2 ⟨rfl,hb2⟩
   have HX2:=Lib.hid (HX1.out.below hb2)
   clear hb2 HX1 HPO
   go_wp2_with fail
   refine bodyPost_ret (v := .tuple #[.int .i64 0,.int .i64 0,.int .i64 0,.int .i64 cd]) (by simp [results,Tryz.results22,go_sem]) rfl ?_
   exact ⟨by rw [HBD.out.1,HBD.out.2.1,HBD.out.2.2,HDO.out],HX2.out.bel⟩
 ·have hdo:=Pb.do_chk (d:=d.d) hc
  have HBD:Hid (x.p.apL d.d=0∧x.p.apT d.d=0∧x.p.apN d.d=0):=Pb.ap_bad (by rw [hdo]; exact hc)
  have q0:(x.p.chk != 0)=true:=by simp [hc]
  generalize x.p.chk=ck at *
  have HCK:=Lib.hid hck0
  have HDO:=Lib.hid hdo
  clear hdo hc hck0 hF
  go_enter Tryz.func22,Tryz.ntmps22
  go_upto_region 1 with fail
  rw [← hWH.out]
  clear hWH
  go_wp2_with (first | refine wpList_load_problemG (by rfl) _ rfl w.heap.size rfl x hst.out.p ?_ | refine wpList_load_decG (by rfl) _ rfl (w.heap.size+1) rfl d hst.out.q ?_)
  refine (HCK.out _ (hP.out.below hst.out.bel)).mono ?_
  rintro e w1 ⟨rfl,hb1⟩
  have HX1:=Lib.hid (hst.out.below hb1)
  clear hb1 hst HCK
  go_wp2_with fail
  refine bodyPost_ret (v := .tuple #[.int .i64 0,.int .i64 0,.int .i64 0,.int .i64 ck]) (by simp [results,Tryz.results22,go_sem]) rfl ?_
  exact ⟨by rw [HBD.out.1,HBD.out.2.1,HBD.out.2.2,HDO.out],HX1.out.bel⟩
theorem Tryz.infoLoadR:(Tryz.prog.info? 54).map (fun i => (i.zero,i.size,i.bytes))=some (some (.agg #[.string ⟨#[]⟩,.slice none 0 0,.int .i64 0,.int .i64 0]),4,56):=by kernel_rfl
structure PbM.Cap (x:PbM):Prop where
 buy:x.buy.l.length ≤ x.buy.c
 sell:x.sell.l.length ≤ x.sell.c
 solar:x.solar.l.length ≤ x.solar.c
 demand:x.demand.l.length ≤ x.demand.c
 outside:x.outside.l.length ≤ x.outside.c
 low:x.low.l.length ≤ x.low.c
 high:x.high.l.length ≤ x.high.c
 loads:x.loads.length ≤ x.lc
 profs:∀ y ∈ x.loads,y.r.prof.length ≤ y.c
theorem RInts.cut {w:World} {A:Option Addr} {l:List Int} (h:RInts w A l) {k cap:Nat} (hk:k ≤ l.length) (hc:l.length ≤ cap):RInts w (if cap=k then A else A.map (·.add k)) (l.drop k):=by
 have h1:=Reads.cut h hk hc
 rw [Nat.mul_one] at h1
 unfold RInts
 rw [List.length_drop,show ints (l.drop k)=(ints l).drop k by simp [ints]]
 exact h1
def RLd (w:World) (A:Option Addr) (l:List LdM):Prop:=Reads w w.heap.size 4 A l.length (ldCells l)
theorem rld_lit (w:World) (cs:Array Value) (t:TypeId) {l:List LdM} (h:cs.toList=ldCells l):RLd (w.alloc (.cells cs t)) (some ⟨w.heap.size,0,none⟩) l:=by
 refine ⟨by rw [ldCells_length],fun _ => ⟨_,rfl,by simp,fun j u hu => ?_⟩⟩
 have hadd:(⟨w.heap.size,0,none⟩:Addr).add j=⟨w.heap.size,j,none⟩:=by unfold Addr.add; split <;> simp_all
 rw [hadd,(Blk.new w t cs).cell j, ← hu, ← h]
 simp
def natI (l:List Nat):List Int:=l.map fun (i:Nat) => (i:Int)
theorem natI_len (l:List Nat):(natI l).length=l.length:=by simp [natI]
theorem natI_append (l m:List Nat):natI (l ++ m)=natI l ++ natI m:=by simp [natI]
structure LS (B:Nat) (w:World) (v v2:Value) (ls:List LdM) (is:List Nat):Prop where
 own:w.ownsRow B 54 4 v ls.length (ldCells ls)
 own2:w.ownsRow B 3 1 v2 is.length (ints (natI is))
 ne:∀ q,v.ownBlock=some q→v2.ownBlock ≠ some q
 profs:∀ y ∈ ls,RInts w y.A y.r.prof∧y.r.prof.length ≤ y.c∧∀ ad,y.A=some ad→B ≤ ad.block∧some ad.block ≠ v.ownBlock∧some ad.block ≠ v2.ownBlock∧ad.block < w.heap.size
section
variable {B:Nat} {w w1:World} {v v2 v':Value} {ls:List LdM} {is:List Nat} {x:LdM}
theorem LS.nil (B:Nat) (w:World):LS B w (.slice none 0 0) (.slice none 0 0) [] []:=⟨World.ownsRow_nil _ _ _ _,World.ownsRow_nil _ _ _ _,(fun q h => by cases h),by simp⟩
theorem LS.below (h:LS B w v v2 ls is) (hb:Below w.heap.size w w1):LS B w1 v v2 ls is :=
 ⟨own_below h.own hb,own_below h.own2 hb,h.ne,fun y hy => by
  obtain ⟨h1,h2,h3⟩:=h.profs y hy
  exact ⟨h1.below hb,h2,fun ad e => by obtain ⟨a,b,c,d⟩:=h3 ad e; exact ⟨a,b,c,Nat.lt_of_lt_of_le d hb.size⟩⟩⟩
theorem own_keep {b:Nat} {e:TypeId} {s n:Nat} {xs:List Value} {r:Option Nat} (h:w.ownsRow b e s v n xs) (hg:w.grownBy w1 r) (hne:v.ownBlock=none ∨ v.ownBlock ≠ r):w1.ownsRow b e s v n xs:=h.kept hg hne
theorem LS.push1 (h:LS B w v v2 ls is) (hx:RInts w x.A x.r.prof) (hc:x.r.prof.length ≤ x.c) (hf:∀ ad,x.A=some ad→B ≤ ad.block∧some ad.block ≠ v.ownBlock∧some ad.block ≠ v2.ownBlock∧ad.block < w.heap.size)
  (hown:w1.ownsRow B 54 4 v' (ls.length+1) (ldCells ls ++ x.cells)) (hg:w.grownBy w1 v.ownBlock) (hv:v'.ownBlock=v.ownBlock ∨ ∃ q,v'.ownBlock=some q∧w.heap.size ≤ q):LS B w1 v' v2 (ls ++ [x]) is:=by
 have hvn:v2.ownBlock=none ∨ v2.ownBlock ≠ v.ownBlock:=by
  cases e:v.ownBlock with
  | none => cases e2:v2.ownBlock with
   | none => exact .inl rfl
   | some q => exact .inr (by simp)
  | some q => exact .inr (h.ne q e)
 refine ⟨by rw [ldCells_append]; simpa [ldCells] using hown,own_keep h.own2 hg hvn,?_,?_⟩
 ·intro q hq
  rcases hv with hv | ⟨k,hv,hk⟩
  ·exact h.ne q (by rw [← hv]; exact hq)
  ·rw [hv] at hq
   injection hq with hq
   intro e
   have:=(h.own2.lt q e).2
   omega
 ·intro y hy
  rw [List.mem_append,List.mem_singleton] at hy
  have key:∀ y:LdM,RInts w y.A y.r.prof→y.r.prof.length ≤ y.c→(∀ ad,y.A=some ad→B ≤ ad.block∧some ad.block ≠ v.ownBlock∧some ad.block ≠ v2.ownBlock∧ad.block < w.heap.size) →
    RInts w1 y.A y.r.prof∧y.r.prof.length ≤ y.c∧∀ ad,y.A=some ad→B ≤ ad.block∧some ad.block ≠ v'.ownBlock∧some ad.block ≠ v2.ownBlock∧ad.block < w1.heap.size:=by
   intro y h1 h2 h3
   refine ⟨h1.other hg fun ad e => (h3 ad e).2.1,h2,fun ad e => ?_⟩
   obtain ⟨a,b,c,d⟩:=h3 ad e
   refine ⟨a,?_,c,Nat.lt_of_lt_of_le d hg.size⟩
   rcases hv with hv | ⟨k,hv,hk⟩
   ·rw [hv]; exact b
   ·rw [hv]; intro hh; injection hh with hh; omega
  rcases hy with hy | rfl
  ·obtain ⟨h1,h2,h3⟩:=h.profs y hy
   exact key y h1 h2 h3
  ·exact key y hx hc hf
theorem LS.push2 (h:LS B w v v2 ls is) {i:Nat} (hown:w1.ownsRow B 3 1 v' (is.length+1) (ints (natI is) ++ [.int .i64 i])) (hg:w.grownBy w1 v2.ownBlock) (hv:v'.ownBlock=v2.ownBlock ∨ ∃ q,v'.ownBlock=some q∧w.heap.size ≤ q):LS B w1 v v' ls (is ++ [i]):=by
 have hvn:v.ownBlock=none ∨ v.ownBlock ≠ v2.ownBlock:=by
  cases e:v.ownBlock with
  | none => exact .inl rfl
  | some q => exact .inr fun e2 => h.ne q e e2.symm
 refine ⟨own_keep h.own hg hvn,by rw [natI_append,ints_append,List.length_append]; exact hown,?_,?_⟩
 ·intro q hq
  rcases hv with hv | ⟨k,hv,hk⟩
  ·rw [hv]; exact h.ne q hq
  ·rw [hv]
   intro e
   injection e with e
   have:=(h.own.lt q hq).2
   omega
 ·intro y hy
  obtain ⟨h1,h2,h3⟩:=h.profs y hy
  refine ⟨h1.other hg fun ad e => (h3 ad e).2.2.1,h2,fun ad e => ?_⟩
  obtain ⟨a,b,c,d⟩:=h3 ad e
  refine ⟨a,b,?_,Nat.lt_of_lt_of_le d hg.size⟩
  rcases hv with hv | ⟨k,hv,hk⟩
  ·rw [hv]; exact c
  ·rw [hv]; intro hh; injection hh with hh; omega
theorem LS.fresh (h:LS B w v v2 ls is) {A:Option Addr} {B2:Nat} (hf:∀ ad,A=some ad→w.heap.size ≤ ad.block) (hB:B ≤ w.heap.size) (hlt:∀ ad,A=some ad→ad.block < B2) :
  ∀ ad,A=some ad→B ≤ ad.block∧some ad.block ≠ v.ownBlock∧some ad.block ≠ v2.ownBlock∧ad.block < B2:=fun ad e => by
 have h1:=hf ad e
 refine ⟨by omega,fun h2 => ?_,fun h2 => ?_,hlt ad e⟩
 ·have:=(h.own.lt _ h2.symm).2; omega
 ·have:=(h.own2.lt _ h2.symm).2; omega
theorem LS.read (h:LS B w v v2 ls is):∃ A c A2 c2,v = .slice A ls.length c∧v2 = .slice A2 is.length c2∧RLoads w A ls∧ls.length ≤ c∧RInts w A2 (natI is)∧is.length ≤ c2∧(∀ ad,A=some ad→B ≤ ad.block)∧(∀ ad,A2=some ad→B ≤ ad.block):=by
 obtain ⟨A,c,rfl⟩:=own_form h.own
 obtain ⟨A2,c2,rfl⟩:=own_form h.own2
 refine ⟨A,c,A2,c2,rfl,rfl,⟨Reads.of_own h.own,fun x hx => (h.profs x hx).1⟩,own_cap h.own,?_,own_cap h.own2,own_fresh h.own,own_fresh h.own2⟩
 have:=Reads.of_own h.own2
 unfold RInts
 rw [natI_len]
 exact this
end
set_option maxRecDepth 100000 in
set_option maxHeartbeats 4000000 in
theorem crest_any (A:Option Addr) (c:Nat) (l:List Int) (w:World) (hA0:RInts w A l) (hk:1 ≤ l.length) (hc:l.length ≤ c) (hl:l.length ≤ 1000000000) :
  Calls Tryz.prog 57 #[.slice A l.length c] w (IntsCap (l.drop 1) w):=by
 have hcut:=RInts.cut hA0 hk hc
 have hcl1:=fun (a:Option Addr) (q:Nat) (m:List Int) (hq:RInts w a m) (hm:m.length ≤ 1000000000) => clone_own a q m w hq hm
 by_cases hck:c=1
 ·subst hck
  rw [if_pos rfl] at hcut
  have hz:l.drop 1 = []:=List.drop_eq_nil_of_le (by omega)
  rw [hz] at hcut ⊢
  have hcl0:Calls Tryz.prog 68 #[.slice A 0 0] w (OwnOut [] w):=hcl1 A 0 [] hcut (by decide)
  have hcl:=Lib.hid hcl0
  clear hz
  obtain ⟨n,hn⟩:∃ n,n=l.length:=⟨_,rfl⟩
  rw [← hn] at hk hc hl ⊢
  have i2:(1:Int) ≤ (n:Int):=by omega
  clear hA0 hcut hcl0 hcl1 hn
  go_enter Tryz.func57,Tryz.ntmps57
  go_wp2_with fail
  refine hcl.out.mono ?_
  rintro e w1 ⟨v,rfl,hr,hb⟩
  obtain ⟨A',c',rfl⟩:=own_form hr
  have hrr:RInts w1 A' []:=RInts.nil
  have HH:=Lib.hid (And.intro hrr (And.intro (own_cap hr) (And.intro (own_fresh hr) hb)))
  clear hr hb hrr
  go_wp2_with fail
  go_ret
  exact ⟨A',c',rfl,HH.out.1,HH.out.2.1,HH.out.2.2.1,HH.out.2.2.2⟩
 ·rw [if_neg hck] at hcut
  have hcl0:=hcl1 (A.map (·.add 1)) (c - 1) (l.drop 1) hcut (by rw [List.length_drop]; omega)
  rw [List.length_drop] at hcl0
  have hcl:=Lib.hid hcl0
  have HLD:=Lib.hid (List.length_drop (i:=1) (l:=l))
  obtain ⟨m,hm⟩:∃ m,m=l.drop 1:=⟨_,rfl⟩
  rw [← hm] at hcl HLD ⊢
  obtain ⟨n,hn⟩:∃ n,n=l.length:=⟨_,rfl⟩
  rw [← hn] at hk hc hl hcl HLD ⊢
  have i2:(1:Int) ≤ (n:Int):=by omega
  clear hA0 hcut hcl0 hcl1 hn hm
  go_enter Tryz.func57,Tryz.ntmps57
  go_wp2_with fail
  refine hcl.out.mono ?_
  rintro e w1 ⟨v,rfl,hr,hb⟩
  obtain ⟨A',c',rfl⟩:=own_form hr
  rw [HLD.out] at hr ⊢
  have hrr:RInts w1 A' m:=by
   unfold RInts
   rw [HLD.out]
   exact Reads.of_own hr
  have HH:=Lib.hid (And.intro hrr (And.intro (own_cap hr) (And.intro (own_fresh hr) hb)))
  clear hr hb hrr
  go_wp2_with fail
  go_ret
  exact ⟨A',c',by rw [HLD.out]; rfl,HH.out.1,by rw [HLD.out]; exact HH.out.2.1,HH.out.2.2.1,HH.out.2.2.2⟩
end Go.Proofs.YtnppngaabfhkpaaGreat
namespace Go.Proofs.YtnppngaabfhkpaaGreat
open Go.RowKit
set_option maxRecDepth 100000 in
set_option maxHeartbeats 8000000 in
theorem cshift_any (r:Ld) (A:Option Addr) (c:Nat) (k:Int) (w:World) (hA0:RInts w A r.prof) (hn:r.name.size ≤ maxLen) (hl:r.prof.length < 1000000000) :
  Calls Tryz.prog 80 #[r.v A c,.int .i64 k] w (LdOutC (r.shift k) (r.canShift k) w):=by
 have hck0:=fun W (h:RInts W A r.prof) => lcheck_any r A c 96 W h hn (by unfold maxLen; omega)
 have hcl:=Lib.hid (fun W (h:RInts W A r.prof) => clone_cap A c r.prof W h (by omega))
 have hA:=Lib.hid hA0
 simp only [Ld.v] at hck0 ⊢
 by_cases hc:r.chk 96=0
 ·have g:=Ld.good hc
  have e0:=g.e0; have l1:=g.l1; have el:=g.el; have p0:=g.p
  have hkb:=clampK_bd k
  have hcs:=clamp_cases k
  have hno:=Lib.hid (fun (h:r.late - clampK k < (r.prof.length:Int)) => Ld.can_len (r:=r) (k:=k) (by omega))
  have hyes:=Lib.hid (fun (h:(r.prof.length:Int) ≤ r.late - clampK k) => Ld.can_yes hc h)
  have hmv:=Lib.hid (show (r.moved k).name=r.name∧(r.moved k).prof=r.prof∧(r.moved k).early=(if r.early - clampK k < 0 then 0 else r.early - clampK k)∧(r.moved k).late=r.late - clampK k from ⟨rfl,rfl,rfl,rfl⟩)
  have hs1:=Lib.hid (fun (h:r.canShift k=false) => Ld.shift_no h)
  have hs2:=Lib.hid (fun (h:r.canShift k=true) => Ld.shift_yes h)
  rw [hc] at hck0
  have hck:=Lib.hid hck0
  clear hck0 hA0 hc g
  generalize clampK k=K at *
  obtain ⟨n,hn⟩:∃ n,n=r.prof.length:=⟨_,rfl⟩
  have HN:=Lib.hid hn
  rw [← hn] at hl p0 hno hyes hck hcl ⊢
  clear hn
  go_enter Tryz.func80,Tryz.ntmps80
  go_wp2_with fail
  refine (hck.out _ ((hA.out.alloc _).alloc _)).mono ?_
  rintro e w1 ⟨rfl,hb⟩
  obtain ⟨k1,k2,hz,hW⟩:=two_boxes hb
  have HW:=Lib.hid hW
  have y0:=k1.cell 0; have y1:=k1.cell 1; have y2:=k1.cell 2; have y3:=k1.cell 3
  have x0:=k2.cell 0; have x1:=k2.cell 1; have x2:=k2.cell 2; have x3:=k2.cell 3
  have f0:=k1.frozen; have f1:=k2.frozen
  have K1:=Lib.hid k1
  have K2:=Lib.hid k2
  simp only [List.getElem?_toArray,List.getElem?_cons_zero,List.getElem?_cons_succ] at y0 y1 y2 y3 x0 x1 x2 x3
  clear hb hW k1 k2
  go_upto_region 3 with fail
  go_cut [1] (fun s1 wx => s1 = .int .i64 K∧w1=wx)
  case first =>
   rcases hcs with ⟨q1,q2,q3,rfl⟩ | ⟨q1,rfl⟩ | ⟨q1,q2,rfl⟩
   all_goals
    go_wp2_with fail
    go_meet
    exact ⟨rfl,rfl⟩
  case rest =>
   obtain ⟨rfl,rfl⟩:=hcut
   clear hcs
   obtain ⟨E,hE⟩:∃ E,E=(if r.early - K < 0 then 0 else r.early - K):=⟨_,rfl⟩
   have HE:=Lib.hid hE
   have hce:(E=0∧¬ 0 < r.early - K) ∨ (E=r.early - K∧0 < r.early - K):=by
    rw [hE]
    by_cases h:r.early - K < 0
    ·rw [if_pos h]; omega
    ·rw [if_neg h]; omega
   clear hE
   by_cases hlen:(n:Int) ≤ r.late - K
   ·have hok:=hyes.out hlen
    have hsh:=hs2.out hok
    have hmv':=hmv.out
    have hres:Hid (∀ A c w',RInts w' A r.prof→n ≤ c→(∀ ad,A=some ad→w.heap.size ≤ ad.block)→Below w.heap.size w w'→LdOutC (r.shift k) (r.canShift k) w (.returned (.tuple #[.agg #[.string r.name,.slice A n c,.int .i64 E,.int .i64 (r.late - K)],.bool true])) w'):=by
     intro A c w' h1 hcc h2 h3
     rw [hok,hsh]
     refine ⟨A,c,?_,by rw [hmv'.2.1]; exact h1,by rw [hmv'.2.1, ← HN.out]; exact hcc,h2,h3⟩
     rw [hmv'.1,hmv'.2.1,hmv'.2.2.1,hmv'.2.2.2,HE.out,HN.out]
    have t1:¬ r.late - K < (n:Int):=by omega
    clear hok hsh hmv' hlen
    rcases hce with ⟨q0,q1⟩ | ⟨q0,q1⟩
    all_goals
     have Q0:=Lib.hid q0
     clear q0
     go_wp2_with fail
     refine (hcl.out _ (hA.out.below ((HW.out.setCell (by simp) _).setCell (by simp) _))).mono ?_
     rintro e w2 ⟨A2,c2,rfl,hr2,hc2,hf2,hb2⟩
     have HR2:=Lib.hid hr2
     have HF2:=Lib.hid hf2
     have HC2:=Lib.hid hc2
     have k1:=((K1.out.set_ 2 _).set_ 3 (.int .i64 (r.late - K))).below hb2 (by simp; omega)
     have k2:=((K2.out.far (p:=⟨w.heap.size,2,none⟩) (by simp) _).far (p:=⟨w.heap.size,3,none⟩) (by simp) (.int .i64 (r.late - K))).below hb2 (by simp; omega)
     have v0:=k1.cell 0; have v1:=k1.cell 1; have v2:=k1.cell 2; have v3:=k1.cell 3
     have u0:=k2.cell 0; have u1:=k2.cell 1; have u2:=k2.cell 2; have u3:=k2.cell 3
     have g0:=k1.frozen; have g1:=k2.frozen
     have hz2:=k2.lt
     simp at v0 v1 v2 v3 u0 u1 u2 u3
     clear k1 k2
     have HW2:Hid (Below w.heap.size w w2):=((HW.out.setCell (by simp) _).setCell (by simp) _).trans (hb2.mono (by simp; omega))
     have hsw:w1.heap.size ≤ w2.heap.size:=by have:=hb2.size; simpa using this
     have hfin:Hid (∀ ad,A2=some ad→w.heap.size ≤ ad.block):=fun ad e => by have h:=HF2.out ad e; simp at h; omega
     have hfar:Hid ((∀ ad,A2=some ad→ad.block ≠ w.heap.size)∧(∀ ad,A2=some ad→ad.block ≠ w.heap.size+1)):=by
      refine ⟨fun ad e => ?_,fun ad e => ?_⟩ <;> (have h:=HF2.out ad e; simp at h; omega)
     clear hr2 hc2 hf2 hb2 y0 y1 y2 y3 x0 x1 x2 x3 f0 f1
     rw [← HN.out]
     go_wp2_with fail
     refine bodyPost_ret (v := .tuple #[.agg #[.string r.name,.slice A2 n c2,.int .i64 E,.int .i64 (r.late - K)],.bool true]) (by simp [results,Tryz.results80,go_sem,u0,u1,u2,u3,Q0.out]) rfl ?_
     refine hres.out A2 c2 _ ?_ (by rw [HN.out]; exact HC2.out) hfin.out ?_
     ·exact ((((HR2.out.setFar hfar.out.1 _).setFar hfar.out.2 _).setFar hfar.out.2 _).setFar hfar.out.2 _).setFar hfar.out.2 _
     ·exact ((((HW2.out.setCell (by simp) _).setCell (by simp) _).setCell (by simp) _).setCell (by simp) _).setCell (by simp) _
   ·have hres:Hid (LdOutC (r.shift k) (r.canShift k) w=LdOutC Ld.zero false w):=by
     have h:=hno.out (by omega)
     show _=_
     rw [h,hs1.out h]
    have t1:r.late - K < (n:Int):=by omega
    rcases hce with ⟨rfl,q1⟩ | ⟨rfl,q1⟩
    ·go_wp2_with fail
     refine bodyPost_ret (v := .tuple #[.agg #[.string ⟨#[]⟩,.slice none 0 0,.int .i64 0,.int .i64 0],.bool false]) (by simp [results,Tryz.results80,go_sem,x0,x1,x2,x3]) rfl ?_
     rw [hres.out]
     refine zero_outC ?_
     exact (((((HW.out.setCell (by simp) _).setCell (by simp) _).setCell (by simp) _).setCell (by simp) _).setCell (by simp) _).setCell (by simp) _
    ·omega
 ·have hres:Hid (LdOutC (r.shift k) (r.canShift k) w=LdOutC Ld.zero false w):=by
   have h:=Ld.can_chk (k:=k) hc
   show _=_
   rw [h,Ld.shift_no h]
  have hne:(r.chk 96 != 0)=true:=by simpa using hc
  clear hA0 hc
  generalize r.chk 96=ch at *
  have hck:=Lib.hid hck0
  clear hck0
  go_enter Tryz.func80,Tryz.ntmps80
  go_wp2_with fail
  refine (hck.out _ ((hA.out.alloc _).alloc _)).mono ?_
  rintro e w1 ⟨rfl,hb⟩
  obtain ⟨hc,hf⟩:=bcell hb
  have hz:w.heap.size+1 < w1.heap.size:=by have:=hb.size; simp at this; omega
  have hW:Below w.heap.size w w1:=(((Below.refl _ _).alloc (Nat.le_refl _) _).alloc (by simp) _).trans (hb.mono (by simp; omega))
  have HW:=Lib.hid hW
  clear hb hW
  go_wp2_with fail
  refine bodyPost_ret (v := .tuple #[.agg #[.string ⟨#[]⟩,.slice none 0 0,.int .i64 0,.int .i64 0],.bool false]) (by simp [results,Tryz.results80,go_sem,hc]) rfl ?_
  rw [hres.out]
  refine zero_outC ?_
  exact (((HW.out.setCell (by simp) _).setCell (by simp) _).setCell (by simp) _).setCell (by simp) _
end Go.Proofs.YtnppngaabfhkpaaGreat
namespace Go.Proofs.YtnppngaabfhkpaaGreat
open Go.Joins Go.ChangeShapes Go.WideShapes Go.RowKit Go.Deep
theorem open_loadsC {H:Type} {enc:TypeId × Value→H} {w:World} {base:Nat} {held:Bool} {n:Nat} {v:Value} {y:DataW H × List MemPlace}
  (h:DataW.trod enc Tryz.prog w base (fun _ => true) held n 29 [v]=some y) :
  ∃ A c l,v = .slice A l.length c∧RLoads w A l∧l.length ≤ c∧(∀ x ∈ l,x.r.prof.length ≤ x.c∧x.r.prof.length ≤ maxLen∧x.r.name.size ≤ maxLen ∧ -9223372036854775808 ≤ x.r.late∧x.r.late ≤ 9223372036854775807):=by
 rcases open_slice_fields Tryz.underlying29 Tryz.underlying54 (by kernel_rfl) Tryz.cellsLoadP h with ⟨hcs,_⟩ | ⟨a,len,cap,m,D,Pl,hcs,_,hl,hm,hmm,_,hf⟩
 ·simp at hcs
  exact ⟨none,0, [],hcs,⟨⟨by simp [ldCells],fun h => absurd h (by simp)⟩,by simp⟩,by simp,by simp⟩
 ·simp at hcs
  simp only [if_true] at hmm
  subst hmm
  have hx:∀ i,i < len→∃ x:LdM,(∀ j,j < 4→w.cell? (a.add (i * 4+j))=x.cells[j]?)∧RInts w x.A x.r.prof∧(x.r.prof.length ≤ x.c∧x.r.prof.length ≤ maxLen∧x.r.name.size ≤ maxLen ∧ -9223372036854775808 ≤ x.r.late∧x.r.late ≤ 9223372036854775807):=by
   intro i hi
   obtain ⟨ys,n',_,_,_,hj⟩:=hf i (by omega)
   obtain ⟨v0,y0,c0,_,t0⟩:=hj 0 _ rfl
   obtain ⟨v1,y1,c1,_,t1⟩:=hj 1 _ rfl
   obtain ⟨v2,y2,c2,_,t2⟩:=hj 2 _ rfl
   obtain ⟨v3,y3,c3,_,t3⟩:=hj 3 _ rfl
   obtain ⟨x0,rfl,hs⟩:=open_str1 t0
   obtain ⟨xm,rfl,hA,hcx,hmx,_⟩:=open_rintsD t1
   obtain ⟨x2,rfl,_⟩:=open_int1 t2
   obtain ⟨x3,rfl,w3⟩:=open_int1 t3
   refine ⟨⟨⟨x0,xm.l,x2,x3⟩,xm.A,xm.c⟩,fun j hj4 => ?_,hA,hcx,hmx,hs,(int_bd w3).1,(int_bd w3).2⟩
   match j,hj4 with
   | 0,_ => exact c0
   | 1,_ => exact c1
   | 2,_ => exact c2
   | 3,_ => exact c3
  obtain ⟨l,hlen,hl2⟩:=list_of hx
  subst hlen
  refine ⟨some a,m,l,hcs,⟨⟨by rw [ldCells_length],fun hn => ⟨a,rfl,?_,fun j u hu => ?_⟩⟩,fun x hx => ?_⟩,hl,fun x hx => ?_⟩
  ·have:=(hl2 0 hn).1 0 (by omega)
   have h1:=World.block_lt_of_cell? _ _ (this.trans (show _=some (.string (l[0]'hn).r.name) from rfl))
   rwa [block_of_add] at h1
  ·have hjl:j < (ldCells l).length:=by
    rcases Nat.lt_or_ge j (ldCells l).length with h | h
    ·exact h
    ·rw [List.getElem?_eq_none h] at hu; cases hu
   rw [ldCells_length] at hjl
   have e:j=j / 4 * 4+j % 4:=by omega
   have h1:=(hl2 (j / 4) (by omega)).1 (j % 4) (Nat.mod_lt _ (by omega))
   rw [← ldCells_get (by omega) (Nat.mod_lt _ (by omega)), ← e,hu] at h1
   exact h1
  ·obtain ⟨i,hi,rfl⟩:=List.mem_iff_getElem.1 hx
   exact (hl2 i hi).2.1
  ·obtain ⟨i,hi,rfl⟩:=List.mem_iff_getElem.1 hx
   exact (hl2 i hi).2.2
set_option maxRecDepth 100000 in
set_option maxHeartbeats 4000000 in
theorem open_problemC {H:Type} {enc:TypeId × Value→H} {w:World} {base:Nat} {held:Bool} {r:Reach} {b0:Nat} {v:Value} {d:DataW H} {p:List MemPlace}
  (hv:Value.okWide Tryz.prog w r b0 31 v) (h:DataW.Trod enc Tryz.prog w base (fun _ => true) held 31 v d p) :
  ∃ x:PbM,v=x.v∧RPb w x∧(∀ y ∈ x.loads,y.r.prof.length ≤ maxLen∧y.r.name.size ≤ maxLen ∧ -9223372036854775808 ≤ y.r.late∧y.r.late ≤ 9223372036854775807)∧x.loads.length ≤ x.lc∧x.buy.l.length ≤ maxLen∧x.Cap:=by
 obtain ⟨cs,rfl,hsz⟩:=okWide_struct Tryz.underlying31 hv
 rw [Tryz.cellsProblem] at hsz
 obtain ⟨l⟩:=cs
 match l,hsz with
 | [c0,c1,c2,c3,c4,c5,c6,c7,c8,c9,c10,c11,c12,c13,c14,c15,c16,c17,c18,c19],_ =>
  obtain ⟨fuel,hf⟩:=h
  obtain ⟨xs,n,_,_,_,hl,hel⟩:=DataW.trod_struct Tryz.underlying31 hf
  match xs,hl with
  | [y0,y1,y2,y3,y4,y5,y6,y7,y8],_ =>
   have t0:DataW.trod enc Tryz.prog w base (fun _ => true) held n 24 [c0,c1,c2]=some y0:=hel 0 _ rfl
   have t1:=hel 1 _ rfl
   have t2:=hel 2 _ rfl
   have t3:=hel 3 _ rfl
   have t4:DataW.trod enc Tryz.prog w base (fun _ => true) held n 26 [c6,c7,c8,c9,c10]=some y4:=hel 4 _ rfl
   have t5:DataW.trod enc Tryz.prog w base (fun _ => true) held n 28 [c11,c12,c13,c14,c15,c16]=some y5:=hel 5 _ rfl
   have t6:=hel 6 _ rfl
   have t7:=hel 7 _ rfl
   have t8:=hel 8 _ rfl
   obtain ⟨zs,n0,_,_,_,hla,hea⟩:=DataW.trod_struct Tryz.underlying24 t0
   obtain ⟨bs,n1,_,_,_,hlb,heb⟩:=DataW.trod_struct Tryz.underlying26 t4
   obtain ⟨rs,n2,_,_,_,hlr,her⟩:=DataW.trod_struct Tryz.underlying28 t5
   match zs,hla with
   | [a0,a1,a2],_ =>
    match bs,hlb with
    | [e0,e1,e2,e3,e4],_ =>
     match rs,hlr with
     | [r0,r1,r2,r3,r4,r5],_ =>
      have u0:=hea 0 _ rfl
      have u1:=hea 1 _ rfl
      have u2:=hea 2 _ rfl
      have v0:=heb 0 _ rfl
      have v1:=heb 1 _ rfl
      have v2:=heb 2 _ rfl
      have v3:=heb 3 _ rfl
      have v4:=heb 4 _ rfl
      have w0:=her 0 _ rfl
      have w1:=her 1 _ rfl
      have w2:=her 2 _ rfl
      have w3:=her 3 _ rfl
      have w4:=her 4 _ rfl
      have w5:=her 5 _ rfl
      obtain ⟨mb,rfl,hb1,kb,hb3,_⟩:=open_rintsD u0
      obtain ⟨ms,rfl,hs1,ks,_⟩:=open_rintsD u1
      obtain ⟨fu,rfl,_⟩:=open_int1 u2
      obtain ⟨so,rfl,ho1,ko,_⟩:=open_rintsD t1
      obtain ⟨de,rfl,hd1,kd,_⟩:=open_rintsD t2
      obtain ⟨ou,rfl,hu1,ku,_⟩:=open_rintsD t3
      obtain ⟨g0,rfl,_⟩:=open_int1 v0
      obtain ⟨g1,rfl,_⟩:=open_int1 v1
      obtain ⟨g2,rfl,_⟩:=open_int1 v2
      obtain ⟨g3,rfl,_⟩:=open_int1 v3
      obtain ⟨g4,rfl,_⟩:=open_int1 v4
      obtain ⟨k0,rfl,_⟩:=open_int1 w0
      obtain ⟨k1,rfl,_⟩:=open_int1 w1
      obtain ⟨k2,rfl,_⟩:=open_int1 w2
      obtain ⟨k3,rfl,_⟩:=open_int1 w3
      obtain ⟨lo,rfl,hlo,kl,_⟩:=open_rintsD w4
      obtain ⟨hi,rfl,hhi,kh,_⟩:=open_rintsD w5
      obtain ⟨LA,lc,ll,rfl,hll,hlc,hlw⟩:=open_loadsC t6
      obtain ⟨lv,rfl,_⟩:=open_int1 t7
      obtain ⟨tm,rfl,_⟩:=open_int1 t8
      exact ⟨⟨mb,ms,fu,so,de,ou,⟨g0,g1,g2,g3,g4⟩,k0,k1,k2,k3,lo,hi,LA,lc,ll,lv,tm⟩,rfl,⟨hb1,hs1,ho1,hd1,hu1,hlo,hhi,hll⟩,fun y hy => (hlw y hy).2,hlc,hb3,⟨kb,ks,ko,kd,ku,kl,kh,hlc,fun y hy => (hlw y hy).1⟩⟩
end Go.Proofs.YtnppngaabfhkpaaGreat
namespace Go.Proofs.YtnppngaabfhkpaaGreat
open Go.RowKit
attribute [local go_sem ↓] Go.wp_at_zero Go.wp_at_succ
theorem all_push {P:LdM→Prop} {l:List LdM} {x:LdM} (h:∀ y ∈ l,P y) (hx:P x):∀ y ∈ l ++ [x],P y:=by
 intro y hy
 rcases List.mem_append.1 hy with hy | hy
 ·exact h y hy
 ·rw [List.mem_singleton] at hy; rw [hy]; exact hx
def LoadsOut (p:Pb) (d:Dc) (w:World) (e:Ending) (w':World):Prop :=
 (p.okTo d p.loads.length=true∧∃ A c A2 c2 ms,e = .returned (.tuple #[.slice A ms.length c,.slice A2 (p.whichs d p.loads.length).length c2,.bool true])∧RLoads w' A ms∧ms.length ≤ c∧RInts w' A2 (natI (p.whichs d p.loads.length))∧(p.whichs d p.loads.length).length ≤ c2 ∧
  ms.map LdM.r=p.nexts d p.loads.length∧(∀ y ∈ ms,y.r.prof.length ≤ y.c∧y.r.name.size ≤ maxLen∧∀ ad,y.A=some ad→w.heap.size ≤ ad.block)∧(∀ ad,A=some ad→w.heap.size ≤ ad.block)∧(∀ ad,A2=some ad→w.heap.size ≤ ad.block)∧Below w.heap.size w w') ∨
 (p.okTo d p.loads.length=false∧e = .returned (.tuple #[.slice none 0 0,.slice none 0 0,.bool false])∧Below w.heap.size w w')
set_option maxRecDepth 100000 in
set_option maxHeartbeats 64000000 in
theorem cloads_any (x:PbM) (d:DcM) (w:World) (hP0:RPb w x) (hF:x.Fit) (hC:x.Cap) (hD0:RBools w d.A d.l) (hc:x.p.chk=0) (hdl:d.l.length=x.loads.length) :
  Calls Tryz.prog 56 #[.slice x.LA x.loads.length x.lc,.slice d.A d.l.length d.c] w (LoadsOut x.p d.d w):=by
 have hP:=Lib.hid hP0
 have hD:=Lib.hid hD0
 have hg:=Pb.good hc
 have hl4:x.loads.length ≤ 4:=by have h1:=Pb.loads4 hg; have h2:=PbM.loads_len x; omega
 have hlk:=fun (k:Nat) (hk:k < x.loads.length) => (by have h:=Pb.load_at hg (i:=k) (by rw [PbM.loads_len]; exact hk); rw [PbM.load_at hk] at h; exact h:x.loads[k].r.chk x.p.n=0)
 have HLK:=Lib.hid hlk
 have HNM:=Lib.hid hF.names
 have HCP:=Lib.hid hC.profs
 have HDL:=Lib.hid hdl
 have HLN:=Lib.hid (PbM.loads_len x)
 have hsh:=fun (r:Ld) A c W (q:RInts W A r.prof) (h1:r.name.size ≤ maxLen) (h2:r.prof.length < 1000000000) => cshift_any r A c 1 W q h1 h2
 have hrs:=fun A c (l:List Int) W (q:RInts W A l) (h1:1 ≤ l.length) (h2:l.length ≤ c) (h3:l.length ≤ 1000000000) => crest_any A c l W q h1 h2 h3
 simp only [Ld.v] at hsh
 have HSH:=Lib.hid hsh
 have HRS:=Lib.hid hrs
 have HBR:=Lib.hid (Below.refl w.heap.size w)
 have HLO:Hid (∀ e w',LoadsOut x.p d.d w e w'=LoadsOut x.p d.d w e w'):=fun _ _ => rfl
 clear HLO hP0 hD0 hg hlk hsh hrs hF hC hc hdl
 go_enter Tryz.func56,Tryz.ntmps56
 go_wp2_with fail
 go_loopw [16,7,8] (fun s16 s7 s8 wr => ∃ (k:Nat) (ms:List LdM) (is:List Nat),k ≤ x.loads.length∧s16 = .int .i64 k∧ms.length ≤ k∧is.length ≤ k∧Hid (LS w.heap.size wr s7 s8 ms is)∧Hid (ms.map LdM.r=x.p.nexts d.d k∧is=x.p.whichs d.d k)∧Hid (x.p.okTo d.d k=true)∧Hid (∀ y ∈ ms,y.r.name.size ≤ maxLen)∧Hid (Below w.heap.size w wr))
  (fun s16 _ _ _ => x.loads.length - (intOf s16).toNat)
 case atStart => exact ⟨0, [], [],by omega,rfl,Nat.le_refl _,Nat.le_refl _,LS.nil _ _,⟨rfl,rfl⟩,rfl,(fun y hy => by cases hy),HBR.out⟩
 case round =>
  clear HBR
  obtain ⟨k,ms,is,hk,rfl,hml,hil,hL,hEQ,hOK,hNA,hB⟩:=hrel
  obtain ⟨wo,hwo⟩:∃ wo:World,wo=wr:=⟨_,rfl⟩
  subst hwo
  by_cases hlt:k < x.loads.length
  ·obtain ⟨bL,oL,hAe,_,y0,y1,y2,y3⟩:=(hP.out.below hB.out).loads.at' hlt
   have HPR:=Lib.hid ((hP.out.below hB.out).loads.prof hlt)
   have hld:=HLK.out k hlt
   have hl0:=(Ld.good hld).p0
   have hl1:=(Ld.good hld).p1
   have hnm:=HNM.out _ (List.getElem_mem hlt)
   have hcp:=HCP.out _ (List.getElem_mem hlt)
   have hkd:k < d.l.length:=by have:=HDL.out; omega
   obtain ⟨bD,oD,hAD,_,z0⟩:=(hD.out.below hB.out).at' hkd
   have hn1:=Pb.nexts_succ x.p d.d k
   have hn2:=Pb.whichs_succ x.p d.d k
   have hn3:=Pb.okTo_succ x.p d.d k
   have hn4:=fun (h:x.p.okTo d.d (k+1)=false) => Pb.okTo_le (m:=x.p.loads.length) h (by rw [HLN.out]; omega)
   rw [PbM.load_at hlt,show d.d.starts.getD k false=d.l[k] from bools_at hkd] at hn1 hn2 hn3
   rw [hOK.out,Bool.true_and] at hn3
   have i1:(0:Int) ≤ (k:Int):=by omega
   have i2:(k:Int) < (x.loads.length:Int):=by omega
   have i3:(k:Int) < (d.l.length:Int):=by omega
   generalize x.loads[k]=X at *
   generalize d.l[k]=db at *
   rw [hAe,hAD]
   have HN1:=Lib.hid hn1
   have HN2:=Lib.hid hn2
   have HN3:=Lib.hid hn3
   have HN4:=Lib.hid hn4
   have HL0:=Lib.hid hl0
   have HL1:=Lib.hid hl1
   have HNX:=Lib.hid hnm
   have HCX:=Lib.hid hcp
   clear hAe hAD hn1 hn2 hn3 hn4 hld hl0 hl1 hnm hcp
   go_upto_region 6 with fail
   obtain ⟨wi,hwi⟩:∃ W,W=wo.alloc (.cells #[.string X.r.name,.slice X.A X.r.prof.length X.c,.int .i64 X.r.early,.int .i64 X.r.late] 54):=⟨_,rfl⟩
   obtain ⟨tL,htL⟩:∃ n,n=wo.heap.size:=⟨_,rfl⟩
   rw [← hwi, ← htL]
   have hbi:Below wo.heap.size wo wi:=by rw [hwi]; exact below_al (Below.refl _ _)
   have hLi:=Lib.hid (hL.out.below hbi)
   have hBi:=Lib.hid (hB.out.trans (hbi.mono hB.out.size))
   have HPi:=Lib.hid (HPR.out.below hbi)
   have z0:wi.cell? ⟨bD,oD+k,none⟩=some (.bool db):=cell_below z0 hbi
   have HKB:Hid (Blk wi tL 54 #[.string X.r.name,.slice X.A X.r.prof.length X.c,.int .i64 X.r.early,.int .i64 X.r.late]):=by show Blk _ _ _ _; rw [hwi,htL]; exact Blk.new _ _ _
   have HNV:Hid (∀ q,u7.ownBlock=some q→q < tL):=fun q e => by rw [htL]; exact (hL.out.own.lt q e).2
   clear y0 y1 y2 y3 hwi htL hbi hL hB HPR
   cases db
   ·go_upto_region 7 with fail
    clear z0
    have hsx:=HSH.out X.r X.A X.c wi HPi.out HNX.out (by have:=HL1.out; omega)
    have hnx:X.r.next false=X.r.shift 1:=by unfold Ld.next; rw [if_neg (by decide)]
    have hox:X.r.okNext false=X.r.canShift 1:=by unfold Ld.okNext; rw [Bool.false_or]
    have hhx:X.r.hasNext false=true:=rfl
    have hnmx:X.r.canShift 1=true→(X.r.shift 1).name=X.r.name∧(X.r.shift 1).prof=X.r.prof:=fun h => by rw [Ld.shift_yes h]; exact ⟨rfl,rfl⟩
    have y0:=HKB.out.cell 0
    have y1:=HKB.out.cell 1
    have y2:=HKB.out.cell 2
    have y3:=HKB.out.cell 3
    simp at y0 y1 y2 y3
    have HN1b:Hid (x.p.nexts d.d (k+1)=x.p.nexts d.d k ++ [X.r.shift 1]):=by show _=_; rw [HN1.out,if_pos hhx,hnx]
    have HN2b:Hid (x.p.whichs d.d (k+1)=x.p.whichs d.d k ++ [k]):=by show _=_; rw [HN2.out,if_pos hhx]
    have HN3b:Hid (x.p.okTo d.d (k+1)=X.r.canShift 1):=by show _=_; rw [HN3.out,hox]
    generalize hmm:X.r.shift 1=m at *
    generalize hob:X.r.canShift 1=ob at *
    have HSX:=Lib.hid hsx
    have HNMX:=Lib.hid hnmx
    clear hsx hnx hox hhx hnmx hmm hob HN1 HN2 HN3
    go_wp2_with fail
    refine HSX.out.mono ?_
    rintro e w3 ⟨A3,c3,rfl,hr3,hc3,hf3,hb3⟩
    have HB3:=Lib.hid (hBi.out.trans (hb3.mono hBi.out.size))
    have HL3:=Lib.hid (hLi.out.below hb3)
    have HR3:=Lib.hid hr3
    have hw3:w.heap.size ≤ wi.heap.size:=hBi.out.size
    have HF3:Hid (∀ ad,A3=some ad→wi.heap.size ≤ ad.block):=hf3
    have HAP:=Lib.hid (fun B2 h => hLi.out.fresh hf3 hBi.out.size (B2:=B2) h)
    have HC3:=Lib.hid hc3
    clear y0 y1 y2 y3 hb3 hr3 hc3 hf3 hBi hLi HSX HPi HKB hw3
    go_upto_region 8 with fail
    obtain ⟨w4,hw4⟩:∃ W,W=w3.alloc (.cells #[.string m.name,.slice A3 m.prof.length c3,.int .i64 m.early,.int .i64 m.late] 54):=⟨_,rfl⟩
    obtain ⟨tM,htM⟩:∃ n,n=w3.heap.size:=⟨_,rfl⟩
    rw [← hw4, ← htM]
    have hb4:Below w3.heap.size w3 w4:=by rw [hw4]; exact below_al (Below.refl _ _)
    have HK4:Hid (Blk w4 tM 54 #[.string m.name,.slice A3 m.prof.length c3,.int .i64 m.early,.int .i64 m.late]):=by show Blk _ _ _ _; rw [hw4,htM]; exact Blk.new _ _ _
    have HB4:=Lib.hid (HB3.out.trans (hb4.mono HB3.out.size))
    have HL4:=Lib.hid (HL3.out.below hb4)
    have HR4:=Lib.hid (HR3.out.below hb4)
    have hs34:=hb4.size
    have HLT:Hid (m.prof ≠ []→∀ ad,A3=some ad→ad.block < w4.heap.size):=fun h ad e => Nat.lt_of_lt_of_le (HR3.out.lt h ad e) hs34
    clear hw4 htM hb4 HB3 HL3 HR3 hs34
    cases ob
    ·have HNO:Hid (x.p.okTo d.d x.p.loads.length=false):=HN4.out HN3b.out
     go_wp2_with fail
     refine bodyPost_ret (v := .tuple #[.slice none 0 0,.slice none 0 0,.bool false]) (by simp [results,Tryz.results56,go_sem]) rfl ?_
     exact .inr ⟨HNO.out,rfl,HB4.out⟩
    ·obtain ⟨hm1,hm2⟩:=HNMX.out rfl
     have hpne:m.prof ≠ []:=by rw [hm2]; intro h; have:=HL0.out; rw [h] at this; simp at this
     have hml2:m.prof.length=X.r.prof.length:=by rw [hm2]
     have HMN:Hid (m.name.size ≤ maxLen):=by show _ ≤ _; rw [hm1]; exact HNX.out
     have HFRX:=Lib.hid (HAP.out _ (HLT.out hpne))
     obtain ⟨iL,hiL,hzL,hsL,hbL⟩:=info_parts Tryz.infoLoadR
     obtain ⟨i0,hi,hz0,hz1,hz2⟩:=info_parts Tryz.infoInt
     have n0:=HK4.out.cell 0
     have n1:=HK4.out.cell 1
     have n2:=HK4.out.cell 2
     have n3:=HK4.out.cell 3
     simp at n0 n1 n2 n3
     clear HAP HLT hpne hml2 hm1 hm2 HNMX HN4
     go_wp2_with (at_builtin; refine wpList_append_newGH _ w4 w4.heap.size rfl rfl _ _ 29 rfl w.heap.size 54 iL (.agg #[.string ⟨#[]⟩,.slice none 0 0,.int .i64 0,.int .i64 0]) 4 56 Tryz.underlying29 hiL hzL hsL hbL rfl (by decide) (by decide) _ ms.length (ldCells ms) rfl HL4.out.own #[.string m.name,.slice A3 m.prof.length c3,.int .i64 m.early,.int .i64 m.late] rfl (by intro u hu; simp at hu; rcases hu with rfl | rfl | rfl | rfl <;> rfl) rfl rfl (by omega) HB4.out.size ?_)
     intro v5 w5 hown5 hg5 hv5
     have HL5:=Lib.hid (HL4.out.push1 (x:=⟨m,A3,c3⟩) HR4.out HC3.out HFRX.out hown5 hg5 (hv5.imp id (fun h => ⟨_,h,by omega⟩)))
     have HB5:=Lib.hid (HB4.out.grown hg5 HB4.out.size (fun q hq => (HL4.out.own.lt q hq).1))
     clear hown5 hg5 hv5 n0 n1 n2 n3 HL4 HB4 HR4 HK4 HFRX
     go_wp2_with (at_builtin; refine wpList_append_newGH _ w5 w5.heap.size rfl rfl _ _ 22 rfl w.heap.size 3 i0 (.int .i64 0) 1 8 Tryz.underlying22 hi hz0 hz1 hz2 rfl (by decide) (by decide) _ is.length (ints (natI is)) rfl HL5.out.own2 #[.int .i64 k] rfl (one_int _ _) rfl rfl (by omega) HB5.out.size ?_)
     intro v6 w6 hown6 hg6 hv6
     have HL6:=Lib.hid (HL5.out.push2 (i:=k) hown6 hg6 (hv6.imp id (fun h => ⟨_,h,by omega⟩)))
     have HB6:=Lib.hid (HB5.out.grown hg6 HB5.out.size (fun q hq => (HL5.out.own2.lt q hq).1))
     clear hown6 hg6 hv6 HL5 HB5
     go_wp2_with fail
     go_roundw
     case rel => exact ⟨k+1,ms ++ [(⟨m,A3,c3⟩:LdM)],is ++ [k],by omega,by go_num,by rw [List.length_append]; exact Nat.succ_le_succ hml,by rw [List.length_append]; exact Nat.succ_le_succ hil,HL6.out,⟨by rw [List.map_append,hEQ.out.1,HN1b.out]; rfl,by rw [HN2b.out, ← hEQ.out.2]⟩,HN3b.out,all_push (x:=⟨m,A3,c3⟩) hNA.out HMN.out,HB6.out⟩
     case measure => simp [intOf]; omega
   ·have hox:X.r.okNext true=true:=rfl
    have HN3b:Hid (x.p.okTo d.d (k+1)=true):=by show _=_; rw [HN3.out,hox]
    have y1:=HKB.out.cell 1
    simp at y1
    have hl1:=HL1.out
    clear hox HN3 HN4 HSH
    go_upto_region 12 with fail
    clear y1 z0
    by_cases hp1:1 < X.r.prof.length
    ·have hhx:X.r.hasNext true=true:=by simp [Ld.hasNext,hp1]
     have hnx:X.r.next true=⟨X.r.name,X.r.prof.drop 1,0,(X.r.prof.length:Int) - 1⟩:=by unfold Ld.next; rw [if_pos rfl]
     have hdl:0 < (X.r.prof.drop 1).length:=by rw [List.length_drop]; omega
     have HN1b:Hid (x.p.nexts d.d (k+1)=x.p.nexts d.d k ++ [⟨X.r.name,X.r.prof.drop 1,0,(X.r.prof.length:Int) - 1⟩]):=by show _=_; rw [HN1.out,if_pos hhx,hnx]
     have HN2b:Hid (x.p.whichs d.d (k+1)=x.p.whichs d.d k ++ [k]):=by show _=_; rw [HN2.out,if_pos hhx]
     have hrx:=fun W (q:RInts W X.A X.r.prof) => HRS.out X.A X.c X.r.prof W q (by omega) HCX.out (by omega)
     have q0:(0:Int) < (X.r.prof.length:Int) - 1:=by omega
     generalize X.r.prof.drop 1=pr at *
     have HRX:=Lib.hid hrx
     have HPRN:=Lib.hid hdl
     obtain ⟨LN,hLN⟩:∃ z,z=(X.r.prof.length:Int) - 1:=⟨_,rfl⟩
     rw [← hLN] at q0 HN1b ⊢
     clear hhx hnx hrx HN1 HN2 HRS hdl hLN hl1
     go_upto_region 13 with fail
     clear q0
     have y0:=HKB.out.cell 0
     have y1:=HKB.out.cell 1
     simp at y0 y1
     obtain ⟨iL,hiL,hz0L,hz1L,hz2L⟩:=info_parts Tryz.infoLoadR
     obtain ⟨i0,hi,hz0,hz1,hz2⟩:=info_parts Tryz.infoInt
     have HBASE:Hid (w.heap.size ≤ w.heap.size):=Nat.le_refl _
     refine wp_region_held_drew (S:=(fun w' => w'.cell? ⟨tL,0,none⟩=some (.string X.r.name)∧w'.cell? ⟨tL,1,none⟩=some (.slice X.A X.r.prof.length X.c))) (by kernel_rfl) (⟨y0,y1⟩) (fun hHeld => ?_)
     refine tk 0 ?_
     try simp only [jA,jB,Act.put,jD,jE,jF]
     refine tk 1 ?_
     try simp only [jA,jB,jC,Act.put,jD,jE,jF]
     refine tk 2 ?_
     try simp only [jA,jB,jC,Act.put,jD,jE,jF]
     refine tk 3 ?_
     try simp only [jA,jB,jC,Act.put,jD,jE,jF]
     refine tk 4 ?_
     try simp only [jA,jB,jC,Act.put,jD,jE,jF]
     refine tk 6 ?_
     try simp only [jA,jB,jC,Act.put,jD,jE,jF]
     refine wpAnyH_ready (rs := [5]) (by kernel_rfl) (by simp) ?_
     refine (AllReadyH.cons rfl (fun K hK => ?_) AllReadyH.nil)
     have HKK:=Lib.hid hK
     clear hK
     go_simp
     refine (HRX.out _ (HPi.out.below (Below.drew (Below.refl _ _)))).mono ?_
     rintro e' yw1 ⟨A5,c5,rfl,hr1,hc1,hf1,hb1⟩
     have hq1:Below wi.heap.size wi yw1:=below_tr (Below.drew (Below.refl wi.heap.size wi)) hb1
     have HB_yw1:=Lib.hid ((hBi.out).trans (hq1.mono (Below.size (hBi.out))))
     have HS_yw1:Hid (wi.heap.size ≤ yw1.heap.size):=Nat.le_trans ((Nat.le_refl wi.heap.size)) hq1.size
     have ls_yw1:=Lib.hid (hLi.out.below hq1)
     have HNR_yw1:=Lib.hid hr1
     have HC5:=Lib.hid hc1
     have HF5:Hid (∀ ad,A5=some ad→wi.heap.size ≤ ad.block):=hf1
     clear hr1 hc1 hf1
     clear hb1
     go_wp2_with fail
     refine HKK.out _ _ (⟨(cell_below y0 hq1),(cell_below y1 hq1)⟩) (fun hH2 => ?_)
     clear HKK K
     replace hHeld:=hH2
     clear hH2
     try simp only [jA,jB,jC,Act.put,jD,jE,jF]
     refine tk 7 ?_
     try simp only [jA,jB,jC,Act.put,jD,jE,jF]
     refine wpAnyH_ready (rs := [8]) (by kernel_rfl) (by simp) ?_
     refine (AllReadyH.cons rfl (fun K hK => ?_) AllReadyH.nil)
     have HKK:=Lib.hid hK
     clear hK
     go_simp
     obtain ⟨yw2,hWn⟩:∃ v,v=yw1.alloc (.cells #[.string X.r.name,.slice A5 pr.length c5,.int .i64 0,.int .i64 LN] 54):=⟨_,rfl⟩
     obtain ⟨bb,hg⟩:∃ n,n=yw1.heap.size:=⟨_,rfl⟩
     rw [← hWn, ← hg]
     have hb2:Below yw1.heap.size yw1 yw2:=by rw [hWn]; exact (below_al (Below.refl _ _):Below _ _ (yw1.alloc (.cells #[.string X.r.name,.slice A5 pr.length c5,.int .i64 0,.int .i64 LN] 54)))
     have hq2:Below yw1.heap.size yw1 yw2:=hb2
     have lt_yw2:Hid (RLd yw2 (some ⟨bb,0,none⟩) [⟨⟨X.r.name,pr,0,LN⟩,A5,c5⟩]):=by show RLd _ _ _; rw [hWn,hg]; exact rld_lit yw1 #[.string X.r.name,.slice A5 pr.length c5,.int .i64 0,.int .i64 LN] 54 (l := [⟨⟨X.r.name,pr,0,LN⟩,A5,c5⟩]) rfl
     have HHbb:Hid (bb=yw1.heap.size):=by show _=_; exact hg
     have HGbb:Hid (wi.heap.size ≤ bb):=by show _ ≤ _; rw [hg]; exact HS_yw1.out
     have HB_yw2:=Lib.hid ((HB_yw1.out).trans (hq2.mono (Below.size (HB_yw1.out))))
     have HS_yw2:Hid (wi.heap.size ≤ yw2.heap.size):=Nat.le_trans (HS_yw1.out) hq2.size
     have ls_yw2:=Lib.hid (ls_yw1.out.below hq2)
     have nr_yw2:=Lib.hid (HNR_yw1.out.below hq2)
     clear hWn hg hb2
     refine HKK.out _ _ (⟨(cell_below (cell_below y0 hq1) hq2),(cell_below (cell_below y1 hq1) hq2)⟩) (fun hH2 => ?_)
     clear HKK K
     replace hHeld:=hH2
     clear hH2
     try simp only [jA,jB,jC,Act.put,jD,jE,jF]
     refine wpAnyH_ready (rs := [9]) (by kernel_rfl) (by simp) ?_
     refine (AllReadyH.cons rfl (fun K hK => ?_) AllReadyH.nil)
     have HKK:=Lib.hid hK
     clear hK
     have how3:=ls_yw2.out.own
     refine step_append_any _ (by rfl) _ _ _ (by rfl) (w.heap.size) 54 iL (.agg #[.string ⟨#[]⟩,.slice none 0 0,.int .i64 0,.int .i64 0]) 4 56 Tryz.underlying29 hiL hz0L hz1L hz2L rfl (by decide) _ ms.length (ldCells ms) (by rfl) how3 yw2.heap.size (some ⟨bb,0,none⟩) 1 1 [.string X.r.name,.slice A5 pr.length c5,.int .i64 0,.int .i64 LN] (by rfl) (show Reads _ _ 4 _ 1 _ from lt_yw2.out) (by intro u hu; simp at hu; rcases hu with rfl | rfl | rfl | rfl <;> rfl) (by unfold maxLen; omega) (by omega) ((Below.size (HB_yw2.out))) ?_
     intro v3 yw3 hob3 hgb3 hvb3
     have HB_yw3:=Lib.hid ((HB_yw2.out).grown hgb3 (Below.size (HB_yw2.out)) (fun q hq => by have h1:=(how3.lt q hq).1; have h2:=HBASE.out; omega))
     have HS_yw3:Hid (wi.heap.size ≤ yw3.heap.size):=Nat.le_trans (HS_yw2.out) hgb3.size
     have ls_yw3:=Lib.hid (ls_yw2.out.push1 (x:=⟨⟨X.r.name,pr,0,LN⟩,A5,c5⟩) nr_yw2.out HC5.out (hLi.out.fresh HF5.out hBi.out.size (fun ad e => nr_yw2.out.lt (by intro h; have h1:=HPRN.out; rw [show pr = [] from h] at h1; simp at h1) ad e)) hob3 hgb3 (hvb3.imp id (fun h => ⟨_,h,Nat.le_refl _⟩)))
     have k3_0:=(cell_grown hgb3 (cell_below (cell_below y0 hq1) hq2) (by intro e; have h1:=HNV.out _ e.symm; simp at h1))
     have k3_1:=(cell_grown hgb3 (cell_below (cell_below y1 hq1) hq2) (by intro e; have h1:=HNV.out _ e.symm; simp at h1))
     refine HKK.out _ _ (⟨k3_0,k3_1⟩) (fun hH2 => ?_)
     clear HKK K
     replace hHeld:=hH2
     clear hH2
     try simp only [jA,jB,jC,Act.put,jD,jE,jF]
     refine tk 10 ?_
     try simp only [jA,jB,jC,Act.put,jD,jE,jF]
     refine wpAnyH_done (by kernel_rfl) ?_ _
     have HL5:=Lib.hid ls_yw3.out
     have HB5:=Lib.hid HB_yw3.out
     clear hHeld y0 y1
     go_upto_region 14 with fail
     go_wp2_with (at_builtin; refine wpList_append_newGH _ yw3 yw3.heap.size rfl rfl _ _ 22 rfl w.heap.size 3 i0 (.int .i64 0) 1 8 Tryz.underlying22 hi hz0 hz1 hz2 rfl (by decide) (by decide) _ is.length (ints (natI is)) rfl HL5.out.own2 #[.int .i64 k] rfl (one_int _ _) rfl rfl (by omega) HB5.out.size ?_)
     intro v6 w6 hown6 hg6 hv6
     have HL6:=Lib.hid (HL5.out.push2 (i:=k) hown6 hg6 (hv6.imp id (fun h => ⟨_,h,by omega⟩)))
     have HB6:=Lib.hid (HB5.out.grown hg6 HB5.out.size (fun q hq => (HL5.out.own2.lt q hq).1))
     clear hown6 hg6 hv6 HL5 HB5
     go_wp2_with fail
     go_roundw
     case rel => exact ⟨k+1,ms ++ [(⟨⟨X.r.name,pr,0,LN⟩,A5,c5⟩:LdM)],is ++ [k],by omega,by go_num,by rw [List.length_append]; exact Nat.succ_le_succ hml,by rw [List.length_append]; exact Nat.succ_le_succ hil,HL6.out,⟨by rw [List.map_append,hEQ.out.1,HN1b.out]; rfl,by rw [HN2b.out, ← hEQ.out.2]⟩,HN3b.out,all_push (x:=⟨⟨X.r.name,pr,0,LN⟩,A5,c5⟩) hNA.out HNX.out,HB6.out⟩
     case measure => simp [intOf]; omega
    ·have hhx:X.r.hasNext true=false:=by simp [Ld.hasNext,hp1]
     have HN1b:Hid (x.p.nexts d.d (k+1)=x.p.nexts d.d k):=by show _=_; rw [HN1.out,if_neg (by rw [hhx]; decide)]
     have HN2b:Hid (x.p.whichs d.d (k+1)=x.p.whichs d.d k):=by show _=_; rw [HN2.out,if_neg (by rw [hhx]; decide)]
     have q0:¬ (0:Int) < (X.r.prof.length:Int) - 1:=by omega
     clear hhx hp1 HN1 HN2 hl1
     go_wp2_with fail
     go_roundw
     case rel => exact ⟨k+1,ms,is,by omega,by go_num,by omega,by omega,hLi.out,⟨by rw [hEQ.out.1,HN1b.out],by rw [HN2b.out]; exact hEQ.out.2⟩,HN3b.out,hNA.out,hBi.out⟩
     case measure => simp [intOf]; omega
  ·have hrl:k=x.p.loads.length:=by rw [HLN.out]; omega
   obtain ⟨A,c,A2,c2,rfl,rfl,r1,r2,r3,r4,r5,r6⟩:=hL.out.read
   have hms:=hEQ.out
   rw [hrl] at hms hOK
   have HFN:Hid (LoadsOut x.p d.d w (.returned (.tuple #[.slice A ms.length c,.slice A2 is.length c2,.bool true])) wo):=by
    refine .inl ⟨hOK.out,A,c,A2,c2,ms,by rw [← hms.2],r1,r2,by rw [← hms.2]; exact r3,by rw [← hms.2]; exact r4,hms.1,fun y hy => ⟨(hL.out.profs y hy).2.1,hNA.out y hy,fun ad e => ((hL.out.profs y hy).2.2 ad e).1⟩,r5,r6,hB.out⟩
   clear r1 r2 r3 r4 r5 r6 hms
   go_wp2_with fail
   refine bodyPost_ret (v := .tuple #[.slice A ms.length c,.slice A2 is.length c2,.bool true]) (by simp [results,Tryz.results56,go_sem]) rfl ?_
   exact HFN.out
end Go.Proofs.YtnppngaabfhkpaaGreat
