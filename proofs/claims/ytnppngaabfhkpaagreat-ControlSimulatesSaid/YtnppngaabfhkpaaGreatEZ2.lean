/-
  The walks of the laws of layer 44: decisions compared, the guard few.
-/
import Derived.Test.YtnppngaabfhkpaaGreatEZ1
import Derived.Test.YtnppngaabfhkpaaGreatEV4
namespace Go.Proofs.YtnppngaabfhkpaaGreat
open Go.RowKit
attribute [local go_sem ↓] Go.wp_at_zero Go.wp_at_succ
set_option maxRecDepth 100000 in
set_option maxHeartbeats 16000000 in
theorem lawsame_any (d:DcM) (w:World) :
  Calls Tryz.prog 12 #[d.v] w fun e w' => e = .returned (.agg d.cs)∧Below w.heap.size w w':=by
 obtain ⟨q1,q2,q3,q4⟩:=two_boxes (w:=w) (cs:=d.cs) (t:=39) (cs2:=#[.int .i64 0,.int .i64 0,.slice none 0 0]) (t2:=42) (Below.refl _ _)
 obtain ⟨W,hW⟩:∃ W,W=(w.alloc (.cells #[.int .i64 d.charge,.int .i64 d.heat,.slice d.A d.l.length d.c] 39)).alloc (.cells #[.int .i64 0,.int .i64 0,.slice none 0 0] 42):=⟨_,rfl⟩
 rw [show (w.alloc (.cells d.cs 39)).alloc (.cells #[.int .i64 0,.int .i64 0,.slice none 0 0] 42)=W from hW.symm] at q1 q2 q4
 have H1:=Lib.hid q1
 have H2:=Lib.hid q2
 have H4:=Lib.hid q4
 have hWH:=Lib.hid hW
 simp only [DcM.v]
 clear q1 q2 q3 q4 hW
 go_enter Tryz.func12,Tryz.ntmps12
 go_upto_region 1 with fail
 rw [← hWH.out]
 clear hWH
 have c0:=H1.out.cell 0
 have c1:=H1.out.cell 1
 have c2:=H1.out.cell 2
 simp [DcM.cs] at c0 c1 c2
 go_wp2_with (refine wpList_store_blk rfl 42 _ _ rfl (w.heap.size+1) rfl d.cs rfl (by kernel_rfl) (DcM.cs_one _) H2.out rfl ?_)
 intro w5 hB5 hg5
 have hb5:Below w.heap.size w w5:=H4.out.grown hg5 H4.out.size (fun k e => by injection e with e; omega)
 have HB5:=Lib.hid hB5
 have HBE:=Lib.hid hb5
 clear hB5 hg5 hb5 c0 c1 c2
 go_wp2_with fail
 refine bodyPost_ret (v := .agg d.cs) (results_cell rfl rfl (run_load_blk (by kernel_rfl) (by kernel_rfl) HB5.out)) rfl ?_
 exact ⟨rfl,HBE.out⟩
set_option maxRecDepth 100000 in
set_option maxHeartbeats 16000000 in
theorem few44_any (x:PbM) (w:World) (hP0:RPb w x) (hF:x.Fit) :
  Calls Tryz.prog 7 #[x.v,.int .i64 3,.int .i64 2000] w (GuardOut True w):=by
 have hP:=Lib.hid hP0
 have hck:=fun W (h:RPb W x) => rpcheck_any x W h hF
 have hl4:x.p.chk=0→x.loads.length ≤ 4:=fun hc => by have h1:=Pb.loads4 (Pb.good hc); have h2:=PbM.loads_len x; omega
 have hst0:=PB.start x w
 simp only [PbM.v]
 obtain ⟨W,hW⟩:∃ W,W=w.alloc (.cells x.cs 31):=⟨_,rfl⟩
 simp only [PbM.cs] at hW
 rw [show w.alloc (.cells x.cs 31)=W from hW.symm] at hst0
 have hst:=Lib.hid hst0
 have hWH:=Lib.hid hW
 generalize x.p.chk=ck at *
 have HCK:=Lib.hid hck
 have HL4:=Lib.hid hl4
 clear hst0 hW hP0 hF hck hl4
 go_enter Tryz.func7,Tryz.ntmps7
 go_upto_region 1 with fail
 rw [← hWH.out]
 clear hWH
 go_wp2_with (refine wpList_load_problemG (by rfl) _ rfl w.heap.size rfl x hst.out.p ?_)
 refine (HCK.out _ (hst.out.pr hP.out)).mono ?_
 rintro e w1 ⟨rfl,hb1⟩
 have HX1:=Lib.hid (hst.out.below hb1)
 clear hb1 hst HCK
 have c0:=HX1.out.p.cell 0
 simp [PbM.cs] at c0
 by_cases hk:ck=0
 ·have q0:(ck != 0)=false:=by simp [hk]
  have HLD:=Lib.hid (HL4.out hk)
  clear hk HL4
  by_cases h1:(3:Int) < (x.buy.l.length:Int)
  ·go_wp2_with fail
   go_ret
   exact ⟨_,rfl,(fun _ => trivial),HX1.out.bel⟩
  ·have HB3:Hid (x.buy.l.length ≤ 3):=by show _ ≤ _; omega
   go_upto_region 3 with fail
   clear q0 h1 c0
   go_wp2_with fail
   go_loopw [8,7] (fun s8 s7 wr => ∃ (k:Nat) (n:Int),k ≤ x.buy.l.length∧s8 = .int .i64 k∧s7 = .int .i64 n∧Hid (PB x w wr))
    (fun s8 _ _ => x.buy.l.length - (intOf s8).toNat)
   case atStart => exact ⟨0,1,by omega,rfl,rfl,HX1.out⟩
   case round =>
    clear HX1
    obtain ⟨k,n,hk,rfl,rfl,hX⟩:=hrel
    obtain ⟨wo,hwo⟩:∃ wo:World,wo=wr:=⟨_,rfl⟩
    subst hwo
    have c0:=hX.out.p.cell 0
    simp [PbM.cs] at c0
    by_cases hlt:(k:Int) < (x.buy.l.length:Int)
    ·have hk4:(k:Int) ≤ 3:=by have:=HB3.out; omega
     have c8:=hX.out.p.cell 8
     have c9:=hX.out.p.cell 9
     have c13:=hX.out.p.cell 13
     simp [PbM.cs] at c8 c9 c13
     go_upto_region 7 with fail
     clear c0
     go_cut [7] (fun s7 wx => ∃ n:Int,s7 = .int .i64 n∧wo=wx)
     case first =>
      go_wp2_with fail
      go_meet
      exact ⟨_,rfl,rfl⟩
     case rest =>
      obtain ⟨n2,rfl,rfl⟩:=hcut
      clear c8 c9 c13
      by_cases h2:(2000:Int) < n2
      ·go_wp2_with fail
       go_ret
       exact ⟨_,rfl,(fun _ => trivial),hX.out.bel⟩
      ·go_wp2_with fail
       go_roundw
       case rel => exact ⟨k+1,n2,by omega,by go_num,rfl,hX.out⟩
       case measure => simp [intOf]; omega
    ·go_upto_region 10 with fail
     clear hlt hk c0
     go_wp2_with fail
     go_loopw [9,7] (fun s9 s7 wr => ∃ (k:Nat) (n:Int),k ≤ x.loads.length∧s9 = .int .i64 k∧s7 = .int .i64 n∧Hid (PB x w wr))
      (fun s9 _ _ => x.loads.length - (intOf s9).toNat)
     case atStart => exact ⟨0,_,by omega,rfl,rfl,hX.out⟩
     case round =>
      clear hX
      obtain ⟨k,n,hk,rfl,rfl,hX⟩:=hrel
      obtain ⟨wo,hwo⟩:∃ wo:World,wo=wr:=⟨_,rfl⟩
      subst hwo
      have c17:=hX.out.p.cell 17
      simp [PbM.cs] at c17
      by_cases hlt:k < x.loads.length
      ·have hk4:(k:Int) ≤ 4:=by have:=HLD.out; omega
       obtain ⟨bL,oL,hAe,_,y0,y1,y2,y3⟩:=(hX.out.pr hP.out).loads.at' hlt
       have i1:(0:Int) ≤ (k:Int):=by omega
       have i2:(k:Int) < (x.loads.length:Int):=by omega
       generalize x.loads[k]=X at *
       rw [hAe] at c17
       clear hAe
       go_upto_region 13 with fail
       clear y0
       go_cut [7] (fun s7 wx => ∃ n:Int,s7 = .int .i64 n∧Hid (PB x w wx))
       case first =>
        refine wp_region_held_drew (S:=(fun w' => w'.cell? ⟨w.heap.size,17,none⟩=some (.slice (some ⟨bL,oL,none⟩) x.loads.length x.lc)∧w'.cell? ⟨bL,oL+k * 4+1,none⟩=some (.slice X.A X.r.prof.length X.c)∧w'.cell? ⟨bL,oL+k * 4+2,none⟩=some (.int .i64 X.r.early)∧w'.cell? ⟨bL,oL+k * 4+3,none⟩=some (.int .i64 X.r.late))) (by kernel_rfl) (⟨c17,y1,y2,y3⟩) (fun hHeld => ?_)
        refine tk 0 ?_
        try simp only [jA,jB,Act.put,jD,jE,jF]
        refine tk 1 ?_
        try simp only [jA,jB,jC,Act.put,jD,jE,jF]
        refine tk 2 ?_
        try simp only [jA,jB,jC,Act.put,jD,jE,jF]
        refine tk 3 ?_
        try simp only [jA,jB,jC,Act.put,jD,jE,jF]
        refine tk 4 ?_
        try simp only [jA,jB,jC,Act.put,jD,jE,jF]
        refine tk 5 ?_
        try simp only [jA,jB,jC,Act.put,jD,jE,jF]
        refine tk 6 ?_
        try simp only [jA,jB,jC,Act.put,jD,jE,jF]
        refine tk 7 ?_
        try simp only [jA,jB,jC,Act.put,jD,jE,jF]
        refine tk 8 ?_
        try simp only [jA,jB,jC,Act.put,jD,jE,jF]
        refine tk 9 ?_
        try simp only [jA,jB,jC,Act.put,jD,jE,jF]
        refine tk 10 ?_
        try simp only [jA,jB,jC,Act.put,jD,jE,jF]
        refine tk 11 ?_
        try simp only [jA,jB,jC,Act.put,jD,jE,jF]
        refine tk 12 ?_
        try simp only [jA,jB,jC,Act.put,jD,jE,jF]
        refine tk 13 ?_
        try simp only [jA,jB,jC,Act.put,jD,jE,jF]
        refine tk 14 ?_
        try simp only [jA,jB,jC,Act.put,jD,jE,jF]
        refine tk 15 ?_
        try simp only [jA,jB,jC,Act.put,jD,jE,jF]
        refine tk 16 ?_
        try simp only [jA,jB,jC,Act.put,jD,jE,jF]
        refine tk 17 ?_
        try simp only [jA,jB,jC,Act.put,jD,jE,jF]
        refine tk 18 ?_
        try simp only [jA,jB,jC,Act.put,jD,jE,jF]
        refine tk 19 ?_
        try simp only [jA,jB,jC,Act.put,jD,jE,jF]
        refine tk 20 ?_
        try simp only [jA,jB,jC,Act.put,jD,jE,jF]
        refine tk 21 ?_
        try simp only [jA,jB,jC,Act.put,jD,jE,jF]
        refine tk 22 ?_
        try simp only [jA,jB,jC,Act.put,jD,jE,jF]
        refine tk 23 ?_
        try simp only [jA,jB,jC,Act.put,jD,jE,jF]
        refine tk 24 ?_
        try simp only [jA,jB,jC,Act.put,jD,jE,jF]
        refine wpAnyH_done (by kernel_rfl) ?_ _
        clear hHeld
        go_wp2_with fail
        go_meet
        exact ⟨_,rfl,hX.out.below (Below.drew (Below.refl _ _))⟩
       case rest =>
        obtain ⟨n2,rfl,hX2⟩:=hcut
        clear y1 y2 y3 c17 hX
        by_cases h2:(2000:Int) < n2
        ·go_wp2_with fail
         go_ret
         exact ⟨_,rfl,(fun _ => trivial),hX2.out.bel⟩
        ·go_wp2_with fail
         go_roundw
         case rel => exact ⟨k+1,n2,by omega,by go_num,rfl,hX2.out⟩
         case measure => simp [intOf]; omega
      ·have i2:¬ (k:Int) < (x.loads.length:Int):=by omega
       go_wp2_with fail
       go_ret
       exact ⟨_,rfl,(fun _ => trivial),hX.out.bel⟩
 ·have q0:(ck != 0)=true:=by simp [hk]
  clear hk HL4
  go_wp2_with fail
  go_ret
  exact ⟨_,rfl,(fun _ => trivial),HX1.out.bel⟩
end Go.Proofs.YtnppngaabfhkpaaGreat
