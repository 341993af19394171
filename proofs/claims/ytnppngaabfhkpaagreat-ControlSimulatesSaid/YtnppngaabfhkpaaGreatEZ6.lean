/-
  The walks of layer 44's reference: Simulate.
-/
import Derived.Test.YtnppngaabfhkpaaGreatEZ1
import Derived.Test.YtnppngaabfhkpaaGreatERW4
namespace Go.Proofs.YtnppngaabfhkpaaGreat
open Go.RowKit
attribute [local go_sem ↓] Go.wp_at_zero Go.wp_at_succ
theorem rsimulate_ret {tmps:Array Value} {w W:World} {cs:Array Value} {er:Int} {P:Ending→World→Prop} {t:TypeId} (hs:cs.size=3) (h:Blk W (w.heap.size+1) t cs)
  (h2:tmps.getD 2 undef = .pointer (some ⟨w.heap.size+1,0,none⟩)) (h3:tmps.getD 3 undef = .int .i64 er) (hP:P (.returned (.tuple #[.agg cs,.int .i64 er])) W) :
  bodyPost Tryz.prog Tryz.f14 P .ret { tmps:=tmps,defers := [] } W:=by
 have hl:=run_load_blk (P:=Tryz.prog) (ty:=48) (by kernel_rfl) (by rw [hs]; kernel_rfl) h
 have h2':tmps[2]?.getD undef = .pointer (some ⟨w.heap.size+1,0,none⟩):=by simpa using h2
 have h3':tmps[3]?.getD undef = .int .i64 er:=by simpa using h3
 refine bodyPost_ret (v := .tuple #[.agg cs,.int .i64 er]) (by simp [results,Tryz.results14,h2',h3',asAddr,hl]) rfl hP
structure PXB (x:PbM) (w wr:World):Prop where
 p:Blk wr w.heap.size 31 x.cs
 q:Blk wr (w.heap.size+1) 48 PnM.zero.cs
 bel:Below w.heap.size w wr
theorem PXB.start (x:PbM) (w:World):PXB x w ((w.alloc (.cells x.cs 31)).alloc (.cells PnM.zero.cs 48)):=by
 obtain ⟨h1,h2,h3,h4⟩:=two_boxes (w:=w) (cs:=x.cs) (t:=31) (cs2:=PnM.zero.cs) (t2:=48) (Below.refl _ _)
 exact ⟨h1,h2,h4⟩
theorem PXB.below {x:PbM} {w wr w1:World} (h:PXB x w wr) (hb:Below wr.heap.size wr w1):PXB x w w1:=⟨h.p.below hb h.p.lt,h.q.below hb h.q.lt,h.bel.trans (hb.mono h.bel.size)⟩
set_option maxRecDepth 100000 in
set_option maxHeartbeats 64000000 in
theorem rsimulate_any (x:PbM) (w:World) (hP0:RPb w x) (hF:x.Fit) (hC:x.Cap) :
  Calls Tryz.prog 14 #[x.v] w (SimulateOut x.p w):=by
 have hP:=Lib.hid hP0
 have hck0:=fun W (h:RPb W x) => rpcheck_any x W h hF
 have hst0:PXB x w ((w.alloc (.cells x.cs 31)).alloc (.cells PnM.zero.cs 48)):=PXB.start x w
 simp only [PbM.v]
 obtain ⟨W,hW⟩:∃ W,W=(w.alloc (.cells x.cs 31)).alloc (.cells #[.slice none 0 0,.slice none 0 0,.slice none 0 0] 48):=⟨_,rfl⟩
 simp only [PbM.cs] at hW
 rw [show (w.alloc (.cells x.cs 31)).alloc (.cells PnM.zero.cs 48)=W from hW.symm] at hst0
 have hst:=Lib.hid hst0
 have hWH:=Lib.hid hW
 clear hst0 hW hP0
 by_cases hc:x.p.chk=0
 ·have hg:=Pb.good hc
  have hl4:x.loads.length ≤ 4:=by have h1:=Pb.loads4 hg; have h2:=PbM.loads_len x; omega
  have hnb:=Pb.nbd hg
  have hn1:1 ≤ x.buy.l.length:=hnb.1
  have hn2:x.buy.l.length ≤ 96:=hnb.2
  have HXN:Hid (x.p.n=x.buy.l.length):=rfl
  rw [hc] at hck0
  have HCK:=Lib.hid hck0
  have hmk:=run_make_row' (P:=Tryz.prog) 22 3 (.int .i64 0) 8 Tryz.underlying22 Tryz.infoInt rfl .i64 .i64 x.loads.length (by omega) (by omega)
  obtain ⟨i0,hi,hz0,hz1,hz2⟩:=info_parts Tryz.infoInt
  have HC0:=Lib.hid hc
  have HF:=Lib.hid hF
  have HC:=Lib.hid hC
  have HL4:=Lib.hid hl4
  have HN1:=Lib.hid hn1
  have HN2:=Lib.hid hn2
  have HLL:=Lib.hid (PbM.loads_len x)
  obtain ⟨N,hN⟩:∃ N,N=x.buy.l.length:=⟨_,rfl⟩
  clear hck0 hF hC hc hg hnb hn1 hn2
  go_enter Tryz.func14,Tryz.ntmps14
  go_upto_region 1 with fail
  rw [← hWH.out]
  go_wp2_with (refine wpList_load_problemG (by rfl) _ rfl w.heap.size rfl x hst.out.p ?_)
  refine (HCK.out _ (hP.out.below hst.out.bel)).mono ?_
  rintro e w1 ⟨rfl,hb1⟩
  have HX1:=Lib.hid (hst.out.below hb1)
  clear hb1 hst HCK hWH
  have c0:=HX1.out.p.cell 0
  have c17:=HX1.out.p.cell 17
  simp [PbM.cs] at c0 c17
  rw [← hN] at c0
  have HNN:=Lib.hid hN
  clear hN
  go_upto_region 4 with fail
  clear c0
  have hs1:=S1R.start (s:=w1.heap.size) (n:=x.loads.length) HX1.out.p HX1.out.q HX1.out.bel rfl (by omega)
  go_upto_region 5 with fail
  obtain ⟨s,hs⟩:∃ n,n=w1.heap.size:=⟨_,rfl⟩
  obtain ⟨W5,hW5⟩:∃ V,V=(w1.alloc (.cells (madeCells #[.int .i64 0] x.loads.length) 3)).alloc (.cells #[.slice none 0 0,.slice none 0 0,.slice (some ⟨w1.heap.size,0,none⟩) x.loads.length x.loads.length] 48):=⟨_,rfl⟩
  rw [← hW5] at hs1 ⊢
  rw [← hs] at hs1 ⊢
  have HS1:=Lib.hid hs1
  clear hs1 hs hW5 HX1 c17 hmk hl4
  go_wp2_with fail
  go_loopw [6] (fun s6 wr => ∃ k:Nat,k ≤ x.loads.length∧s6 = .int .i64 k∧Hid (S1R w s wr x x.loads.length k))
   (fun s6 _ => x.loads.length - (intOf s6).toNat)
  case atStart => exact ⟨0,by omega,rfl,HS1.out⟩
  case round =>
   clear HS1
   obtain ⟨k,hk,rfl,hS⟩:=hrel
   obtain ⟨wo,hwo⟩:∃ wo:World,wo=wr:=⟨_,rfl⟩
   subst hwo
   have c17:=hS.out.p2.cell 17
   simp [PbM.cs] at c17
   by_cases hlt:k < x.loads.length
   ·have i1:(0:Int) ≤ (k:Int):=by omega
    have i2:(k:Int) < (x.loads.length:Int):=by omega
    have hk4:(k:Int) ≤ 4:=by have:=HL4.out; omega
    obtain ⟨z0,f0⟩:=own_at hS.out.os (negRow_len _ _) hlt
    have c2:=hS.out.p6.cell 2
    simp at c2
    go_upto_region 7 with fail
    obtain ⟨w2,hw2⟩:∃ V,V=wo.setCell ⟨s,k,none⟩ (.int .i64 (-1)):=⟨_,rfl⟩
    rw [← hw2]
    have hs2:=hS.out.set
    rw [← hw2] at hs2
    have HS2:=Lib.hid hs2
    clear hs2 hw2 z0 f0 c2 c17 hS
    go_wp2_with fail
    go_roundw
    case rel => exact ⟨k+1,by omega,by go_num,HS2.out⟩
    case measure => simp [intOf]; omega
   ·have hkl:k=x.loads.length:=by omega
    have i2:¬ (k:Int) < (x.loads.length:Int):=by omega
    rw [hkl] at hS
    go_upto_region 9 with fail
    clear hkl hlt hk i2 c17
    go_wp2_with (first | refine wpList_load_problemD rfl _ rfl w.heap.size rfl x hS.out.p2 ?_ | refine wpList_store_blk rfl 31 _ _ rfl wo.heap.size rfl x.cs rfl (by kernel_rfl) (PbM.cs_oneC _) (Blk.new wo _ _) rfl ?_)
    intro w3 hB3 hg3
    have hgw:wo.grownBy w3 (some wo.heap.size):=(World.grownBy_alloc wo _ _).trans hg3
    rw [hS.out.sz] at hB3 hgw
    have hm:=hS.out.made hP.out hB3 hgw
    have HM:=Lib.hid hm
    have HSZ:=Lib.hid hS.out.sz
    go_upto_region 10 with fail
    rw [HSZ.out]
    clear hB3 hg3 hgw hm hS HSZ
    have HST:Hid ((x.p.sim 0).start=List.replicate x.loads.length (-1)∧(x.p.sim 0).q=x.p):=by show _∧_; rw [← HLL.out]; exact ⟨rfl,rfl⟩
    have HST2:Hid (x.p.simC 0 = []∧x.p.simH 0 = []):=⟨rfl,rfl⟩
    have hat:∃ (i:Nat) (y:PbM) (vc vh:Value),i ≤ N∧(Value.int .i64 0) = .int .i64 i∧Hid (y.Fit∧y.Cap∧(i < N→y.p=(x.p.sim i).q))∧Hid (SR w s w3 x y vc vh x.loads.length (x.p.simC i) (x.p.simH i) (x.p.sim i).start):=by
     refine ⟨0,x,.slice none 0 0,.slice none 0 0,by omega,rfl,⟨HF.out,HC.out,fun _ => HST.out.2.symm⟩,?_⟩
     show SR _ _ _ _ _ _ _ _ _ _ _
     rw [HST.out.1,HST2.out.1,HST2.out.2]
     exact HM.out
    have HAT:=Lib.hid hat
    clear hat HM HST HST2 HF HC
    go_wp2_with fail
    go_loopw [8] (fun s8 wr => ∃ (i:Nat) (y:PbM) (vc vh:Value),i ≤ N∧s8 = .int .i64 i∧Hid (y.Fit∧y.Cap∧(i < N→y.p=(x.p.sim i).q))∧Hid (SR w s wr x y vc vh x.loads.length (x.p.simC i) (x.p.simH i) (x.p.sim i).start))
     (fun s8 _ => N - (intOf s8).toNat)
    case atStart => exact HAT.out
    case round =>
     clear HAT
     obtain ⟨i,y,vc,vh,hiN,rfl,hY,hS⟩:=hrel
     obtain ⟨wa,hwa⟩:∃ wa:World,wa=wr:=⟨_,rfl⟩
     subst hwa
     by_cases hiL:i < N
     ·have i1:(i:Int) < (N:Int):=by omega
      have hxn:x.p.n=N:=by rw [HXN.out,HNN.out]
      have hok:=Pb.sim_ok HC0.out (i:=i) (by omega)
      have HOK:=Lib.hid hok
      have HYP:=Lib.hid (hY.out.2.2 hiL)
      have hiN96:i ≤ 96:=by have h1:=HN2.out; have h2:=HNN.out; omega
      have HCL:Hid ((x.p.simC i).length=i∧(x.p.simH i).length=i):=by show _∧_; unfold Pb.simC Pb.simH; simp
      have HC1:=Lib.hid (Pb.simC_succ x.p i)
      have HH1:=Lib.hid (Pb.simH_succ x.p i)
      have hyd:y.p.dec=(x.p.sim i).q.dec:=by rw [HYP.out]
      have hdec:=fun W (h:RPb W y) => rdecide_any y W h hY.out.1
      rw [hyd] at hdec
      generalize hbe:y.p.bestE=be at *
      have HDEC:=Lib.hid hdec
      clear hok hyd hdec hbe hxn
      go_upto_region 13 with fail
      go_wp2_with (refine wpList_load_problemG (by rfl) _ rfl (s+2) rfl y hS.out.p7 ?_)
      refine (HDEC.out _ hS.out.r).mono ?_
      rintro e w2 ⟨_,rfl,m,rfl,hmd,hrm,hml,hma,hb2⟩
      have hlta:=hS.out.lt_all
      have hs2:=hS.out.below hb2
      have hsz2:=hb2.size
      simp only [DcM.v]
      clear HDEC
      go_wp2_with (refine wpList_store_blk rfl 42 _ _ rfl w2.heap.size rfl m.cs rfl (by kernel_rfl) (DcM.cs_one _) (Blk.new w2 _ _) rfl ?_)
      intro w3' hB3 hg3
      have hb3:Below w2.heap.size w2 w3':=((Below.refl w2.heap.size w2).alloc (Nat.le_refl _) (.cells #[.int .i64 0,.int .i64 0,.slice none 0 0] 42)).grown hg3 (by simp) (fun k e => by injection e with e; omega)
      obtain ⟨gd,hgd⟩:∃ n,n=w2.heap.size:=⟨_,rfl⟩
      rw [← hgd] at hB3
      have HS3:=Lib.hid (hs2.below hb3)
      have HD3:Hid (SDR (SRM s vc vh) w3' gd m):=⟨hB3,hrm.below hb3,fun e => by have:=hlta _ e; omega,.inr fun ad e e2 => by have h1:=hma ad e; have h2:=hlta _ e2; omega⟩
      have HMDD:Hid (m.d=(x.p.sim i).q.dec):=hmd
      have HMD:Hid (m.charge=(x.p.sim i).q.dec.charge∧m.heat=(x.p.sim i).q.dec.heat∧m.l=(x.p.sim i).q.dec.starts):=by show _∧_∧_; rw [← hmd]; exact ⟨rfl,rfl,rfl⟩
      go_upto_region 14 with fail
      rw [← hgd]
      clear hB3 hg3 hb3 hgd hs2 hlta hsz2 hb2 hrm hml hma hmd hS
      have c0:=HS3.out.p6.cell 0
      have d0:=HD3.out.dd.cell 0
      simp at c0
      simp [DcM.cs] at d0
      go_wp2_with (at_builtin; refine wpList_append_newGH _ w3' w3'.heap.size rfl rfl _ _ 22 rfl (s+3) 3 i0 (.int .i64 0) 1 8 Tryz.underlying22 hi hz0 hz1 hz2 rfl (by decide) (by decide) _ (x.p.simC i).length (ints (x.p.simC i)) rfl HS3.out.oc #[.int .i64 m.charge] rfl (one_int _ _) rfl rfl (by have:=HCL.out.1; omega) HS3.out.gsz ?_)
      intro v5 w5 hown5 hg5 hv5
      obtain ⟨A5,c5,rfl⟩:=own_form hown5
      have hv5:=hv5.imp id (fun h => (⟨_,h,Nat.le_succ _⟩:∃ q,Value.ownBlock (.slice A5 ((x.p.simC i).length+1) c5)=some q∧w3'.heap.size ≤ q))
      obtain ⟨hB5,hS5⟩:=HS3.out.pushC (c:=m.charge) hown5 hg5 hv5
      have hD5:SDR (SRM s (.slice A5 ((x.p.simC i).length+1) c5) vh) w5 gd m:=HD3.out.step hg5 (fun k e => .inr (.inr (.inr (.inl e.symm)))) (srm_c hv5)
      have hg6:w5.grownBy (w5.setCell ⟨s+1,0,none⟩ (.slice A5 ((x.p.simC i).length+1) c5)) (some (s+1)):=only_setCell (grown_id _ _) (.inl rfl) _
      have HD6:=Lib.hid (hD5.step hg6 (fun k e => .inr (.inl (by injection e with e; exact e.symm))) (fun k h => .inl h))
      have HS6:=Lib.hid hS5
      clear c0 d0
      have c0:=hB5.cell 0
      have f0:=hB5.frozen 0
      simp at c0
      clear hown5 hg5 hv5 hB5 hS5 hD5 hg6 HS3 HD3
      go_upto_region 15 with fail
      obtain ⟨w6,hw6⟩:∃ V,V=w5.setCell ⟨s+1,0,none⟩ (.slice A5 ((x.p.simC i).length+1) c5):=⟨_,rfl⟩
      rw [← hw6] at HS6 HD6 ⊢
      clear hw6 c0 f0
      have c1:=HS6.out.p6.cell 1
      have d1:=HD6.out.dd.cell 1
      simp at c1
      simp [DcM.cs] at d1
      go_wp2_with (at_builtin; refine wpList_append_newGH _ w6 w6.heap.size rfl rfl _ _ 22 rfl (s+3) 3 i0 (.int .i64 0) 1 8 Tryz.underlying22 hi hz0 hz1 hz2 rfl (by decide) (by decide) _ (x.p.simH i).length (ints (x.p.simH i)) rfl HS6.out.oh #[.int .i64 m.heat] rfl (one_int _ _) rfl rfl (by have:=HCL.out.2; omega) HS6.out.gsz ?_)
      intro v7 w7 hown7 hg7 hv7
      obtain ⟨A7,c7,rfl⟩:=own_form hown7
      have hv7:=hv7.imp id (fun h => (⟨_,h,Nat.le_succ _⟩:∃ q,Value.ownBlock (.slice A7 ((x.p.simH i).length+1) c7)=some q∧w6.heap.size ≤ q))
      obtain ⟨hB7,hS7⟩:=HS6.out.pushH (c:=m.heat) hown7 hg7 hv7
      have hD7:SDR (SRM s (.slice A5 ((x.p.simC i).length+1) c5) (.slice A7 ((x.p.simH i).length+1) c7)) w7 gd m:=HD6.out.step hg7 (fun k e => .inr (.inr (.inr (.inr e.symm)))) (srm_h hv7)
      have hg8:w7.grownBy (w7.setCell ⟨s+1,1,none⟩ (.slice A7 ((x.p.simH i).length+1) c7)) (some (s+1)):=only_setCell (grown_id _ _) (.inl rfl) _
      have HD8:=Lib.hid (hD7.step hg8 (fun k e => .inr (.inl (by injection e with e; exact e.symm))) (fun k h => .inl h))
      have HS8:=Lib.hid hS7
      clear c1 d1
      have c1:=hB7.cell 1
      have f1:=hB7.frozen 1
      simp at c1
      clear hown7 hg7 hv7 hB7 hS7 hD7 hg8 HS6 HD6
      go_upto_region 16 with fail
      obtain ⟨w8,hw8⟩:∃ V,V=w7.setCell ⟨s+1,1,none⟩ (.slice A7 ((x.p.simH i).length+1) c7):=⟨_,rfl⟩
      rw [← hw8] at HS8 HD8 ⊢
      clear hw8 c1 f1
      rw [show x.p.simC i ++ [m.charge]=x.p.simC (i+1) by rw [HC1.out,HMD.out.1],show x.p.simH i ++ [m.heat]=x.p.simH (i+1) by rw [HH1.out,HMD.out.2.1]] at HS8
      generalize (x.p.simC i).length+1=n5 at *
      generalize (x.p.simH i).length+1=n7 at *
      have hable:=HOK.out.able
      have hyl:y.loads.length=(x.p.sim i).ids.length:=by rw [HOK.out.len, ← HYP.out,PbM.loads_len]
      have HLI:Hid (m.l.length=y.loads.length):=by show _=_; rw [HMD.out.2.2,hyl,HOK.out.len]; exact hable.len
      have hy4:y.loads.length ≤ 4:=by rw [hyl,HOK.out.len]; exact Pb.loads4 (Pb.good HOK.out.chk)
      have HYL:=Lib.hid hyl
      have HY4:=Lib.hid hy4
      have hst8:(x.p.sim i).start=setStart (x.p.sim i).start (x.p.sim i).ids m.l i 0:=rfl
      rw [hst8] at HS8
      have HE0:Hid (setStart (x.p.sim i).start (x.p.sim i).ids m.l i y.loads.length=(x.p.sim (i+1)).start):=by show _=_; rw [← HLI.out,HMD.out.2.2]; rfl
      have HRN:Hid (∀ j (hj:j < y.loads.length) (hjm:j < m.l.length),rnK x.p (setStart (x.p.sim i).start (x.p.sim i).ids m.l i j) m.l[j] y.loads[j].r.name i x.loads.length=setStart (x.p.sim i).start (x.p.sim i).ids m.l i (j+1)):=fun j hj hjm => by
       have h1:=rnK_step HOK.out (bs:=m.l) (j:=j) (by rw [← HYL.out]; exact hj)
       rw [bools_at hjm, ← HYP.out,PbM.load_at hj,PbM.loads_len] at h1
       exact h1
      clear hable hyl hy4 hst8
      go_wp2_with fail
      go_loopw [11] (fun s11 wr => ∃ (j:Nat),j ≤ y.loads.length∧s11 = .int .i64 j∧Hid (SR w s wr x y (.slice A5 n5 c5) (.slice A7 n7 c7) x.loads.length (x.p.simC (i+1)) (x.p.simH (i+1)) (setStart (x.p.sim i).start (x.p.sim i).ids m.l i j))∧Hid (SDR (SRM s (.slice A5 n5 c5) (.slice A7 n7 c7)) wr gd m))
       (fun s11 _ => y.loads.length - (intOf s11).toNat)
      case atStart => exact ⟨0,Nat.zero_le _,rfl,HS8.out,HD8.out⟩
      case round =>
       clear HS8 HD8
       obtain ⟨j,hj,rfl,hS,hD⟩:=hrel
       obtain ⟨wb,hwb⟩:∃ wb:World,wb=wr:=⟨_,rfl⟩
       subst hwb
       have e17:=hS.out.p7.cell 17
       simp [PbM.cs] at e17
       by_cases hjl:j < y.loads.length
       ·have hjm:j < m.l.length:=by rw [HLI.out]; exact hjl
        have hj4:(j:Int) ≤ 4:=by have:=HY4.out; omega
        have j1:(0:Int) ≤ (j:Int):=by omega
        have j2:(j:Int) < (y.loads.length:Int):=by omega
        have j3:(j:Int) < (m.l.length:Int):=by omega
        have hrn:=HRN.out j hjl hjm
        go_upto_region 19 with fail
        clear e17
        go_wp2_with fail
        go_loopw [12] (fun s12 wr => ∃ (k:Nat),k ≤ x.loads.length∧s12 = .int .i64 k∧Hid (SR w s wr x y (.slice A5 n5 c5) (.slice A7 n7 c7) x.loads.length (x.p.simC (i+1)) (x.p.simH (i+1)) (rnK x.p (setStart (x.p.sim i).start (x.p.sim i).ids m.l i j) m.l[j] y.loads[j].r.name i k))∧Hid (SDR (SRM s (.slice A5 n5 c5) (.slice A7 n7 c7)) wr gd m))
         (fun s12 _ => x.loads.length - (intOf s12).toNat)
        case atStart => exact ⟨0,Nat.zero_le _,rfl,hS.out,hD.out⟩
        case round =>
         clear hS hD
         obtain ⟨k,hk,rfl,hS,hD⟩:=hrel
         obtain ⟨wc,hwc⟩:∃ wc:World,wc=wr:=⟨_,rfl⟩
         subst hwc
         have c17:=hS.out.p2.cell 17
         simp [PbM.cs] at c17
         by_cases hlt:k < x.loads.length
         ·have hk4:(k:Int) ≤ 4:=by have:=HL4.out; omega
          have k1:(0:Int) ≤ (k:Int):=by omega
          have k2:(k:Int) < (x.loads.length:Int):=by omega
          obtain ⟨bD,oD,hAD,_,zD⟩:=hD.out.rd.at' hjm
          obtain ⟨bL,oL,hAL,_,zk,_,_,_⟩:=(hP.out.below hS.out.bel).loads.at' hlt
          obtain ⟨bM,oM,hAM,_,zj,_,_,_⟩:=hS.out.r.loads.at' hjl
          have hstep:rnK x.p (setStart (x.p.sim i).start (x.p.sim i).ids m.l i j) m.l[j] y.loads[j].r.name i (k+1)=if m.l[j]=true∧x.loads[k].r.name=y.loads[j].r.name∧(rnK x.p (setStart (x.p.sim i).start (x.p.sim i).ids m.l i j) m.l[j] y.loads[j].r.name i k).getD k 0 < 0 then (rnK x.p (setStart (x.p.sim i).start (x.p.sim i).ids m.l i j) m.l[j] y.loads[j].r.name i k).set k i else rnK x.p (setStart (x.p.sim i).start (x.p.sim i).ids m.l i j) m.l[j] y.loads[j].r.name i k:=by rw [rnK,PbM.load_at hlt]
          have HSTP:=Lib.hid hstep
          clear hstep
          obtain ⟨X,hX⟩:∃ X,X=rnK x.p (setStart (x.p.sim i).start (x.p.sim i).ids m.l i j) m.l[j] y.loads[j].r.name i k:=⟨_,rfl⟩
          obtain ⟨X2,hX2⟩:∃ X,X=rnK x.p (setStart (x.p.sim i).start (x.p.sim i).ids m.l i j) m.l[j] y.loads[j].r.name i (k+1):=⟨_,rfl⟩
          rw [← hX] at hS HSTP
          rw [← hX2] at HSTP
          have HX2:=Lib.hid hX2
          have hxn:=hS.out.hn
          obtain ⟨zS,fS⟩:=own_at hS.out.os hxn hlt
          obtain ⟨b,hb⟩:∃ b,b=m.l[j]:=⟨_,rfl⟩
          obtain ⟨nj,hnj⟩:∃ b,b=y.loads[j].r.name:=⟨_,rfl⟩
          obtain ⟨nk,hnk⟩:∃ b,b=x.loads[k].r.name:=⟨_,rfl⟩
          rw [← hb] at zD HSTP
          rw [← hnj] at zj HSTP
          rw [← hnk] at zk HSTP
          generalize hsv:X.getD k 0=sv at *
          have g2:=hS.out.p6.cell 2
          simp at g2
          have e17:=hS.out.p7.cell 17
          simp [PbM.cs] at e17
          have d2:=hD.out.dd.cell 2
          simp [DcM.cs] at d2
          rw [hAL] at c17
          rw [hAM] at e17
          rw [hAD] at d2
          clear hX hX2 hb hnj hnk hAD hAL hAM hsv hxn hrn
          go_upto_region 22 with fail
          cases b
          ·have HNX:Hid (X2=X):=by show _=_; rw [HSTP.out,if_neg (fun h => by cases h.1)]
           clear HSTP fS
           refine wp_region_held_drew (S:=(fun w' => w'.cell? ⟨gd,2,none⟩=some (.slice (some ⟨bD,oD,none⟩) m.l.length m.c)∧w'.cell? ⟨bD,oD+j,none⟩=some (.bool false)∧w'.cell? ⟨w.heap.size,17,none⟩=some (.slice (some ⟨bL,oL,none⟩) x.loads.length x.lc)∧w'.cell? ⟨bL,oL+k * 4,none⟩=some (.string nk)∧w'.cell? ⟨s+2,17,none⟩=some (.slice (some ⟨bM,oM,none⟩) y.loads.length y.lc)∧w'.cell? ⟨bM,oM+j * 4,none⟩=some (.string nj)∧w'.cell? ⟨s+1,2,none⟩=some (.slice (some ⟨s,0,none⟩) x.loads.length x.loads.length)∧w'.cell? ⟨s,k,none⟩=some (.int .i64 sv))) (by kernel_rfl) (⟨d2,zD,c17,zk,e17,zj,g2,zS⟩) (fun hHeld => ?_)
           refine tk 0 ?_
           try simp only [jA,jB,Act.put,jD,jE,jF]
           refine tk 1 ?_
           try simp only [jA,jB,jC,Act.put,jD,jE,jF]
           refine tk 2 ?_
           try simp only [jA,jB,jC,Act.put,jD,jE,jF]
           refine tk 3 ?_
           try simp only [jA,jB,jC,Act.put,jD,jE,jF]
           refine tk 4 ?_
           try simp only [jA,jB,jC,Act.put,jD,jE,jF]
           refine tk 5 ?_
           try simp only [jA,jB,jC,Act.put,jD,jE,jF]
           refine tu 6 ?_
           try simp only [jA,jB,jC,Act.put,jD,jE,jF]
           refine tu 7 ?_
           try simp only [jA,jB,jC,Act.put,jD,jE,jF]
           refine tu 8 ?_
           try simp only [jA,jB,jC,Act.put,jD,jE,jF]
           refine tu 9 ?_
           try simp only [jA,jB,jC,Act.put,jD,jE,jF]
           refine tu 10 ?_
           try simp only [jA,jB,jC,Act.put,jD,jE,jF]
           refine tu 11 ?_
           try simp only [jA,jB,jC,Act.put,jD,jE,jF]
           refine tu 12 ?_
           try simp only [jA,jB,jC,Act.put,jD,jE,jF]
           refine tu 13 ?_
           try simp only [jA,jB,jC,Act.put,jD,jE,jF]
           refine tu 14 ?_
           try simp only [jA,jB,jC,Act.put,jD,jE,jF]
           refine tu 15 ?_
           try simp only [jA,jB,jC,Act.put,jD,jE,jF]
           refine tu 16 ?_
           try simp only [jA,jB,jC,Act.put,jD,jE,jF]
           refine tu 17 ?_
           try simp only [jA,jB,jC,Act.put,jD,jE,jF]
           refine tu 18 ?_
           try simp only [jA,jB,jC,Act.put,jD,jE,jF]
           refine tk 19 ?_
           try simp only [jA,jB,jC,Act.put,jD,jE,jF]
           refine tk 20 ?_
           try simp only [jA,jB,jC,Act.put,jD,jE,jF]
           refine tu 21 ?_
           try simp only [jA,jB,jC,Act.put,jD,jE,jF]
           refine tu 22 ?_
           try simp only [jA,jB,jC,Act.put,jD,jE,jF]
           refine tu 23 ?_
           try simp only [jA,jB,jC,Act.put,jD,jE,jF]
           refine tu 24 ?_
           try simp only [jA,jB,jC,Act.put,jD,jE,jF]
           refine tu 25 ?_
           try simp only [jA,jB,jC,Act.put,jD,jE,jF]
           refine tu 26 ?_
           try simp only [jA,jB,jC,Act.put,jD,jE,jF]
           refine tk 27 ?_
           try simp only [jA,jB,jC,Act.put,jD,jE,jF]
           refine wpAnyH_done (by kernel_rfl) ?_ _
           obtain ⟨wd,hwd⟩:∃ V:World,V=wc.drew:=⟨_,rfl⟩
           rw [← hwd]
           have hbw:Below wc.heap.size wc wd:=by rw [hwd]; exact Below.drew (Below.refl _ _)
           have HSc:=Lib.hid (hS.out.below hbw)
           have HDc:=Lib.hid (hD.out.below hbw)
           clear hwd hbw hS hD hHeld d2 zD c17 zk e17 zj g2 zS
           go_wp2_with fail
           go_roundw
           case rel => exact ⟨k+1,by omega,by go_num,by rw [← HX2.out,HNX.out]; exact HSc.out,HDc.out⟩
           case measure => simp [intOf]; omega
          ·by_cases hnn:nk=nj
           ·subst hnn
            have q1:(nk.toList == nk.toList)=true:=by simp
            by_cases hneg:sv < 0
            ·have HNX:Hid (X2=X.set k i):=by show _=_; rw [HSTP.out,if_pos ⟨rfl,rfl,hneg⟩]
             clear HSTP
             refine wp_region_held_drew (S:=(fun w' => w'.cell? ⟨gd,2,none⟩=some (.slice (some ⟨bD,oD,none⟩) m.l.length m.c)∧w'.cell? ⟨bD,oD+j,none⟩=some (.bool true)∧w'.cell? ⟨w.heap.size,17,none⟩=some (.slice (some ⟨bL,oL,none⟩) x.loads.length x.lc)∧w'.cell? ⟨bL,oL+k * 4,none⟩=some (.string nk)∧w'.cell? ⟨s+2,17,none⟩=some (.slice (some ⟨bM,oM,none⟩) y.loads.length y.lc)∧w'.cell? ⟨bM,oM+j * 4,none⟩=some (.string nk)∧w'.cell? ⟨s+1,2,none⟩=some (.slice (some ⟨s,0,none⟩) x.loads.length x.loads.length)∧w'.cell? ⟨s,k,none⟩=some (.int .i64 sv))) (by kernel_rfl) (⟨d2,zD,c17,zk,e17,zj,g2,zS⟩) (fun hHeld => ?_)
             refine tk 0 ?_
             try simp only [jA,jB,Act.put,jD,jE,jF]
             refine tk 1 ?_
             try simp only [jA,jB,jC,Act.put,jD,jE,jF]
             refine tk 2 ?_
             try simp only [jA,jB,jC,Act.put,jD,jE,jF]
             refine tk 3 ?_
             try simp only [jA,jB,jC,Act.put,jD,jE,jF]
             refine tk 4 ?_
             try simp only [jA,jB,jC,Act.put,jD,jE,jF]
             refine tk 5 ?_
             try simp only [jA,jB,jC,Act.put,jD,jE,jF]
             refine tk 6 ?_
             try simp only [jA,jB,jC,Act.put,jD,jE,jF]
             refine tk 7 ?_
             try simp only [jA,jB,jC,Act.put,jD,jE,jF]
             refine tk 8 ?_
             try simp only [jA,jB,jC,Act.put,jD,jE,jF]
             refine tk 9 ?_
             try simp only [jA,jB,jC,Act.put,jD,jE,jF]
             refine tk 10 ?_
             try simp only [jA,jB,jC,Act.put,jD,jE,jF]
             refine tk 11 ?_
             try simp only [jA,jB,jC,Act.put,jD,jE,jF]
             refine tk 12 ?_
             try simp only [jA,jB,jC,Act.put,jD,jE,jF]
             refine tk 13 ?_
             try simp only [jA,jB,jC,Act.put,jD,jE,jF]
             refine tk 14 ?_
             try simp only [jA,jB,jC,Act.put,jD,jE,jF]
             refine tk 15 ?_
             try simp only [jA,jB,jC,Act.put,jD,jE,jF]
             refine tk 16 ?_
             try simp only [jA,jB,jC,Act.put,jD,jE,jF]
             refine tk 17 ?_
             try simp only [jA,jB,jC,Act.put,jD,jE,jF]
             refine tk 18 ?_
             try simp only [jA,jB,jC,Act.put,jD,jE,jF]
             refine tk 19 ?_
             try simp only [jA,jB,jC,Act.put,jD,jE,jF]
             refine tk 20 ?_
             try simp only [jA,jB,jC,Act.put,jD,jE,jF]
             refine tk 21 ?_
             try simp only [jA,jB,jC,Act.put,jD,jE,jF]
             refine tk 22 ?_
             try simp only [jA,jB,jC,Act.put,jD,jE,jF]
             refine tk 23 ?_
             try simp only [jA,jB,jC,Act.put,jD,jE,jF]
             refine tk 24 ?_
             try simp only [jA,jB,jC,Act.put,jD,jE,jF]
             refine tk 25 ?_
             try simp only [jA,jB,jC,Act.put,jD,jE,jF]
             refine tk 26 ?_
             try simp only [jA,jB,jC,Act.put,jD,jE,jF]
             refine tk 27 ?_
             try simp only [jA,jB,jC,Act.put,jD,jE,jF]
             refine wpAnyH_done (by kernel_rfl) ?_ _
             obtain ⟨wd,hwd⟩:∃ V:World,V=wc.drew:=⟨_,rfl⟩
             rw [← hwd]
             have hbw:Below wc.heap.size wc wd:=by rw [hwd]; exact Below.drew (Below.refl _ _)
             have HSc:=Lib.hid (hS.out.below hbw)
             have HDc:=Lib.hid (hD.out.below hbw)
             have g2c:wd.cell? ⟨s+1,2,none⟩=some (.slice (some ⟨s,0,none⟩) x.loads.length x.loads.length):=cell_below g2 hbw
             have zSc:=cell_below zS hbw
             clear hwd hbw hS hD hHeld d2 zD c17 zk e17 zj g2 zS fS
             have fSc:=HSc.out.os.frozenAt k
             go_upto_region 21 with fail
             obtain ⟨we,hwe⟩:∃ v,v=wd.setCell ⟨s,k,none⟩ (.int .i64 i):=⟨_,rfl⟩
             rw [← hwe]
             have hs9:=HSc.out.setS k i
             have hg9:wd.grownBy we (some s):=by rw [hwe]; exact only_setCell (p:=⟨s,k,none⟩) (grown_id _ _) (.inl rfl) _
             have hd9:=HDc.out.step hg9 (fun k e => .inr (.inr (.inl (by injection e with e; exact e.symm)))) (fun k h => .inl h)
             rw [← hwe] at hs9
             have HSd:=Lib.hid hs9
             have HDd:=Lib.hid hd9
             clear hwe hs9 hg9 hd9 g2c zSc fSc HSc HDc hneg
             go_wp2_with fail
             go_roundw
             case rel => exact ⟨k+1,by omega,by go_num,by rw [← HX2.out,HNX.out]; exact HSd.out,HDd.out⟩
             case measure => simp [intOf]; omega
            ·have HNX:Hid (X2=X):=by show _=_; rw [HSTP.out,if_neg (fun h => hneg h.2.2)]
             clear HSTP fS
             refine wp_region_held_drew (S:=(fun w' => w'.cell? ⟨gd,2,none⟩=some (.slice (some ⟨bD,oD,none⟩) m.l.length m.c)∧w'.cell? ⟨bD,oD+j,none⟩=some (.bool true)∧w'.cell? ⟨w.heap.size,17,none⟩=some (.slice (some ⟨bL,oL,none⟩) x.loads.length x.lc)∧w'.cell? ⟨bL,oL+k * 4,none⟩=some (.string nk)∧w'.cell? ⟨s+2,17,none⟩=some (.slice (some ⟨bM,oM,none⟩) y.loads.length y.lc)∧w'.cell? ⟨bM,oM+j * 4,none⟩=some (.string nk)∧w'.cell? ⟨s+1,2,none⟩=some (.slice (some ⟨s,0,none⟩) x.loads.length x.loads.length)∧w'.cell? ⟨s,k,none⟩=some (.int .i64 sv))) (by kernel_rfl) (⟨d2,zD,c17,zk,e17,zj,g2,zS⟩) (fun hHeld => ?_)
             refine tk 0 ?_
             try simp only [jA,jB,Act.put,jD,jE,jF]
             refine tk 1 ?_
             try simp only [jA,jB,jC,Act.put,jD,jE,jF]
             refine tk 2 ?_
             try simp only [jA,jB,jC,Act.put,jD,jE,jF]
             refine tk 3 ?_
             try simp only [jA,jB,jC,Act.put,jD,jE,jF]
             refine tk 4 ?_
             try simp only [jA,jB,jC,Act.put,jD,jE,jF]
             refine tk 5 ?_
             try simp only [jA,jB,jC,Act.put,jD,jE,jF]
             refine tk 6 ?_
             try simp only [jA,jB,jC,Act.put,jD,jE,jF]
             refine tk 7 ?_
             try simp only [jA,jB,jC,Act.put,jD,jE,jF]
             refine tk 8 ?_
             try simp only [jA,jB,jC,Act.put,jD,jE,jF]
             refine tk 9 ?_
             try simp only [jA,jB,jC,Act.put,jD,jE,jF]
             refine tk 10 ?_
             try simp only [jA,jB,jC,Act.put,jD,jE,jF]
             refine tk 11 ?_
             try simp only [jA,jB,jC,Act.put,jD,jE,jF]
             refine tk 12 ?_
             try simp only [jA,jB,jC,Act.put,jD,jE,jF]
             refine tk 13 ?_
             try simp only [jA,jB,jC,Act.put,jD,jE,jF]
             refine tk 14 ?_
             try simp only [jA,jB,jC,Act.put,jD,jE,jF]
             refine tk 15 ?_
             try simp only [jA,jB,jC,Act.put,jD,jE,jF]
             refine tk 16 ?_
             try simp only [jA,jB,jC,Act.put,jD,jE,jF]
             refine tk 17 ?_
             try simp only [jA,jB,jC,Act.put,jD,jE,jF]
             refine tk 18 ?_
             try simp only [jA,jB,jC,Act.put,jD,jE,jF]
             refine tk 19 ?_
             try simp only [jA,jB,jC,Act.put,jD,jE,jF]
             refine tk 20 ?_
             try simp only [jA,jB,jC,Act.put,jD,jE,jF]
             refine tk 21 ?_
             try simp only [jA,jB,jC,Act.put,jD,jE,jF]
             refine tk 22 ?_
             try simp only [jA,jB,jC,Act.put,jD,jE,jF]
             refine tk 23 ?_
             try simp only [jA,jB,jC,Act.put,jD,jE,jF]
             refine tk 24 ?_
             try simp only [jA,jB,jC,Act.put,jD,jE,jF]
             refine tk 25 ?_
             try simp only [jA,jB,jC,Act.put,jD,jE,jF]
             refine tk 26 ?_
             try simp only [jA,jB,jC,Act.put,jD,jE,jF]
             refine tk 27 ?_
             try simp only [jA,jB,jC,Act.put,jD,jE,jF]
             refine wpAnyH_done (by kernel_rfl) ?_ _
             obtain ⟨wd,hwd⟩:∃ V:World,V=wc.drew:=⟨_,rfl⟩
             rw [← hwd]
             have hbw:Below wc.heap.size wc wd:=by rw [hwd]; exact Below.drew (Below.refl _ _)
             have HSc:=Lib.hid (hS.out.below hbw)
             have HDc:=Lib.hid (hD.out.below hbw)
             clear hwd hbw hS hD hHeld d2 zD c17 zk e17 zj g2 zS
             go_wp2_with fail
             go_roundw
             case rel => exact ⟨k+1,by omega,by go_num,by rw [← HX2.out,HNX.out]; exact HSc.out,HDc.out⟩
             case measure => simp [intOf]; omega
           ·have q1:=str_ne hnn
            have HNX:Hid (X2=X):=by show _=_; rw [HSTP.out,if_neg (fun h => hnn h.2.1)]
            clear HSTP fS hnn
            refine wp_region_held_drew (S:=(fun w' => w'.cell? ⟨gd,2,none⟩=some (.slice (some ⟨bD,oD,none⟩) m.l.length m.c)∧w'.cell? ⟨bD,oD+j,none⟩=some (.bool true)∧w'.cell? ⟨w.heap.size,17,none⟩=some (.slice (some ⟨bL,oL,none⟩) x.loads.length x.lc)∧w'.cell? ⟨bL,oL+k * 4,none⟩=some (.string nk)∧w'.cell? ⟨s+2,17,none⟩=some (.slice (some ⟨bM,oM,none⟩) y.loads.length y.lc)∧w'.cell? ⟨bM,oM+j * 4,none⟩=some (.string nj)∧w'.cell? ⟨s+1,2,none⟩=some (.slice (some ⟨s,0,none⟩) x.loads.length x.loads.length)∧w'.cell? ⟨s,k,none⟩=some (.int .i64 sv))) (by kernel_rfl) (⟨d2,zD,c17,zk,e17,zj,g2,zS⟩) (fun hHeld => ?_)
            refine tk 0 ?_
            try simp only [jA,jB,Act.put,jD,jE,jF]
            refine tk 1 ?_
            try simp only [jA,jB,jC,Act.put,jD,jE,jF]
            refine tk 2 ?_
            try simp only [jA,jB,jC,Act.put,jD,jE,jF]
            refine tk 3 ?_
            try simp only [jA,jB,jC,Act.put,jD,jE,jF]
            refine tk 4 ?_
            try simp only [jA,jB,jC,Act.put,jD,jE,jF]
            refine tk 5 ?_
            try simp only [jA,jB,jC,Act.put,jD,jE,jF]
            refine tk 6 ?_
            try simp only [jA,jB,jC,Act.put,jD,jE,jF]
            refine tk 7 ?_
            try simp only [jA,jB,jC,Act.put,jD,jE,jF]
            refine tk 8 ?_
            try simp only [jA,jB,jC,Act.put,jD,jE,jF]
            refine tk 9 ?_
            try simp only [jA,jB,jC,Act.put,jD,jE,jF]
            refine tk 10 ?_
            try simp only [jA,jB,jC,Act.put,jD,jE,jF]
            refine tk 11 ?_
            try simp only [jA,jB,jC,Act.put,jD,jE,jF]
            refine tk 12 ?_
            try simp only [jA,jB,jC,Act.put,jD,jE,jF]
            refine tk 13 ?_
            try simp only [jA,jB,jC,Act.put,jD,jE,jF]
            refine tk 14 ?_
            try simp only [jA,jB,jC,Act.put,jD,jE,jF]
            refine tk 15 ?_
            try simp only [jA,jB,jC,Act.put,jD,jE,jF]
            refine tk 16 ?_
            try simp only [jA,jB,jC,Act.put,jD,jE,jF]
            refine tk 17 ?_
            try simp only [jA,jB,jC,Act.put,jD,jE,jF]
            refine tk 18 ?_
            try simp only [jA,jB,jC,Act.put,jD,jE,jF]
            refine tk 19 ?_
            try simp only [jA,jB,jC,Act.put,jD,jE,jF]
            refine tk 20 ?_
            try simp only [jA,jB,jC,Act.put,jD,jE,jF]
            refine tu 21 ?_
            try simp only [jA,jB,jC,Act.put,jD,jE,jF]
            refine tu 22 ?_
            try simp only [jA,jB,jC,Act.put,jD,jE,jF]
            refine tu 23 ?_
            try simp only [jA,jB,jC,Act.put,jD,jE,jF]
            refine tu 24 ?_
            try simp only [jA,jB,jC,Act.put,jD,jE,jF]
            refine tu 25 ?_
            try simp only [jA,jB,jC,Act.put,jD,jE,jF]
            refine tu 26 ?_
            try simp only [jA,jB,jC,Act.put,jD,jE,jF]
            refine tk 27 ?_
            try simp only [jA,jB,jC,Act.put,jD,jE,jF]
            refine wpAnyH_done (by kernel_rfl) ?_ _
            obtain ⟨wd,hwd⟩:∃ V:World,V=wc.drew:=⟨_,rfl⟩
            rw [← hwd]
            have hbw:Below wc.heap.size wc wd:=by rw [hwd]; exact Below.drew (Below.refl _ _)
            have HSc:=Lib.hid (hS.out.below hbw)
            have HDc:=Lib.hid (hD.out.below hbw)
            clear hwd hbw hS hD hHeld d2 zD c17 zk e17 zj g2 zS
            go_wp2_with fail
            go_roundw
            case rel => exact ⟨k+1,by omega,by go_num,by rw [← HX2.out,HNX.out]; exact HSc.out,HDc.out⟩
            case measure => simp [intOf]; omega
         ·have hkn:k=x.loads.length:=by omega
          have i2:¬ (k:Int) < (x.loads.length:Int):=by omega
          rw [hkn,hrn] at hS
          clear hkn hlt hk
          go_wp2_with fail
          go_roundw
          case rel => exact ⟨j+1,by omega,by go_num,hS.out,hD.out⟩
          case measure => simp [intOf]; omega
       ·have hjn:j=y.loads.length:=by omega
        have i2:¬ (j:Int) < (y.loads.length:Int):=by omega
        rw [hjn,HE0.out] at hS
        have hN96:N ≤ 96:=by rw [HNN.out]; exact HN2.out
        go_upto_region 24 with fail
        clear hjn hjl hj i2 e17
        by_cases hlast:i+1 < N
        ·have q1:(i:Int)+1 < (N:Int):=by omega
         have hqn:1 < (x.p.sim i).q.n:=by rw [HOK.out.n,HXN.out, ← HNN.out]; omega
         have hadv0:=Lib.hid (Pb.able_adv HOK.out.chk HOK.out.able hqn)
         have hav:=fun W (h:RPb W y) (h2:RBools W m.A m.l) => radvanceN_any y m W h hY.out.1 hY.out.2.1 h2
         rw [HYP.out,HMDD.out] at hav
         unfold AdvOutN at hav
         have HAV:=Lib.hid hav
         clear hav hqn
         go_upto_region 25 with fail
         clear q1
         go_wp2_with (first | refine wpList_load_problemG (by rfl) _ rfl (s+2) rfl y hS.out.p7 ?_ | refine wpList_load_decR (by rfl) _ rfl gd rfl m hD.out.dd ?_)
         refine (HAV.out _ hS.out.r hD.out.rd).mono ?_
         rintro e wp (⟨_,m2,rfl,hm2,hr2,hf2,hc2,hn2,hb2⟩ | ⟨h0,_,_⟩)
         rotate_left
         ·exact absurd hadv0.out h0
         rw [show PbM.v m2 = .agg m2.cs from rfl]
         have HSp:=Lib.hid (hS.out.below hb2)
         have HLT:Hid (∀ k,SRM s (.slice A5 n5 c5) (.slice A7 n7 c7) k→k < wb.heap.size):=hS.out.lt_all
         have HM2:Hid (m2.Fit∧m2.Cap∧(i+1 < N→m2.p=(x.p.sim (i+1)).q)):=⟨hf2,hc2,fun _ => hm2⟩
         have HN2b:=Lib.hid hn2
         have HR2:=Lib.hid hr2
         clear hm2 hf2 hc2 hr2 hn2 hb2 HAV hadv0 hS hD
         go_wp2_with (refine wpList_store_blk rfl 31 _ _ rfl (s+2) rfl m2.cs rfl (by kernel_rfl) (PbM.cs_oneC _) HSp.out.p7 rfl ?_)
         intro w9 hB9 hg9
         have hs9:=HSp.out.turn hB9 hg9 HR2.out (HN2b.out.off HLT.out)
         have HS9:=Lib.hid hs9
         clear hB9 hg9 hs9 HSp HR2
         go_wp2_with fail
         go_roundw
         case rel => exact ⟨i+1,m2,_,_,by omega,by go_num,HM2.out,HS9.out⟩
         case measure => simp [intOf]; omega
        ·have q1:¬ (i:Int)+1 < (N:Int):=by omega
         have HM2:Hid (y.Fit∧y.Cap∧(i+1 < N→y.p=(x.p.sim (i+1)).q)):=⟨hY.out.1,hY.out.2.1,fun h => absurd h hlast⟩
         clear hlast
         go_wp2_with fail
         go_roundw
         case rel => exact ⟨i+1,y,_,_,by omega,by go_num,HM2.out,hS.out⟩
         case measure => simp [intOf]; omega
     ·have hin:i=N:=by omega
      have i1:¬ (i:Int) < (N:Int):=by omega
      rw [hin] at hS
      go_upto_region 26 with fail
      clear hin hiL hiN i1
      obtain ⟨A5,c5,rfl⟩:=own_form hS.out.oc
      obtain ⟨A7,c7,rfl⟩:=own_form hS.out.oh
      obtain ⟨z,hz⟩:∃ z:PnM,z=⟨⟨A5,c5,x.p.simC N⟩,⟨A7,c7,x.p.simH N⟩,⟨some ⟨s,0,none⟩,x.loads.length,(x.p.sim N).start⟩⟩:=⟨_,rfl⟩
      have hhn:=hS.out.hn
      have HB6:Hid (Blk wa (s+1) 48 z.cs):=by
       show Blk _ _ _ _
       rw [hz]
       have h6:=hS.out.p6
       unfold PnM.cs
       simp only [hhn]
       exact h6
      have HZ:Hid (z.x=x.p.simP):=by show _=_; rw [hz,Pb.sim_plan HC0.out,HXN.out, ← HNN.out]; rfl
      have hz2:=Lib.hid hz
      clear hz
      go_wp2_with (first | refine wpList_load_planD rfl _ rfl (s+1) rfl z HB6.out ?_ | refine wpList_store_blk rfl 48 _ _ rfl (w.heap.size+1) rfl z.cs rfl (by kernel_rfl) (PnM.cs_one _) hS.out.p4 rfl ?_)
      intro w9 hB9 hg9
      have hsx:=hS.out
      have hss:=hsx.hs
      have hb9:Below w.heap.size w w9:=hsx.bel.grown hg9 hsx.bel.size (fun k e => by injection e with e; omega)
      have HFN:Hid (SimulateOut x.p w (.returned (.tuple #[.agg z.cs,.int .i64 0])) w9):=by
       refine ⟨z,by rw [HC0.out]; rfl,⟨HZ.out,?_,?_,?_⟩,⟨?_,?_,?_⟩,hb9⟩
       ·rw [hz2.out]; exact own_cap hsx.oc
       ·rw [hz2.out]; exact own_cap hsx.oh
       ·rw [hz2.out]; exact Nat.le_of_eq hhn
       ·rw [hz2.out]; exact Reads.of_own (own_keep hsx.oc hg9 (row_ne hsx.oc (by omega)))
       ·rw [hz2.out]; exact Reads.of_own (own_keep hsx.oh hg9 (row_ne hsx.oh (by omega)))
       ·rw [hz2.out]
        have h1:=own_keep hsx.os hg9 (own_at_ne (by omega))
        rw [← hhn] at h1
        exact Reads.of_own h1
      have HB9:=Lib.hid hB9
      clear hsx hss hb9 hB9 hg9 hhn
      go_wp2_with fail
      exact rsimulate_ret (cs:=z.cs) rfl HB9.out rfl rfl HFN.out
 ·have HSP:Hid (PnM.zero.x=x.p.simP):=by show _=_; unfold Pb.simP; rw [if_pos hc]; rfl
  have HFN:Hid (∀ w5,Below w.heap.size w w5→SimulateOut x.p w (.returned (.tuple #[.agg PnM.zero.cs,.int .i64 x.p.chk])) w5):=fun w5 h => ⟨PnM.zero,rfl,⟨HSP.out,Nat.le_refl _,Nat.le_refl _,Nat.le_refl _⟩,RPn.zero _,h⟩
  have q0:(x.p.chk != 0)=true:=by simp [hc]
  generalize x.p.chk=ck at *
  have HCK:=Lib.hid hck0
  clear hck0 hc hF hC
  go_enter Tryz.func14,Tryz.ntmps14
  go_upto_region 1 with fail
  rw [← hWH.out]
  clear hWH
  go_wp2_with (refine wpList_load_problemG (by rfl) _ rfl w.heap.size rfl x hst.out.p ?_)
  refine (HCK.out _ (hP.out.below hst.out.bel)).mono ?_
  rintro e w1 ⟨rfl,hb1⟩
  have HX1:=Lib.hid (hst.out.below hb1)
  clear hb1 hst
  go_upto_region 2 with fail
  clear q0
  go_wp2_with (refine wpList_load_problemG (by rfl) _ rfl w.heap.size rfl x HX1.out.p ?_)
  refine (HCK.out _ (hP.out.below HX1.out.bel)).mono ?_
  rintro e w2 ⟨rfl,hb2⟩
  have HX2:=Lib.hid (HX1.out.below hb2)
  clear hb2 HX1 HCK
  go_wp2_with (refine wpList_store_blk rfl 48 _ _ rfl (w.heap.size+1) rfl PnM.zero.cs rfl (by kernel_rfl) (PnM.cs_one _) HX2.out.q rfl ?_)
  intro w8 hB8 hg8
  have hb8:Below w.heap.size w w8:=HX2.out.bel.grown hg8 HX2.out.bel.size (fun k e => by injection e with e; omega)
  have HB8:=Lib.hid hB8
  have HF8:=Lib.hid (HFN.out _ hb8)
  clear hB8 hg8 hb8
  go_wp2_with fail
  exact rsimulate_ret (cs:=PnM.zero.cs) rfl HB8.out rfl rfl HF8.out
end Go.Proofs.YtnppngaabfhkpaaGreat
