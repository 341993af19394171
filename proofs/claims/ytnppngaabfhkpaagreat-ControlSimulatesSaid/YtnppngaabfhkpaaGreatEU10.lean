/-
  The walks of layer 43 (optimum), part 10: the best plan where the problem is valid and within the limits.
-/
import Derived.Test.YtnppngaabfhkpaaGreatEU8
namespace Go.Proofs.YtnppngaabfhkpaaGreat
open Go.RowKit
attribute [local go_sem ↓] Go.wp_at_zero Go.wp_at_succ
theorem Pb.path_charges {p:Pb} {U:List Int} {r:Nat} {lv tm c:Int} {ms:List (Int × Int)} (h:p.path U r lv tm ms=some c):∀ m ∈ ms, -40 ≤ m.1∧m.1 ≤ 40:=by
 induction r generalizing lv tm c ms with
 | zero =>
  cases ms with
  | nil => intro m hm; cases hm
  | cons m ms => simp only [Pb.path] at h; cases h
 | succ r ih =>
  cases ms with
  | nil => intro m hm; cases hm
  | cons a ms =>
   rw [Pb.path] at h
   split at h
   ·rename_i ha
    split at h
    ·cases h
    ·rename_i x hx
     rw [Option.map_eq_some_iff] at h
     obtain ⟨d,hd,_⟩:=h
     intro m hm
     rcases List.mem_cons.1 hm with rfl | hm
     ·have h1:=(Pb.mem_moves.1 (show (m.1,m.2) ∈ _ from ha)).1
      rw [canZ_iff] at h1
      have g:=Bat.good h1.1
      have g1:=g.ch1; have g2:=g.di1
      omega
     ·exact ih hd m hm
   ·cases h
theorem Pb.pick_le {p:Pb} (ls:List (List Int)):(p.search ls).1 ≤ worstZ:=by
 unfold Pb.search
 have key:∀ (l:List (List Int)) (acc:Int × Pn),acc.1 ≤ worstZ→(l.foldl p.pick1 acc).1 ≤ worstZ:=by
  intro l
  induction l with
  | nil => exact fun _ h => h
  | cons a l ih =>
   intro acc h
   rw [List.foldl_cons]
   refine ih _ ?_
   unfold Pb.pick1
   split
   ·show p.leastOf a ≤ worstZ; omega
   ·exact h
 exact key ls _ (Int.le_refl _)
theorem Pb.search_succ {p:Pb} {R:List (List Int)} {j:Nat} (hj:j < R.length):p.search (R.take (j+1))=p.pick1 (p.search (R.take j)) R[j]:=by
 unfold Pb.search
 rw [List.take_succ_eq_append_getElem hj,List.foldl_append]
 rfl
theorem startsN_len2 (ls:List Ld) (n:Int) {k:Nat} (hk:k ≤ 2):(startsN ls n k).length ≤ 9409:=by
 by_cases h1:k ≤ 1
 ·have:=startsN_len ls n h1; omega
 ·have e:k=1+1:=by omega
  subst e
  rw [startsN_succ]
  have h2:=startsN_len ls n (k:=1) (Nat.le_refl _)
  have h3:=stTo_len (R:=startsN ls n 1) (starts_len (ls.getD 1 Ld.zero) n) (startsN ls n 1).length
  omega
theorem Pb.search_none {p:Pb} {ls:List (List Int)} (h:(p.search ls).1=worstZ):(p.search ls).2=Pn.zero:=by
 unfold Pb.search at *
 have key:∀ (l:List (List Int)) (acc:Int × Pn),(acc.1 < worstZ ∨ acc=(worstZ,Pn.zero))→((l.foldl p.pick1 acc).1 < worstZ ∨ l.foldl p.pick1 acc=(worstZ,Pn.zero)):=by
  intro l
  induction l with
  | nil => exact fun _ h => h
  | cons a l ih =>
   intro acc h
   rw [List.foldl_cons]
   refine ih _ ?_
   unfold Pb.pick1
   split
   ·rename_i hq
    rcases h with h | h
    ·exact .inl (show p.leastOf a < worstZ by omega)
    ·rw [h] at hq
     exact .inl hq
   ·exact h
 rcases key ls (worstZ,Pn.zero) (.inr rfl) with h1 | h1
 ·omega
 ·rw [h1]
theorem grown_only {a w w':World} {r:Option Nat} (h:a.grownBy w r) (h2:w.grownBy w' r):a.grownBy w' r :=
 ⟨h2.os.trans h.os,h2.tape.trans h.tape,h2.output.trans h.output,Nat.le_trans h.size h2.size,fun k hk hne => (h2.block k (Nat.lt_of_lt_of_le hk h.size) hne).trans (h.block k hk hne)⟩
set_option maxRecDepth 100000 in
set_option maxHeartbeats 64000000 in
theorem best_run (x:PbM) (w:World) (hP0:RPb w x) (hF:x.Fit) (hc:x.p.chk=0) (hl:x.p.lim=true) :
  Calls Tryz.prog 24 #[x.v] w (BestOut x.p.best x.p.bestE w):=by
 have hP:=Lib.hid hP0
 have hgd:=Pb.good hc
 have hck0:=fun W (h:RPb W x) => pcheck_any x W h hF
 rw [hc] at hck0
 have hck:=Lib.hid hck0
 have hst0:=BX.start x w
 have hn1:x.p.n=x.buy.l.length:=rfl
 have hl4:x.p.loads.length=x.loads.length:=by simp [PbM.p]
 have hl2:=hl
 simp only [Pb.lim,Bool.and_eq_true,decide_eq_true_iff] at hl2
 have g1:¬ 24 < (x.buy.l.length:Int):=by have:=hl2.1; omega
 have g2:¬ 20 < x.bat.cap:=by have:x.p.bat.cap=x.bat.cap:=rfl; have:=hl2.2.1; omega
 have g3:¬ 8 < x.steps:=by have:x.p.room.steps=x.steps:=rfl; have:=hl2.2.2.1; omega
 have g4:¬ 2 < (x.loads.length:Int):=by have:=hl2.2.2.2; omega
 have hld2:x.loads.length ≤ 2:=by omega
 have hn0:=(Pb.nbd hgd).1
 have HST:=Lib.hid (fun W (h:RLoads W x.LA x.loads) => starts_any x.LA x.lc x.loads x.buy.l.length W h hF.names hF.profs hld2)
 have HUS:=Lib.hid (fun W B d ss (h:RLoads W x.LA x.loads) (h2:RInts W B ss) (h3:∀ s ∈ ss, -9223372036854775808 ≤ s∧s ≤ 9223372036854775807) (h4:ss.length ≤ 2) (h5:ss.length ≤ d) => luses_any x.LA B x.lc d x.loads ss x.buy.l.length W h h2 (PbM.prof_short hgd) h3 (by omega) (by omega) h5)
 have hbr:=Pb.best_run hc hl
 have HBR:=Lib.hid hbr
 have hul:∀ l,(usesL x.p.loads l x.p.n).length=x.buy.l.length:=fun l => Pb.uses_len hgd ⟨[], [],l⟩
 have hub:∀ l j,0 ≤ (usesL x.p.loads l x.p.n).getD j 0∧(usesL x.p.loads l x.p.n).getD j 0 ≤ 4000:=fun l j => Pb.uses_bd hgd ⟨[], [],l⟩ j
 have HUL:=Lib.hid hul
 have HUB:=Lib.hid hub
 have HLV:Hid (in64 x.level∧in64 x.temp):=by
  have a1:0 ≤ x.level:=hgd.l0
  have a2:x.level ≤ x.bat.cap:=hgd.l1
  have a3 : -1000 ≤ x.temp:=hgd.t0
  have a4:x.temp ≤ 2000:=hgd.t1
  exact ⟨⟨by omega,by omega⟩,⟨by omega,by omega⟩⟩
 have HGT:=Lib.hid (Tf.good hgd.t)
 have hn24:x.buy.l.length ≤ 24:=by omega
 obtain ⟨R,hR⟩:∃ R,R=startsN x.p.loads x.p.n x.p.loads.length:=⟨_,rfl⟩
 have HRL:Hid (R.length ≤ 9409):=by show _ ≤ _; rw [hR]; exact startsN_len2 _ _ (by omega)
 have HRM:Hid (∀ l ∈ R,l.length=x.loads.length∧∀ s ∈ l,0 ≤ s∧s ≤ 96):=by
  intro l hm
  rw [hR] at hm
  obtain ⟨m1,m2⟩:=mem_startsN.1 hm
  refine ⟨by omega,fun s hs => ?_⟩
  rw [List.mem_iff_getElem] at hs
  obtain ⟨i,hi,rfl⟩:=hs
  have h3:=m2 i (by omega)
  rw [show l.getD i 0=l[i] by simp [List.getD,hi]] at h3
  simp only [Ld.fit,Bool.and_eq_true,decide_eq_true_iff] at h3
  have g:=Ld.good h3.1
  have q1:=g.e0; have q2:=g.l1; have q3:=g.n1
  omega
 have HRE:Hid (R=startsN (x.loads.map LdM.r) x.buy.l.length x.loads.length):=by show _=_; rw [hR,hl4]; rfl
 have hso:x.p.sought=x.p.search R:=by unfold Pb.sought; rw [hR]
 rw [hso] at HBR
 simp only [PbM.v]
 obtain ⟨W,hW⟩:∃ W,W=(w.alloc (.cells x.cs 31)).alloc (.cells #[.slice none 0 0,.slice none 0 0,.slice none 0 0] 48):=⟨_,rfl⟩
 simp only [PbM.cs] at hW
 rw [show (w.alloc (.cells x.cs 31)).alloc (.cells PnM.zero.cs 48)=W from hW.symm] at hst0
 have hst:=Lib.hid hst0
 have hWH:=Lib.hid hW
 have HC:=Lib.hid hc
 clear hst0 hW hP0 hck0 hgd hn1 hl4 hl2 hl hbr hul hub hR hso hc hF
 go_enter Tryz.func24,Tryz.ntmps24
 go_upto_region 1 with fail
 rw [← hWH.out]
 clear hWH
 go_wp2_with (refine wpList_load_problem rfl _ rfl w.heap.size rfl x hst.out.p ?_)
 refine (hck.out _ (hst.out.pr hP.out)).mono ?_
 rintro e w1 ⟨rfl,hb1⟩
 have HX1:=Lib.hid (hst.out.below hb1)
 clear hb1 hst
 obtain ⟨c0, -, -, -, -, -,c6, -, -, -, -, -, -,c13, -, -, -,c17, -, -⟩:=PbC.of_blk HX1.out.p
 go_upto_region 9 with fail
 clear c0 c6 c13
 obtain ⟨w2,hw2⟩:∃ v,v=w1.alloc (.cells #[.slice none 0 0,.slice none 0 0,.slice none 0 0] 48):=⟨_,rfl⟩
 obtain ⟨q6,hq6⟩:∃ n,n=w1.heap.size:=⟨_,rfl⟩
 rw [← hw2, ← hq6]
 have hb2:Below w1.heap.size w1 w2:=by rw [hw2]; exact below_al (Below.refl _ _)
 have hk2:Blk w2 q6 48 PnM.zero.cs:=by rw [hw2,hq6]; exact Blk.new _ _ _
 have HQ6:Hid (w.heap.size+2 ≤ q6):=by show _ ≤ _; rw [hq6]; exact HX1.out.lt
 have HX2:=Lib.hid (HX1.out.below hb2)
 have HK2:=Lib.hid hk2
 clear hw2 hq6 hb2 hk2 HX1 c17
 obtain ⟨-, -, -, -, -, -, -, -, -, -, -, -, -, -, -, -, -,c17, -, -⟩:=PbC.of_blk HX2.out.p
 go_wp2_with fail
 refine (HST.out _ (HX2.out.pr hP.out).loads).mono ?_
 rintro e w3 ⟨A1,c1,rows,rfl,hrr,hre,hrc,hb3,hf1,hf2⟩
 have HX3:=Lib.hid (HX2.out.below hb3)
 have HK3:=Lib.hid (HK2.out.below hb3 HK2.out.lt)
 have HRR:=Lib.hid hrr
 have HRC:=Lib.hid hrc
 have hre2:rows.map IntsM.l=R:=by rw [hre,HRE.out]
 have HRE2:=Lib.hid hre2
 have HFR:Hid ((∀ ad,A1=some ad→q6 < ad.block)∧∀ y ∈ rows, ∀ ad,y.A=some ad→q6 < ad.block):=⟨fun ad e => Nat.lt_of_lt_of_le HK2.out.lt (hf1 ad e),fun y hy ad e => Nat.lt_of_lt_of_le HK2.out.lt (hf2 y hy ad e)⟩
 have hrl:rows.length ≤ 9409:=by have h1:=congrArg List.length hre2; rw [List.length_map] at h1; have:=HRL.out; omega
 clear hrr hre hrc hb3 hf1 hf2 hre2 HX2 HK2 c17 HST HRE
 go_wp2_with fail
 go_loopw [49,7] (fun s49 s7 wr => ∃ (j:Nat) (m:PnM),j ≤ rows.length∧s49 = .int .i64 j∧s7 = .int .i64 (x.p.search (R.take j)).1∧Hid (w3.grownBy wr (some q6))∧Hid (Blk wr q6 48 m.cs)∧Hid (RPn wr m)∧Hid (m.Fit∧m.heat.l.length ≤ m.heat.c)∧Hid (m.x=(x.p.search (R.take j)).2)∧Hid (∀ ad,(m.charge.A=some ad ∨ m.heat.A=some ad ∨ m.start.A=some ad)→q6 < ad.block))
  (fun s49 _ _ => rows.length - (intOf s49).toNat)
 case atStart => exact ⟨0,PnM.zero,by omega,rfl,rfl,grown_id _ _,HK3.out,RPn.zero _,⟨PnM.zero_fit,Nat.le_refl _⟩,rfl,(by intro ad h; rcases h with h | h | h <;> cases h)⟩
 case round =>
  obtain ⟨j,m,hj,rfl,rfl,hGB,hKm,hRm,hFm,hMx,hFr⟩:=hrel
  obtain ⟨wo,hwo⟩:∃ wo:World,wo=wr:=⟨_,rfl⟩
  subst hwo
  have hq6:=HQ6.out
  have HXo:Hid (BX x w wo):=⟨HX3.out.p.grown hGB.out (fun e => by injection e with e; omega),HX3.out.r.grown hGB.out (fun e => by injection e with e; omega),HX3.out.bel.grown hGB.out HX3.out.bel.size (fun k e => by injection e with e; omega)⟩
  obtain ⟨lz,hlz⟩:∃ z,z=(x.p.search (R.take j)).1:=⟨_,rfl⟩
  rw [← hlz]
  have HLZ:=Lib.hid hlz
  clear hlz
  by_cases hlt:j < rows.length
  ·obtain ⟨bR,oR,hAR,_,e3⟩:=HRR.out.at' hlt
   have e0:=cell_grown hGB.out e3 (by intro h; injection h with h; have h2:q6 < bR:=HFR.out.1 _ hAR; have h3:bR=q6:=h; omega)
   have HYR:=Lib.hid ((HRR.out.row hlt).other hGB.out (fun ad e h => by injection h with h; have h2:q6 < ad.block:=HFR.out.2 _ (List.getElem_mem hlt) ad e; have h3:ad.block=q6:=h; omega))
   have HYC:=Lib.hid (HRC.out _ (List.getElem_mem hlt))
   have HYF:=Lib.hid (HFR.out.2 _ (List.getElem_mem hlt))
   have hjR:j < R.length:=by have h1:=congrArg List.length HRE2.out; rw [List.length_map] at h1; omega
   have hRj:R[j]=rows[j].l:=by rw [List.getElem_of_eq HRE2.out.symm]; simp
   have HYM:=Lib.hid (HRM.out R[j] (List.getElem_mem hjR))
   have HSU:=Lib.hid (Pb.search_succ (p:=x.p) hjR)
   rw [hRj] at HYM HSU
   have HPK:=Lib.hid (Pb.pick_le (p:=x.p) (R.take j))
   have j1:(0:Int) ≤ (j:Int):=by omega
   have j2:(j:Int) < (rows.length:Int):=by omega
   rw [hAR]
   clear hAR e3 hRj hjR
   generalize rows[j]=y at *
   obtain ⟨-, -, -, -, -, -, -, -, -, -, -, -, -, -, -, -, -,c17, -, -⟩:=PbC.of_blk HXo.out.p
   go_upto_region 12 with fail
   clear e0
   go_cut [10] (fun s10 wx => ∃ (g:Nat) (AU:Option Addr) (cU b:Nat),s10 = .pointer (some ⟨g,0,none⟩)∧Hid (SX wx g ⟨x,⟨AU,cU,usesL x.p.loads y.l x.p.n⟩,b⟩)∧Hid (Memo wx b (x.p.memoF (usesL x.p.loads y.l x.p.n)))∧Hid (Below wo.heap.size wo wx)∧Hid (wo.heap.size ≤ b∧wo.heap.size ≤ g∧b < wx.heap.size∧∀ ad,AU=some ad→wo.heap.size ≤ ad.block))
   case first =>
    have HK12:Hid (∀ W',Below wo.heap.size wo W'→Blk W' w.heap.size 31 x.cs∧W'.cell? ⟨w.heap.size,17,none⟩=some (.slice x.LA x.loads.length x.lc)):=fun W' hb => ⟨HXo.out.p.below hb HXo.out.p.lt,cell_below c17 hb⟩
    have hus:=fun W (hb:Below wo.heap.size wo W) => HUS.out W y.A y.c y.l ((HXo.out.pr hP.out).below hb).loads (HYR.out.below hb) (fun s hs => by have:=HYM.out.2 s hs; omega) (by have:=HYM.out.1; omega) HYC.out
    have HU2:=Lib.hid hus
    clear hus
    have hmm := @run_makeMap Tryz.prog
    refine wp_region_held_drew (S:=(fun w' => Blk w' w.heap.size 31 x.cs∧w'.cell? ⟨w.heap.size,17,none⟩=some (.slice x.LA x.loads.length x.lc))) (by kernel_rfl) (HK12.out _ (Below.drew (Below.refl _ _))) (fun hHeld => ?_)
    refine wpAnyH_take (i:=0) (v := .agg x.cs) rfl (by kernel_rfl) (by kernel_rfl) (by kernel_rfl) (fun _ _ _ h => h) (yieldsIf_load_blk (by rfl) 31 (by kernel_rfl) (by kernel_rfl) _ rfl w.heap.size rfl (fun _ h => h.1)) (by assumption) ?_
    try simp only [jA,jB,Act.put,jD,jE,jF]
    refine tk 1 ?_
    try simp only [jA,jB,jC,Act.put,jD,jE,jF]
    refine tk 2 ?_
    try simp only [jA,jB,jC,Act.put,jD,jE,jF]
    refine tk 3 ?_
    try simp only [jA,jB,jC,Act.put,jD,jE,jF]
    refine tk 4 ?_
    try simp only [jA,jB,jC,Act.put,jD,jE,jF]
    refine wpAnyH_ready (rs := [5,6]) (by kernel_rfl) (by simp) ?_
    refine (AllReadyH.cons rfl (fun K hK => ?_) (AllReadyH.cons rfl (fun K hK => ?_) AllReadyH.nil))
    ·have HKK:=Lib.hid hK
     clear hK
     go_simp
     refine (HU2.out _ (Below.drew (Below.refl _ _))).mono ?_
     rintro e w5 ⟨AU,cU,rfl,hrU,hfU,hb5⟩
     have hB5:=below_tr (Below.drew (Below.refl _ _)) hb5
     go_wp2_with fail
     refine HKK.out _ _ (HK12.out _ hB5) (fun hH2 => ?_)
     clear HKK K
     replace hHeld:=hH2
     clear hH2
     try simp only [jA,jB,jC,Act.put,jD,jE,jF]
     refine wpAnyH_ready (rs := [6]) (by kernel_rfl) (by simp) ?_
     refine (AllReadyH.cons rfl (fun K hK => ?_) AllReadyH.nil)
     have HKK:=Lib.hid hK
     clear hK
     go_simp
     obtain ⟨w6,hw6⟩:∃ v,v=w5.alloc (.map #[] 0):=⟨_,rfl⟩
     obtain ⟨b,hb⟩:∃ n,n=w5.heap.size:=⟨_,rfl⟩
     rw [← hw6, ← hb]
     have hb56:Below w5.heap.size w5 w6:=by rw [hw6]; exact below_al (Below.refl _ _)
     have hB6:=below_tr hB5 hb56
     have hM6:Memo w6 b (x.p.memoF (usesL x.p.loads y.l x.p.n)):=by rw [hw6,hb]; exact Memo.new _ _
     have hbw:wo.heap.size ≤ b:=by rw [hb]; exact hB5.size
     clear hw6 hb
     refine HKK.out _ _ (HK12.out _ hB6) (fun hH2 => ?_)
     clear HKK K
     replace hHeld:=hH2
     clear hH2
     try simp only [jA,jB,jC,Act.put,jD,jE,jF]
     refine wpAnyH_take (i:=7) (v := .agg (SM.cs ⟨x,⟨AU,cU,usesL x.p.loads y.l x.p.n⟩,b⟩)) rfl (by kernel_rfl) (by kernel_rfl) (by kernel_rfl) (fun _ _ _ h => h) (Or.inl ⟨by rfl,?_⟩) (by assumption) ?_
     ·(intro w' hSw; clear hSw; go_simp; simp [PbM.cs,SM.cs]; rfl)
     try simp only [jA,jB,jC,Act.put,jD,jE,jF]
     refine wpAnyH_ready (rs := [8]) (by kernel_rfl) (by simp) ?_
     refine (AllReadyH.cons rfl (fun K hK => ?_) AllReadyH.nil)
     have HKK:=Lib.hid hK
     clear hK
     go_simp
     obtain ⟨w7,hw7⟩:∃ v,v=w6.alloc (.cells (SM.cs ⟨x,⟨AU,cU,usesL x.p.loads y.l x.p.n⟩,b⟩) 85):=⟨_,rfl⟩
     have hb67:Below w6.heap.size w6 w7:=by rw [hw7]; exact below_al (Below.refl _ _)
     have hB7:=below_tr hB6 hb67
     have hSX:SX w7 w6.heap.size ⟨x,⟨AU,cU,usesL x.p.loads y.l x.p.n⟩,b⟩:=⟨by rw [hw7]; exact Blk.new _ _ _,(HXo.out.pr hP.out).below hB7,(hrU.below hb56).below hb67⟩
     have hM7:Memo w7 b (x.p.memoF (usesL x.p.loads y.l x.p.n)):=hM6.below hb67 hM6.lt
     have hbs:wo.heap.size ≤ b:=hbw
     have hgs:wo.heap.size ≤ w6.heap.size:=hB6.size
     have hfs:∀ ad,AU=some ad→wo.heap.size ≤ ad.block:=fun ad e => by have h1:=hfU ad e; have h2:=(Below.drew (Below.refl wo.heap.size wo)).size; first | exact h1 | omega
     rw [← hw7]
     clear hw7
     refine HKK.out _ w7 (HK12.out _ hB7) (fun hH2 => ?_)
     clear HKK K
     replace hHeld:=hH2
     clear hH2
     try simp only [jA,jB,jC,Act.put,jD,jE,jF]
     refine tk 9 ?_
     try simp only [jA,jB,jC,Act.put,jD,jE,jF]
     refine wpAnyH_done (by kernel_rfl) ?_ _
     go_wp2_with fail
     go_meet
     exact ⟨_,AU,cU,b,rfl,hSX,hM7,hB7,hbs,hgs,hM7.lt,hfs⟩
    ·have HKK:=Lib.hid hK
     clear hK
     go_simp
     obtain ⟨w4,hw4⟩:∃ v,v=(wo.alloc (.map #[] 0)).drew:=⟨_,rfl⟩
     obtain ⟨b,hb⟩:∃ n,n=wo.heap.size:=⟨_,rfl⟩
     rw [← hw4, ← hb]
     have hB4:Below wo.heap.size wo w4:=by rw [hw4]; exact Below.drew (below_al (Below.refl _ _))
     have hM4:Memo w4 b (x.p.memoF (usesL x.p.loads y.l x.p.n)):=by rw [hw4,hb]; exact (Memo.new _ _).drew
     have hbw:wo.heap.size ≤ b:=by rw [hb]; exact Nat.le_refl _
     clear hw4 hb
     refine HKK.out _ _ (HK12.out _ hB4) (fun hH2 => ?_)
     clear HKK K
     replace hHeld:=hH2
     clear hH2
     try simp only [jA,jB,jC,Act.put,jD,jE,jF]
     refine wpAnyH_ready (rs := [5]) (by kernel_rfl) (by simp) ?_
     refine (AllReadyH.cons rfl (fun K hK => ?_) AllReadyH.nil)
     have HKK:=Lib.hid hK
     clear hK
     go_simp
     refine (HU2.out _ hB4).mono ?_
     rintro e w5 ⟨AU,cU,rfl,hrU,hfU,hb5⟩
     have hB5:=below_tr hB4 hb5
     go_wp2_with fail
     refine HKK.out _ _ (HK12.out _ hB5) (fun hH2 => ?_)
     clear HKK K
     replace hHeld:=hH2
     clear hH2
     try simp only [jA,jB,jC,Act.put,jD,jE,jF]
     have hM5:=hM4.below hb5 hM4.lt
     refine wpAnyH_take (i:=7) (v := .agg (SM.cs ⟨x,⟨AU,cU,usesL x.p.loads y.l x.p.n⟩,b⟩)) rfl (by kernel_rfl) (by kernel_rfl) (by kernel_rfl) (fun _ _ _ h => h) (Or.inl ⟨by rfl,?_⟩) (by assumption) ?_
     ·(intro w' hSw; clear hSw; go_simp; simp [PbM.cs,SM.cs]; rfl)
     try simp only [jA,jB,jC,Act.put,jD,jE,jF]
     refine wpAnyH_ready (rs := [8]) (by kernel_rfl) (by simp) ?_
     refine (AllReadyH.cons rfl (fun K hK => ?_) AllReadyH.nil)
     have HKK:=Lib.hid hK
     clear hK
     go_simp
     obtain ⟨w7,hw7⟩:∃ v,v=w5.alloc (.cells (SM.cs ⟨x,⟨AU,cU,usesL x.p.loads y.l x.p.n⟩,b⟩) 85):=⟨_,rfl⟩
     have hb67:Below w5.heap.size w5 w7:=by rw [hw7]; exact below_al (Below.refl _ _)
     have hB7:=below_tr hB5 hb67
     have hSX:SX w7 w5.heap.size ⟨x,⟨AU,cU,usesL x.p.loads y.l x.p.n⟩,b⟩:=⟨by rw [hw7]; exact Blk.new _ _ _,(HXo.out.pr hP.out).below hB7,hrU.below hb67⟩
     have hM7:Memo w7 b (x.p.memoF (usesL x.p.loads y.l x.p.n)):=hM5.below hb67 hM5.lt
     have hbs:wo.heap.size ≤ b:=hbw
     have hgs:wo.heap.size ≤ w5.heap.size:=hB5.size
     have hfs:∀ ad,AU=some ad→wo.heap.size ≤ ad.block:=fun ad e => by have h1:=hfU ad e; have h2:=hB4.size; first | exact h1 | omega
     rw [← hw7]
     clear hw7
     refine HKK.out _ w7 (HK12.out _ hB7) (fun hH2 => ?_)
     clear HKK K
     replace hHeld:=hH2
     clear hH2
     try simp only [jA,jB,jC,Act.put,jD,jE,jF]
     refine tk 9 ?_
     try simp only [jA,jB,jC,Act.put,jD,jE,jF]
     refine wpAnyH_done (by kernel_rfl) ?_ _
     go_wp2_with fail
     go_meet
     exact ⟨_,AU,cU,b,rfl,hSX,hM7,hB7,hbs,hgs,hM7.lt,hfs⟩
   case rest =>
    obtain ⟨g,AU,cU,b,rfl,hSX,hMM,hBc,hbb⟩:=hcut
    have HXx:=Lib.hid (HXo.out.below hBc.out)
    obtain ⟨-, -, -, -, -, -, -, -, -, -, -, -, -, -, -, -, -, -,c18,c19⟩:=PbC.of_blk HXx.out.p
    have hn64:=HLV.out
    go_upto_region 14 with fail
    clear c18 c19 c17
    obtain ⟨w8,hw8⟩:∃ v,v=wc.alloc (.cells #[.int .i64 0,.int .i64 x.level,.int .i64 x.temp] 87):=⟨_,rfl⟩
    obtain ⟨gp,hgp⟩:∃ n,n=wc.heap.size:=⟨_,rfl⟩
    rw [← hw8, ← hgp]
    have hb8:Below wc.heap.size wc w8:=by rw [hw8]; exact below_al (Below.refl _ _)
    have hP8:Blk w8 gp 87 #[.int .i64 0,.int .i64 x.level,.int .i64 x.temp]:=by rw [hw8,hgp]; exact Blk.new _ _ _
    have hbo:=below_tr hBc.out hb8
    have hq6o:q6 < wo.heap.size:=hKm.out.lt
    obtain ⟨hbb,hgg,hblt,hAUf⟩:=hbb.out
    have hgpo:wo.heap.size ≤ gp:=by rw [hgp]; exact hBc.out.size
    have hgpb:gp ≠ b:=by omega
    have hw3o:w3.heap.size ≤ wo.heap.size:=hGB.out.size
    have hwo:w.heap.size ≤ wo.heap.size:=HXo.out.bel.size
    have HX8:=Lib.hid (HXo.out.below hbo)
    have HS8:=Lib.hid (hSX.out.below hb8)
    have HM8:=Lib.hid (hMM.out.below hb8 hMM.out.lt)
    have HP8:=Lib.hid hP8
    have HK8:=Lib.hid (hKm.out.below hbo hKm.out.lt)
    have HR8:=Lib.hid (hRm.out.below hbo)
    have HY8:=Lib.hid (HYR.out.below hbo)
    have HG8:=Lib.hid (grown_under hGB.out hbo)
    clear hw8 hgp hb8 hP8 hbo HXx HXo hSX hMM hKm hRm HYR hGB hBc hn64 HUS
    obtain ⟨lvz,hlv⟩:∃ z,z=x.p.leastOf y.l:=⟨_,rfl⟩
    have hco:Calls Tryz.prog 45 #[.pointer (some ⟨g,0,none⟩),.agg #[.int .i64 0,.int .i64 x.level,.int .i64 x.temp]] w8 (CostOut ⟨x,⟨AU,cU,usesL x.p.loads y.l x.p.n⟩,b⟩ lvz w8):=by
     rw [hlv]
     exact cost_any g ⟨x,⟨AU,cU,usesL x.p.loads y.l x.p.n⟩,b⟩ HC.out (HUL.out y.l) (HUB.out y.l) hn24 x.buy.l.length 0 x.level x.temp w8 (by simp) HLV.out.1 HLV.out.2 HS8.out HM8.out
    have HCO:=Lib.hid hco
    have HLE:=Lib.hid hlv
    clear hco hlv
    have p0:=HP8.out.cell 0
    have p1:=HP8.out.cell 1
    have p2:=HP8.out.cell 2
    simp at p0 p1 p2
    go_wp2_with fail
    refine (HCO.out).mono ?_
    rintro e w9 ⟨rfl,hg9,hM9⟩
    clear p0 p1 p2 HCO
    have hIM:=HM8.out.isMap
    have HX9:Hid (BX x w w9):=⟨HX8.out.p.besides hg9 hIM,HX8.out.r.besides hg9 hIM,HX8.out.bel.grown hg9 HX8.out.bel.size (fun k e => by have h:b=k:=Option.some.inj e; omega)⟩
    have HS9:=Lib.hid (HS8.out.besides hg9 hIM)
    have HM9:Hid (Memo w9 b (x.p.memoF (usesL x.p.loads y.l x.p.n))):=hM9
    have HP9:=Lib.hid (HP8.out.besides hg9 hIM)
    have HK9:=Lib.hid (HK8.out.besides hg9 hIM)
    have HR9:Hid (RPn w9 m):=⟨HR8.out.charge.besides hg9 hIM,HR8.out.heat.besides hg9 hIM,HR8.out.start.besides hg9 hIM⟩
    have HY9:=Lib.hid (HY8.out.besides hg9 hIM)
    have HG9:Hid (w3.grownBy w9 (some q6)):=grown_later HG8.out hg9 (fun k e => by have h:b=k:=Option.some.inj e; omega)
    clear hg9 hM9 hIM HX8 HS8 HM8 HP8 HK8 HR8 HY8 HG8
    by_cases hlt2:lvz < lz
    ·have HS2:Hid (x.p.search (R.take (j+1))=(lvz,x.p.planOf y.l)):=by
      show _=_
      rw [HSU.out]
      unfold Pb.pick1
      rw [← HLE.out, ← HLZ.out,if_pos hlt2]
     have HNW:Hid (x.p.leastOf y.l ≠ worstZ):=by
      show _ ≠ _
      have h1:=HPK.out
      rw [← HLZ.out] at h1
      rw [← HLE.out]
      omega
     have z2:=HK9.out.cell 2
     have f2:=HK9.out.frozen 2
     simp [PnM.cs] at z2
     go_upto_region 18 with fail
     clear z2 f2
     obtain ⟨w10,hw10⟩:∃ v,v=w9.setCell ⟨q6,2,none⟩ (.slice y.A y.l.length y.c):=⟨_,rfl⟩
     rw [← hw10]
     have hg10:w9.grownBy w10 (some q6):=by rw [hw10]; exact only_setCell (grown_id _ _) (.inl rfl) _
     have hK10:Blk w10 q6 48 (m.cs.setIfInBounds 2 (.slice y.A y.l.length y.c)):=by rw [hw10]; exact HK9.out.set_ 2 _
     have hM10:Memo w10 b (x.p.memoF (usesL x.p.loads y.l x.p.n)):=by rw [hw10]; exact HM9.out.set (by show b ≠ q6; omega) _
     have hX10:BX x w w10:=⟨HX9.out.p.grown hg10 (fun e => by have h:w.heap.size=q6:=Option.some.inj e; omega),HX9.out.r.grown hg10 (fun e => by have h:w.heap.size+1=q6:=Option.some.inj e; omega),HX9.out.bel.grown hg10 HX9.out.bel.size (fun k e => by have h:q6=k:=Option.some.inj e; omega)⟩
     have hS10:SX w10 g ⟨x,⟨AU,cU,usesL x.p.loads y.l x.p.n⟩,b⟩:=⟨HS9.out.blk.grown hg10 (fun e => by have h:g=q6:=Option.some.inj e; omega),hX10.pr hP.out,HS9.out.us.other hg10 (fun ad e h => by have h1:ad.block=q6:=Option.some.inj h; have h2:=hAUf ad e; omega)⟩
     have hY10:RInts w10 y.A y.l:=HY9.out.other hg10 (fun ad e h => by have h1:ad.block=q6:=Option.some.inj h; have h2:=HYF.out ad e; omega)
     have hP10:Blk w10 gp 87 #[.int .i64 0,.int .i64 x.level,.int .i64 x.temp]:=HP9.out.grown hg10 (fun e => by have h:gp=q6:=Option.some.inj e; omega)
     have hG10:w3.grownBy w10 (some q6):=grown_only HG9.out hg10
     have HX10:=Lib.hid hX10
     have HK10:=Lib.hid hK10
     have HP10:=Lib.hid hP10
     have HY10:=Lib.hid hY10
     have HG10:=Lib.hid hG10
     have HIM:=Lib.hid hM10.isMap
     obtain ⟨ms,hms⟩:∃ z,z=x.p.follow (usesL x.p.loads y.l x.p.n) x.buy.l.length x.level x.temp:=⟨_,rfl⟩
     have hfo:Calls Tryz.prog 46 #[.pointer (some ⟨g,0,none⟩),.agg #[.int .i64 0,.int .i64 x.level,.int .i64 x.temp]] w10 (FollowOut ⟨x,⟨AU,cU,usesL x.p.loads y.l x.p.n⟩,b⟩ ms w10):=by
      rw [hms]
      exact follow_any g ⟨x,⟨AU,cU,usesL x.p.loads y.l x.p.n⟩,b⟩ HC.out (HUL.out y.l) (HUB.out y.l) hn24 x.buy.l.length 0 x.level x.temp w10 (by simp) HLV.out.1 HLV.out.2 hS10 hM10 HNW.out
     have HFO:=Lib.hid hfo
     have HMS:=Lib.hid hms
     have hbz:b < w10.heap.size:=hM10.lt
     clear hw10 hg10 hK10 hM10 hX10 hS10 hY10 hP10 hG10 hms hfo HX9 HS9 HM9 HP9 HK9 HR9 HY9 HG9
     have p0:=HP10.out.cell 0
     have p1:=HP10.out.cell 1
     have p2:=HP10.out.cell 2
     simp at p0 p1 p2
     go_wp2_with fail
     refine (HFO.out).mono ?_
     rintro e w11 ⟨A1f,c1f,A2f,c2f,rfl,hr1,hr2,hc1,hc2,hff,hg11,hM11⟩
     have hIM:=HIM.out
     have hq10:q6 < w10.heap.size:=HK10.out.lt
     have hwz:w.heap.size ≤ w10.heap.size:=HX10.out.bel.size
     have hgB:w.heap.size ≤ b:=by omega
     have HX11:Hid (BX x w w11):=⟨HX10.out.p.besides hg11 hIM,HX10.out.r.besides hg11 hIM,HX10.out.bel.grown hg11 HX10.out.bel.size (fun k e => by have h:b=k:=Option.some.inj e; omega)⟩
     have HK11:=Lib.hid (HK10.out.besides hg11 hIM)
     have HY11:=Lib.hid (HY10.out.besides hg11 hIM)
     have HG11:Hid (w3.grownBy w11 (some q6)):=grown_later HG10.out hg11 (fun k e => by have h:b=k:=Option.some.inj e; omega)
     have HR1:=Lib.hid hr1
     have HR2:=Lib.hid hr2
     have HFF:=Lib.hid hff
     clear p0 p1 p2 HFO HIM hIM hr1 hr2 hff hg11 hM11 HX10 HK10 HP10 HY10 HG10
     have z0:=HK11.out.cell 0
     have z1:=HK11.out.cell 1
     have f0:=HK11.out.frozen 0
     have f1:=HK11.out.frozen 1
     simp [PnM.cs] at z0 z1
     go_wp2_with fail
     clear z0 z1 f0 f1
     obtain ⟨w12,hw12⟩:∃ v,v=(w11.setCell ⟨q6,0,none⟩ (.slice A1f ms.length c1f)).setCell ⟨q6,1,none⟩ (.slice A2f ms.length c2f):=⟨_,rfl⟩
     try rw [← hw12]
     have hg12:w11.grownBy w12 (some q6):=by rw [hw12]; exact only_setCell (g:=q6) (only_setCell (g:=q6) (grown_id _ _) (.inl rfl) _) (.inl rfl) _
     have HK12:Hid (Blk w12 q6 48 (PnM.cs ⟨⟨A1f,c1f,ms.map (·.1)⟩,⟨A2f,c2f,ms.map (·.2)⟩,y⟩)):=by
      show Blk _ _ _ _
      have h1:=(HK11.out.set_ 0 (.slice A1f ms.length c1f)).set_ 1 (.slice A2f ms.length c2f)
      rw [← hw12] at h1
      have h2:((m.cs.setIfInBounds 2 (.slice y.A y.l.length y.c)).setIfInBounds 0 (.slice A1f ms.length c1f)).setIfInBounds 1 (.slice A2f ms.length c2f)=PnM.cs ⟨⟨A1f,c1f,ms.map (·.1)⟩,⟨A2f,c2f,ms.map (·.2)⟩,y⟩:=by simp [PnM.cs]
      rw [h2] at h1
      exact h1
     have HR12:Hid (RPn w12 ⟨⟨A1f,c1f,ms.map (·.1)⟩,⟨A2f,c2f,ms.map (·.2)⟩,y⟩):=⟨HR1.out.other hg12 (fun ad e h => by have h1:ad.block=q6:=Option.some.inj h; have h2:=HFF.out ad (.inl e); omega),HR2.out.other hg12 (fun ad e h => by have h1:ad.block=q6:=Option.some.inj h; have h2:=HFF.out ad (.inr e); omega),HY11.out.other hg12 (fun ad e h => by have h1:ad.block=q6:=Option.some.inj h; have h2:=HYF.out ad e; omega)⟩
     have HG12:Hid (w3.grownBy w12 (some q6)):=grown_only HG11.out hg12
     have HFT:Hid (PnM.Fit ⟨⟨A1f,c1f,ms.map (·.1)⟩,⟨A2f,c2f,ms.map (·.2)⟩,y⟩∧(ms.map (·.2)).length ≤ c2f):=by
      refine ⟨⟨by rw [List.length_map]; exact hc1,HYC.out,fun q hq => by have:=HYM.out.2 q hq; omega,?_⟩,by rw [List.length_map]; exact hc2⟩
      intro q hq
      have hpth:=((Pb.least_spec (p:=x.p) (usesL x.p.loads y.l x.p.n) HGT.out x.buy.l.length hn24 x.level x.temp).2 HNW.out)
      rw [← HMS.out] at hpth
      obtain ⟨mm,hmm,hme⟩:=List.mem_map.1 hq
      have:=Pb.path_charges hpth mm hmm
      omega
     have HXE:Hid (PnM.x ⟨⟨A1f,c1f,ms.map (·.1)⟩,⟨A2f,c2f,ms.map (·.2)⟩,y⟩=(x.p.search (R.take (j+1))).2):=by
      show _=_
      rw [HS2.out,HMS.out]
      rfl
     have HFZ:Hid (∀ ad,(A1f=some ad ∨ A2f=some ad ∨ y.A=some ad)→q6 < ad.block):=by
      intro ad h
      rcases h with h | h | h
      ·have:=HFF.out ad (.inl h); omega
      ·have:=HFF.out ad (.inr h); omega
      ·exact HYF.out ad h
     have HS3:Hid (lvz=(x.p.search (R.take (j+1))).1):=by show _=_; rw [HS2.out]
     clear hw12 hg12 HX11 HK11 HY11 HG11 HR1 HR2 HFF
     go_roundw
     case rel => exact ⟨j+1,⟨⟨A1f,c1f,ms.map (fun q:Int × Int => q.1)⟩,⟨A2f,c2f,ms.map (fun q:Int × Int => q.2)⟩,y⟩,by omega,by go_num,by rw [← HS3.out],HG12.out,HK12.out,HR12.out,HFT.out,HXE.out,HFZ.out⟩
     case measure => simp [intOf]; omega
    ·have HS2:Hid (x.p.search (R.take (j+1))=x.p.search (R.take j)):=by
      show _=_
      rw [HSU.out]
      unfold Pb.pick1
      rw [← HLE.out, ← HLZ.out,if_neg hlt2]
     go_wp2_with fail
     have HS3:Hid (lz=(x.p.search (R.take (j+1))).1):=by show _=_; rw [HS2.out]; exact HLZ.out
     have HXE:Hid (m.x=(x.p.search (R.take (j+1))).2):=by show _=_; rw [HS2.out]; exact hMx.out
     go_roundw
     case rel => exact ⟨j+1,m,by omega,by go_num,by rw [← HS3.out],HG9.out,HK9.out,HR9.out,hFm.out,HXE.out,hFr.out⟩
     case measure => simp [intOf]; omega
  ·have hje:R.take j=R:=by
    have h1:=congrArg List.length HRE2.out
    rw [List.length_map] at h1
    exact List.take_of_length_le (by omega)
   obtain ⟨b1,b2⟩:=HBR.out
   have hs1:=HLZ.out
   have hs2:=hMx.out
   rw [hje] at hs1 hs2
   rw [← hs1] at b2
   have j2:¬ (j:Int) < (rows.length:Int):=by omega
   by_cases hw:lz=worstZ
   ·rw [if_pos hw] at b2
    have b3:x.p.best=PnM.zero.x:=by rw [b1]; exact Pb.search_none (by rw [← hs1]; exact hw)
    have HB2:=Lib.hid b2
    have HB3:=Lib.hid b3
    have e1:(lz == 1152921504606846976)=true:=by rw [beq_iff_eq]; exact hw
    clear b1 b2 b3 hs1 hs2 hje hw
    go_wp2_with (refine wpList_store_blk rfl 48 _ _ rfl (w.heap.size+1) rfl PnM.zero.cs rfl (by kernel_rfl) (PnM.cs_one _) HXo.out.r rfl ?_)
    intro w13 hB3 hg3
    have hb3:Below w.heap.size w w13:=HXo.out.bel.grown hg3 HXo.out.bel.size (fun k e => by injection e with e; omega)
    go_wp2_with fail
    rw [HB2.out,HB3.out]
    exact best_ret (m:=PnM.zero) hB3 (RPn.zero _) PnM.zero_fit (Nat.le_refl _) hb3 rfl rfl
   ·rw [if_neg hw] at b2
    have b3:x.p.best=m.x:=by rw [b1,hs2]
    have HB2:=Lib.hid b2
    have HB3:=Lib.hid b3
    have e1:(lz == 1152921504606846976)=false:=by rw [beq_eq_false_iff_ne]; exact hw
    clear b1 b2 b3 hs1 hs2 hje hw
    go_wp2_with (first | refine wpList_load_plan rfl _ rfl q6 rfl m hKm.out ?_ | refine wpList_store_blk rfl 48 _ _ rfl (w.heap.size+1) rfl m.cs rfl (by kernel_rfl) (PnM.cs_one _) HXo.out.r rfl ?_)
    intro w13 hB3 hg3
    have hb3:Below w.heap.size w w13:=HXo.out.bel.grown hg3 HXo.out.bel.size (fun k e => by injection e with e; omega)
    have hne1:∀ ad,(m.charge.A=some ad ∨ m.heat.A=some ad ∨ m.start.A=some ad)→some ad.block ≠ some (w.heap.size+1):=fun ad e h => by have h1:ad.block=w.heap.size+1:=Option.some.inj h; have h2:=hFr.out ad e; omega
    have hR13:RPn w13 m:=⟨hRm.out.charge.other hg3 (fun ad e => hne1 ad (.inl e)),hRm.out.heat.other hg3 (fun ad e => hne1 ad (.inr (.inl e))),hRm.out.start.other hg3 (fun ad e => hne1 ad (.inr (.inr e)))⟩
    clear hne1
    have HR13:=Lib.hid hR13
    have HB13:=Lib.hid hB3
    have HW13:=Lib.hid hb3
    clear hR13 hB3 hg3 hb3
    go_wp2_with fail
    rw [HB2.out,HB3.out]
    exact best_ret HB13.out HR13.out hFm.out.1 hFm.out.2 HW13.out rfl rfl
end Go.Proofs.YtnppngaabfhkpaaGreat
