/-
  The walks of layer 43 (optimum), part 8: all lists of starts.
-/
import Derived.Test.YtnppngaabfhkpaaGreatECS0
import Derived.Test.YtnppngaabfhkpaaGreatEU6
import Derived.Test.YtnppngaabfhkpaaGreatEPP4
namespace Go.Proofs.YtnppngaabfhkpaaGreat
open Go.RowKit
attribute [local go_sem ↓] Go.wp_at_zero Go.wp_at_succ
def stTo (R:List (List Int)) (S:List Int) (j:Nat):List (List Int):=(R.take j).flatMap fun b => S.map fun s => b ++ [s]
def stMid (R:List (List Int)) (S:List Int) (j q:Nat):List (List Int):=stTo R S j ++ (S.take q).map fun s => (R.getD j []) ++ [s]
theorem stTo_succ {R:List (List Int)} {S:List Int} {j:Nat} (hj:j < R.length):stTo R S (j+1)=stMid R S j S.length:=by
 unfold stMid stTo
 rw [List.take_succ_eq_append_getElem hj,List.flatMap_append,List.take_length]
 simp [List.getD,hj]
theorem stMid_zero (R:List (List Int)) (S:List Int) (j:Nat):stMid R S j 0=stTo R S j:=by simp [stMid]
theorem stMid_succ {R:List (List Int)} {S:List Int} {j q:Nat} (hq:q < S.length):stMid R S j (q+1)=stMid R S j q ++ [(R.getD j []) ++ [S[q]]]:=by
 unfold stMid
 rw [List.take_succ_eq_append_getElem hq,List.map_append, ← List.append_assoc]
 rfl
theorem stTo_len {R:List (List Int)} {S:List Int} {b:Nat} (hS:S.length ≤ b) (j:Nat):(stTo R S j).length ≤ j * b:=by
 induction j with
 | zero => simp [stTo]
 | succ j ih =>
  by_cases hj:j < R.length
  ·rw [stTo_succ hj,stMid,List.length_append,List.length_map,List.take_length,Nat.succ_mul]
   omega
  ·have e:stTo R S (j+1)=stTo R S j:=by
    unfold stTo
    rw [List.take_of_length_le (by omega),List.take_of_length_le (by omega)]
   rw [e,Nat.succ_mul]; omega
theorem stMid_len {R:List (List Int)} {S:List Int} {b:Nat} (hS:S.length ≤ b) (j q:Nat):(stMid R S j q).length ≤ j * b+q:=by
 have:=stTo_len (R:=R) hS j
 unfold stMid
 rw [List.length_append,List.length_map,List.length_take]
 omega
theorem startsN_succ (ls:List Ld) (n:Int) (k:Nat):startsN ls n (k+1)=stTo (startsN ls n k) ((ls.getD k Ld.zero).starts n) (startsN ls n k).length:=by
 unfold stTo
 rw [List.take_length]
 rfl
theorem startsN_len (ls:List Ld) (n:Int) {k:Nat} (hk:k ≤ 1):(startsN ls n k).length ≤ 97:=by
 rcases Nat.le_one_iff_eq_zero_or_eq_one.1 hk with rfl | rfl
 ·simp [startsN]
 ·rw [startsN_succ]
  have:=stTo_len (R:=startsN ls n 0) (starts_len (ls.getD 0 Ld.zero) n) (startsN ls n 0).length
  simp only [startsN,List.length_singleton] at this ⊢
  omega
def RowsOut (R:List (List Int)) (w:World) (e:Ending) (w':World):Prop :=
 ∃ A c rows,e = .returned (.slice A rows.length c)∧RRows w' A rows∧rows.map IntsM.l=R∧(∀ x ∈ rows,x.l.length ≤ x.c)∧Below w.heap.size w w'∧(∀ ad,A=some ad→w.heap.size ≤ ad.block)∧∀ x ∈ rows, ∀ ad,x.A=some ad→w.heap.size ≤ ad.block
set_option maxRecDepth 100000 in
set_option maxHeartbeats 64000000 in
theorem starts_any (A:Option Addr) (c:Nat) (l:List LdM) (n:Int) (w:World) (hA0:RLoads w A l) (hn0:∀ y ∈ l,y.r.name.size ≤ maxLen) (hp0:∀ y ∈ l,y.r.prof.length ≤ maxLen) (hl:l.length ≤ 2) :
  Calls Tryz.prog 43 #[.slice A l.length c,.int .i64 n] w (RowsOut (startsN (l.map LdM.r) n l.length) w):=by
 have hA:=Lib.hid hA0
 have HN:=Lib.hid hn0
 have HPR:=Lib.hid hp0
 have HR0:=Lib.hid (rrows_lit w [⟨none,0, []⟩] 22 (by intro x hx; rw [List.mem_singleton] at hx; subst hx; exact RInts.nil))
 obtain ⟨i0,hi,hz0,hz1,hz2⟩:=info_parts Tryz.infoInt
 obtain ⟨iR,hiR,hzR,hsR,hbR⟩:=info_parts Tryz.infoInts
 clear hA0 hn0 hp0
 go_enter Tryz.func43,Tryz.ntmps43
 go_wp2_with fail
 go_loopw [16,5] (fun s16 s5 wr => ∃ (k:Nat) (A1:Option Addr) (c1:Nat) (rows:List IntsM),k ≤ l.length∧s16 = .int .i64 k∧s5 = .slice A1 rows.length c1∧Hid (RRows wr A1 rows)∧Hid (rows.map IntsM.l=startsN (l.map LdM.r) n k)∧Hid (∀ x ∈ rows,x.l.length ≤ x.c)∧Hid (Below w.heap.size w wr)∧Hid ((∀ ad,A1=some ad→w.heap.size ≤ ad.block)∧∀ x ∈ rows, ∀ ad,x.A=some ad→w.heap.size ≤ ad.block))
  (fun s16 _ _ => l.length - (intOf s16).toNat)
 case atStart => exact ⟨0,_,1, [⟨none,0, []⟩],by omega,rfl,rfl,HR0.out,rfl,by intro x hx; rw [List.mem_singleton] at hx; subst hx; exact Nat.le_refl _,(Below.refl _ _).alloc (Nat.le_refl _) _,⟨by intro ad e; injection e with e; rw [← e]; exact Nat.le_refl _,by intro x hx ad e; rw [List.mem_singleton] at hx; subst hx; cases e⟩⟩
 case round =>
  clear HR0
  obtain ⟨k,A1,c1,rows,hk,rfl,rfl,hRR,hEQ,hCAP,hB,hFR⟩:=hrel
  obtain ⟨wo,hwo⟩:∃ wo:World,wo=wr:=⟨_,rfl⟩
  subst hwo
  by_cases hlt:k < l.length
  ·obtain ⟨b,of,hAe,_,y0,y1,y2,y3⟩:=(hA.out.below hB.out).at' hlt
   have HPF:=Lib.hid ((hA.out.below hB.out).prof hlt)
   have hsn:=startsN_succ (l.map LdM.r) n k
   rw [show (l.map LdM.r).getD k Ld.zero=l[k].r by simp [List.getD,hlt], ← hEQ.out,List.length_map] at hsn
   have HSN:=Lib.hid hsn
   have hst0:=fun W (h:RInts W l[k].A l[k].r.prof) => lstarts_any l[k].r l[k].A l[k].c n W h (HN.out _ (List.getElem_mem hlt)) (HPR.out _ (List.getElem_mem hlt))
   have hsl:=starts_len l[k].r n
   have hrl:rows.length ≤ 97:=by
    have h1:=congrArg List.length hEQ.out
    rw [List.length_map] at h1
    have h2:=startsN_len (l.map LdM.r) n (k:=k) (by omega)
    omega
   simp only [Ld.v] at hst0
   have i1:(0:Int) ≤ (k:Int):=by omega
   have i2:(k:Int) < (l.length:Int):=by omega
   generalize l[k]=X at *
   generalize X.r.starts n=S at *
   have HST:=Lib.hid hst0
   have HSL:=Lib.hid hsl
   rw [hAe]
   clear hAe hsn hst0 hsl
   go_upto_region 6 with fail
   obtain ⟨wM,hwM⟩:∃ v,v=wo.alloc (.cells #[.string X.r.name,.slice X.A X.r.prof.length X.c,.int .i64 X.r.early,.int .i64 X.r.late] 54):=⟨_,rfl⟩
   obtain ⟨lb,hlb⟩:∃ n,n=wo.heap.size:=⟨_,rfl⟩
   rw [← hwM, ← hlb]
   have hbM:Below wo.heap.size wo wM:=by rw [hwM]; exact below_al (Below.refl _ _)
   have hkM:Blk wM lb 54 #[.string X.r.name,.slice X.A X.r.prof.length X.c,.int .i64 X.r.early,.int .i64 X.r.late]:=by rw [hwM,hlb]; exact Blk.new _ _ _
   have HKM:=Lib.hid hkM
   have HPM:=Lib.hid (HPF.out.below hbM)
   have HRM:=Lib.hid (hRR.out.below hbM)
   have HBM:=Lib.hid (hB.out.trans (hbM.mono hB.out.size))
   clear hwM hlb hbM hkM y0 y1 y2 y3 HPF hRR hB
   go_wp2_with fail
   go_loopw [22,8] (fun s22 s8 wr => ∃ (j:Nat) (A2:Option Addr) (c2:Nat) (rs:List IntsM),j ≤ rows.length∧s22 = .int .i64 j∧s8 = .slice A2 rs.length c2∧Hid (Made wr wM.heap.size (.slice A2 rs.length c2) rs)∧Hid (rs.map IntsM.l=stTo (rows.map IntsM.l) S j)∧Hid (∀ x ∈ rs,x.l.length ≤ x.c)∧Hid (Below wM.heap.size wM wr))
    (fun s22 _ _ => rows.length - (intOf s22).toNat)
   case atStart => exact ⟨0,none,0, [],by omega,rfl,rfl,Made.nil _ _,(by show _=_; simp [stTo]),(by intro x hx; simp at hx),Below.refl _ _⟩
   case round =>
    obtain ⟨j,A2,c2,rs,hj,rfl,rfl,hMD,hE2,hC2,hB2⟩:=hrel
    obtain ⟨wi,hwi⟩:∃ wi:World,wi=wr:=⟨_,rfl⟩
    subst hwi
    by_cases hlj:j < rows.length
    ·obtain ⟨bR,oR,hAR,_,e0⟩:=(HRM.out.below hB2.out).at' hlj
     have HROWM:=Lib.hid (HRM.out.row hlj)
     have hS2:=stTo_succ (R:=rows.map IntsM.l) (S:=S) (j:=j) (by rw [List.length_map]; exact hlj)
     have HS2:=Lib.hid hS2
     have HZ:=Lib.hid (stMid_zero (rows.map IntsM.l) S j)
     have hgd:(rows.map IntsM.l).getD j []=rows[j].l:=by simp [List.getD,hlj]
     have HSM:=Lib.hid (fun q (hq:q < S.length) => stMid_succ (R:=rows.map IntsM.l) (j:=j) hq)
     rw [hgd] at HSM
     have hbl:rows[j].l.length ≤ 2:=by
      have h1:rows[j].l ∈ startsN (l.map LdM.r) n k:=by rw [← hEQ.out]; exact List.mem_map.2 ⟨rows[j],List.getElem_mem hlj,rfl⟩
      have:=(mem_startsN.1 h1).1
      omega
     have hkb:=HKM.out.below hB2.out HKM.out.lt
     have z0:=hkb.cell 0
     have z1:=hkb.cell 1
     have z2:=hkb.cell 2
     have z3:=hkb.cell 3
     simp at z0 z1 z2 z3
     have j1:(0:Int) ≤ (j:Int):=by omega
     have j2:(j:Int) < (rows.length:Int):=by omega
     rw [hAR]
     clear hAR hS2 hgd hkb
     generalize rows[j]=B0 at *
     go_wp2_with fail
     refine (HST.out _ (HPM.out.below hB2.out)).mono ?_
     rintro e w9 ⟨AS,cS,rfl,hrS,hfS,hb9⟩
     have HMD9:=Lib.hid (hMD.out.below hb9)
     have HB9:=Lib.hid (below_tr hB2.out hb9)
     have HRS9:=Lib.hid hrS
     have HNE9:Hid (0 < S.length→∀ ad,AS=some ad→some ad.block ≠ (Value.slice A2 rs.length c2).ownBlock∧ad.block < w9.heap.size):=by
      intro hpos ad e
      refine ⟨fun h => ?_,hrS.lt (fun h => by rw [h] at hpos; simp at hpos) ad e⟩
      have h1:=(hMD.out.own.lt _ h.symm).2
      have h2:=hfS ad e
      omega
     have hsl:=HSL.out
     have hRL:(rows.map IntsM.l).length ≤ 97:=by rw [List.length_map]; exact hrl
     rw [← HZ.out] at hE2
     clear z0 z1 z2 z3 e0 hrS hfS hb9 hMD hB2
     go_wp2_with fail
     go_loopw [30,8] (fun s30 s8 wr => ∃ (q:Nat) (A3:Option Addr) (c3:Nat) (r3:List IntsM),q ≤ S.length∧s30 = .int .i64 q∧s8 = .slice A3 r3.length c3∧Hid (Made wr wM.heap.size (.slice A3 r3.length c3) r3)∧Hid (r3.map IntsM.l=stMid (rows.map IntsM.l) S j q)∧Hid (∀ x ∈ r3,x.l.length ≤ x.c)∧Hid (Below wM.heap.size wM wr)∧Hid (RInts wr AS S)∧Hid (0 < S.length→∀ ad,AS=some ad→some ad.block ≠ (Value.slice A3 r3.length c3).ownBlock∧ad.block < wr.heap.size))
      (fun s30 _ _ => S.length - (intOf s30).toNat)
     case atStart => exact ⟨0,A2,c2,rs,by omega,rfl,rfl,HMD9.out,hE2.out,hC2.out,HB9.out,HRS9.out,HNE9.out⟩
     case round =>
      obtain ⟨q,A3,c3,r3,hq,rfl,rfl,hM3,hE3,hC3,hB3,hS3,hN3⟩:=hrel
      obtain ⟨wq,hwq⟩:∃ wq:World,wq=wr:=⟨_,rfl⟩
      subst hwq
      by_cases hlq:q < S.length
      ·obtain ⟨bS,oS,hAS,_,d0⟩:=hS3.out.at' hlq
       have HNQ:=Lib.hid (hN3.out (by omega))
       have hr3:r3.length ≤ j * 97+q:=by
        have h1:=congrArg List.length hE3.out
        rw [List.length_map] at h1
        have h2:=stMid_len (R:=rows.map IntsM.l) hsl j q
        omega
       have HSQ:=Lib.hid (HSM.out q hlq)
       have q1:(0:Int) ≤ (q:Int):=by omega
       have q2:(q:Int) < (S.length:Int):=by omega
       generalize S[q]=sz at *
       have hrb:RInts wq B0.A B0.l:=HROWM.out.below hB3.out
       have hcl:=clone_own B0.A B0.c B0.l wq hrb (by omega)
       have HCL:=Lib.hid hcl
       have hAS2:=hAS
       rw [hAS]
       have HAS:=Lib.hid hAS2
       clear hAS hAS2 hrb hcl
       go_wp2_with fail
       refine HCL.out.mono ?_
       rintro e wc ⟨v0,rfl,hown0,hb0⟩
       obtain ⟨A0,c0,rfl⟩:=own_form hown0
       have HOW0:=Lib.hid hown0
       have HB0:=Lib.hid hb0
       have hszc:wq.heap.size ≤ wc.heap.size:=hb0.size
       clear hown0 hb0 d0
       go_wp2_with (at_builtin; refine wpList_append_newGH _ wc wc.heap.size rfl rfl _ _ 22 rfl wq.heap.size 3 i0 (.int .i64 0) 1 8 Tryz.underlying22 hi hz0 hz1 hz2 rfl (by decide) (by decide) _ B0.l.length (ints B0.l) rfl HOW0.out #[.int .i64 sz] rfl (one_int _ _) rfl rfl (by omega) hszc ?_)
       intro v1 wA hown1 hg1 hv1
       obtain ⟨A4,c4,rfl⟩:=own_form hown1
       have hbA:Below wq.heap.size wq wA:=HB0.out.grown hg1 hszc (fun m hm => (HOW0.out.lt m hm).1)
       have hmq:wM.heap.size ≤ wq.heap.size:=hB3.out.size
       have hqa:wq.heap.size ≤ wA.heap.size:=hbA.size
       have hbase:wM.heap.size ≤ wA.heap.size:=by omega
       have HMA:=Lib.hid (hM3.out.below hbA)
       have HSA:=Lib.hid (hS3.out.below hbA)
       have HBA:=Lib.hid (below_tr hB3.out hbA)
       have HX:Hid (RInts wA A4 (B0.l ++ [sz])):=by
        show RInts _ _ _
        unfold RInts
        rw [List.length_append,ints_append]
        exact Reads.of_own hown1
       have HFR:Hid (∀ ad,A4=some ad→wM.heap.size ≤ ad.block∧some ad.block ≠ (Value.slice A3 r3.length c3).ownBlock∧ad.block < wA.heap.size):=by
        intro ad e
        have h1:=own_fresh hown1 ad e
        refine ⟨by omega,fun h => ?_,?_⟩
        ·have:=(hM3.out.own.lt _ h.symm).2
         omega
        ·subst e
         exact (hown1.lt ad.block (by simp [Value.ownBlock])).2
       have HCP:Hid (B0.l.length+1 ≤ c4):=own_cap hown1
       have HN2:Hid (∀ ad,AS=some ad→some ad.block ≠ (Value.slice A3 r3.length c3).ownBlock∧ad.block < wA.heap.size):=fun ad e => ⟨(HNQ.out ad e).1,Nat.lt_of_lt_of_le (HNQ.out ad e).2 hqa⟩
       clear hown1 hg1 hv1 hbA hM3 hS3 hN3 hB3 HNQ
       go_wp2_with (at_builtin; refine wpList_append_newGH _ wA wA.heap.size rfl rfl _ _ 79 rfl wM.heap.size 22 iR (.slice none 0 0) 1 24 Tryz.underlying79 hiR hzR hsR hbR rfl (by decide) (by decide) _ r3.length (rowCells r3) rfl HMA.out.own #[.slice A4 (B0.l.length+1) c4] rfl (by simp [Value.oneCell']) rfl rfl (by omega) hbase ?_)
       intro v2 wZ hown2 hg2 hv2
       obtain ⟨A5,c5,rfl⟩:=own_form hown2
       have hpush:=HMA.out.push (x:=⟨A4,c4,B0.l ++ [sz]⟩) HX.out HFR.out (by simpa [IntsM.v] using hown2) hg2 hv2
       have HPU:=Lib.hid hpush
       have HSZ:=Lib.hid (HSA.out.other hg2 (fun ad e => (HN2.out ad e).1))
       have HNZ:Hid (∀ ad,AS=some ad→some ad.block ≠ (Value.slice A5 (r3.length+1) c5).ownBlock∧ad.block < wZ.heap.size):=fun ad e => by
        have h1:=HN2.out ad e
        refine ⟨fun h => ?_,Nat.lt_of_lt_of_le h1.2 hg2.size⟩
        rcases hv2 with hv2 | hv2
        ·rw [hv2] at h; exact h1.1 h
        ·rw [hv2] at h; injection h with h; omega
       have HBZ:=Lib.hid (HBA.out.grown hg2 hbase (fun m hm => (HMA.out.own.lt m hm).1))
       clear hown2 hg2 hv2 hpush
       go_wp2_with fail
       go_roundw
       case rel =>
        refine ⟨q+1,A5,c5,r3 ++ [⟨A4,c4,B0.l ++ [sz]⟩],by omega,by go_num,by rw [List.length_append]; rfl,?_,?_,?_,HBZ.out,(by have h:=HSZ.out; rw [HAS.out] at h; exact h),?_⟩
        ·show Made _ _ _ _
         rw [List.length_append]
         exact HPU.out
        ·show _=_
         rw [List.map_append,hE3.out,HSQ.out]
         rfl
        ·intro x hx
         rw [List.mem_append,List.mem_singleton] at hx
         rcases hx with hx | rfl
         ·exact hC3.out x hx
         ·show (B0.l ++ [sz]).length ≤ c4
          rw [List.length_append]
          exact HCP.out
        ·intro _
         rw [List.length_append, ← HAS.out]
         exact HNZ.out
       case measure => simp [intOf]; omega
      ·have hqe:q=S.length:=by omega
       have q2:¬ (q:Int) < (S.length:Int):=by omega
       have HF:Hid (r3.map IntsM.l=stTo (rows.map IntsM.l) S (j+1)):=by show _=_; rw [hE3.out,hqe,HS2.out]
       go_wp2_with fail
       go_roundw
       case rel => exact ⟨j+1,A3,c3,r3,by omega,by go_num,rfl,hM3.out,HF.out,hC3.out,hB3.out⟩
       case measure => simp [intOf]; omega
    ·have hje:j=rows.length:=by omega
     have i3:¬ (j:Int) < (rows.length:Int):=by omega
     have HF:Hid (rs.map IntsM.l=startsN (l.map LdM.r) n (k+1)):=by show _=_; rw [hE2.out,hje,HSN.out]
     obtain ⟨A3,c3,e3,hrr⟩:=hMD.out.rrows
     injection e3 with e31 e32 e33
     subst e31
     have HRR:=Lib.hid hrr
     have HFR2:Hid ((∀ ad,A2=some ad→w.heap.size ≤ ad.block)∧∀ x ∈ rs, ∀ ad,x.A=some ad→w.heap.size ≤ ad.block):=by
      have h0:=HBM.out.size
      exact ⟨fun ad e => Nat.le_trans h0 (own_fresh hMD.out.own ad e),fun x hx ad e => Nat.le_trans h0 ((hMD.out.rows x hx).2 ad e).1⟩
     have HBf:=Lib.hid (HBM.out.trans (hB2.out.mono HBM.out.size))
     clear hrr e32 e33
     go_wp2_with fail
     go_roundw
     case rel => exact ⟨k+1,A2,c2,rs,by omega,by go_num,rfl,HRR.out,HF.out,hC2.out,HBf.out,HFR2.out⟩
     case measure => simp [intOf]; omega
  ·have hke:k=l.length:=by omega
   have i3:¬ (k:Int) < (l.length:Int):=by omega
   have HF:Hid (RowsOut (startsN (l.map LdM.r) n l.length) w (.returned (.slice A1 rows.length c1)) wo):=⟨A1,c1,rows,rfl,hRR.out,by rw [hEQ.out,hke],hCAP.out,hB.out,hFR.out.1,hFR.out.2⟩
   go_wp2_with fail
   go_ret
   exact HF.out
def BestOut (q:Pn) (er:Int) (w:World) (e:Ending) (w':World):Prop :=
 ∃ m:PnM,m.x=q∧e = .returned (.tuple #[m.v,.int .i64 er])∧RPn w' m∧m.Fit∧m.heat.l.length ≤ m.heat.c∧Below w.heap.size w w'
theorem PnM.zero_fit:PnM.zero.Fit:=⟨Nat.le_refl _,Nat.le_refl _,(by simp [PnM.zero]),(by simp [PnM.zero])⟩
theorem PnM.cs_one (y:PnM):y.cs.all (·.oneCell')=true:=by simp [PnM.cs,Value.oneCell']
structure BX (x:PbM) (w wr:World):Prop where
 p:Blk wr w.heap.size 31 x.cs
 r:Blk wr (w.heap.size+1) 48 PnM.zero.cs
 bel:Below w.heap.size w wr
theorem BX.start (x:PbM) (w:World):BX x w ((w.alloc (.cells x.cs 31)).alloc (.cells PnM.zero.cs 48)):=by
 obtain ⟨h1,h2,_,h3⟩:=two_boxes (w:=w) (cs:=x.cs) (t:=31) (cs2:=PnM.zero.cs) (t2:=48) (Below.refl _ _)
 exact ⟨h1,h2,h3⟩
theorem BX.lt {x:PbM} {w wr:World} (h:BX x w wr):w.heap.size+2 ≤ wr.heap.size:=h.r.lt
theorem BX.below {x:PbM} {w wr w1:World} (h:BX x w wr) (hb:Below wr.heap.size wr w1):BX x w w1:=⟨h.p.below hb h.p.lt,h.r.below hb h.r.lt,h.bel.trans (hb.mono h.bel.size)⟩
theorem BX.pr {x:PbM} {w wr:World} (h:BX x w wr) (hP:RPb w x):RPb wr x:=hP.below h.bel
theorem best_ret {tmps:Array Value} {w W:World} {m:PnM} {er:Int} (h:Blk W (w.heap.size+1) 48 m.cs) (hm:RPn W m) (hf:m.Fit) (hh:m.heat.l.length ≤ m.heat.c) (hb:Below w.heap.size w W)
  (h2:tmps.getD 2 undef = .pointer (some ⟨w.heap.size+1,0,none⟩)) (h3:tmps.getD 3 undef = .int .i64 er) :
  bodyPost Tryz.prog Tryz.f24 (BestOut m.x er w) .ret { tmps:=tmps,defers := [] } W:=by
 have hr:=results_cell_tmp (P:=Tryz.prog) (fn:=Tryz.f24) (i:=2) (j:=3) (ty:=48) rfl h2 (run_load_blk (by kernel_rfl) (by kernel_rfl) h)
 refine bodyPost_ret hr rfl ?_
 exact ⟨m,rfl,by rw [h3]; rfl,hm,hf,hh,hb⟩
set_option maxRecDepth 100000 in
set_option maxHeartbeats 64000000 in
theorem best_bad (x:PbM) (w:World) (hP0:RPb w x) (hF:x.Fit) (hbad:x.p.chk ≠ 0 ∨ x.p.lim=false) :
  Calls Tryz.prog 24 #[x.v] w (BestOut x.p.best x.p.bestE w):=by
 have hP:=Lib.hid hP0
 have hck:=Lib.hid (fun W (h:RPb W x) => pcheck_any x W h hF)
 have hst0:=BX.start x w
 simp only [PbM.v]
 obtain ⟨W,hW⟩:∃ W,W=(w.alloc (.cells x.cs 31)).alloc (.cells #[.slice none 0 0,.slice none 0 0,.slice none 0 0] 48):=⟨_,rfl⟩
 simp only [PbM.cs] at hW
 rw [show (w.alloc (.cells x.cs 31)).alloc (.cells PnM.zero.cs 48)=W from hW.symm] at hst0
 have hst:=Lib.hid hst0
 have hWH:=Lib.hid hW
 clear hst0 hW hP0
 by_cases hc:x.p.chk=0
 ·have hl:x.p.lim=false:=hbad.resolve_left (fun e => e hc)
  have e12:=Pb.best_lim hc hl
  rw [e12.1,e12.2]
  rw [hc] at hck
  have hcs:(24 < (x.buy.l.length:Int)) ∨ (¬ 24 < (x.buy.l.length:Int)∧20 < x.bat.cap) ∨ (¬ 24 < (x.buy.l.length:Int)∧¬ 20 < x.bat.cap∧8 < x.steps) ∨ (¬ 24 < (x.buy.l.length:Int)∧¬ 20 < x.bat.cap∧¬ 8 < x.steps∧2 < (x.loads.length:Int)):=by
   simp only [Pb.lim,Bool.and_eq_false_iff,decide_eq_false_iff_not] at hl
   have h1:x.p.n=x.buy.l.length:=rfl
   have h2:x.p.bat.cap=x.bat.cap:=rfl
   have h3:x.p.room.steps=x.steps:=rfl
   have h4:x.p.loads.length=x.loads.length:=by simp [PbM.p]
   omega
  clear hbad hc hl e12
  rcases hcs with g | ⟨g,g2⟩ | ⟨g,g2,g3⟩ | ⟨g,g2,g3,g4⟩
  all_goals
   go_enter Tryz.func24,Tryz.ntmps24
   go_upto_region 1 with fail
   rw [← hWH.out]
   clear hWH
   go_wp2_with (refine wpList_load_problem rfl _ rfl w.heap.size rfl x hst.out.p ?_)
   refine (hck.out _ (hst.out.pr hP.out)).mono ?_
   rintro e w1 ⟨rfl,hb1⟩
   have HX1:=Lib.hid (hst.out.below hb1)
   clear hb1 hst
   obtain ⟨c0, -, -, -, -, -,c6, -, -, -, -, -, -,c13, -, -, -,c17, -, -⟩:=PbC.of_blk HX1.out.p
   go_wp2_with (refine wpList_store_blk rfl 48 _ _ rfl (w.heap.size+1) rfl PnM.zero.cs rfl (by kernel_rfl) (PnM.cs_one _) HX1.out.r rfl ?_)
   intro w3 hB3 hg3
   have hb3:Below w.heap.size w w3:=HX1.out.bel.grown hg3 HX1.out.bel.size (fun k e => by injection e with e; omega)
   clear c0 c6 c13 c17
   go_wp2_with fail
   exact best_ret (m:=PnM.zero) hB3 (RPn.zero _) PnM.zero_fit (Nat.le_refl _) hb3 rfl rfl
 ·have e12:=Pb.best_chk hc
  rw [e12.1,e12.2]
  have hen:(x.p.chk != 0)=true:=by simpa using hc
  clear hbad hc e12
  generalize x.p.chk=ck at *
  go_enter Tryz.func24,Tryz.ntmps24
  go_upto_region 1 with fail
  rw [← hWH.out]
  clear hWH
  go_wp2_with (refine wpList_load_problem rfl _ rfl w.heap.size rfl x hst.out.p ?_)
  refine (hck.out _ (hst.out.pr hP.out)).mono ?_
  rintro e w1 ⟨rfl,hb1⟩
  have HX1:=Lib.hid (hst.out.below hb1)
  clear hb1 hst
  go_wp2_with (refine wpList_store_blk rfl 48 _ _ rfl (w.heap.size+1) rfl PnM.zero.cs rfl (by kernel_rfl) (PnM.cs_one _) HX1.out.r rfl ?_)
  intro w3 hB3 hg3
  have hb3:Below w.heap.size w w3:=HX1.out.bel.grown hg3 HX1.out.bel.size (fun k e => by injection e with e; omega)
  go_wp2_with fail
  exact best_ret (m:=PnM.zero) hB3 (RPn.zero _) PnM.zero_fit (Nat.le_refl _) hb3 rfl rfl
end Go.Proofs.YtnppngaabfhkpaaGreat
