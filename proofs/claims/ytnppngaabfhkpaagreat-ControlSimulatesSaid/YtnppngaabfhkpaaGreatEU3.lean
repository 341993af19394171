/-
  The walks of layer 43 (optimum), part 3: the moves that are possible at a place.
-/
import Derived.Test.YtnppngaabfhkpaaGreatEUW
import Derived.Test.YtnppngaabfhkpaaGreatEB1
import Derived.Test.YtnppngaabfhkpaaGreatET3
namespace Go.Proofs.YtnppngaabfhkpaaGreat
open Go.RowKit
attribute [local go_sem ↓] Go.wp_at_zero Go.wp_at_succ
theorem Tryz.infoMove:(Tryz.prog.info? 114).map (fun i => (i.zero,i.size,i.bytes))=some (some (.agg #[.int .i64 0,.int .i64 0]),2,16):=by kernel_rfl
def mvCells (ms:List (Int × Int)):List Value:=ms.flatMap fun m => [.int .i64 m.1,.int .i64 m.2]
theorem mvCells_push (ms:List (Int × Int)) (m:Int × Int):mvCells (ms ++ [m])=mvCells ms ++ [.int .i64 m.1,.int .i64 m.2]:=by simp [mvCells]
theorem mvCells_get {ms:List (Int × Int)} {k:Nat} (hk:k < ms.length):(mvCells ms)[k * 2]? = some (.int .i64 ms[k].1)∧(mvCells ms)[k * 2+1]? = some (.int .i64 ms[k].2):=by
 induction ms generalizing k with
 | nil => simp at hk
 | cons m ms ih =>
  cases k with
  | zero => simp [mvCells]
  | succ k =>
   have:=ih (k:=k) (by simpa using hk)
   have e:mvCells (m :: ms) = .int .i64 m.1 :: .int .i64 m.2 :: mvCells ms:=rfl
   rw [e,show (k+1) * 2=k * 2+1+1 by omega]
   simpa using this
def RMv (w:World) (A:Option Addr) (ms:List (Int × Int)):Prop:=Reads w w.heap.size 2 A ms.length (mvCells ms)
theorem RMv.at' {w:World} {A:Option Addr} {ms:List (Int × Int)} {k:Nat} (h:RMv w A ms) (hk:k < ms.length):∃ b o,A=some ⟨b,o,none⟩∧b < w.heap.size∧w.cell? ⟨b,o+k * 2,none⟩=some (.int .i64 ms[k].1)∧w.cell? ⟨b,o+k * 2+1,none⟩=some (.int .i64 ms[k].2):=by
 have hn:0 < ms.length:=by omega
 obtain ⟨h1,h2⟩:=h
 obtain ⟨ad,e,hlt,hc⟩:=h2 hn
 obtain ⟨g1,g2⟩:=mvCells_get hk
 have c1:=hc _ _ g1
 have c2:=hc _ _ g2
 have hc0:=hc 0 _ (by have:=(mvCells_get (ms:=ms) (k:=0) hn).1; rw [Nat.zero_mul] at this; exact this)
 obtain ⟨b,o,sp⟩:=ad
 have hsp:sp=none:=by
  cases sp with
  | none => rfl
  | some x =>
   simp only [Addr.add,if_pos,World.cell?] at hc0
   split at hc0 <;> simp at hc0
 subst hsp
 refine ⟨b,o,e,hlt,?_,?_⟩
 ·rw [addr_add] at c1; exact c1
 ·rw [addr_add] at c2; rw [Nat.add_assoc]; exact c2
def MovesOut (ms:List (Int × Int)) (w:World) (e:Ending) (w':World):Prop := ∃ A c,e = .returned (.slice A ms.length c)∧RMv w' A ms∧Below w.heap.size w w'
def mvTo (C H:List Int) (j:Nat):List (Int × Int):=(C.take j).flatMap fun c => H.map fun h => (c,h)
def mvMid (C H:List Int) (j k:Nat):List (Int × Int):=mvTo C H j ++ (H.take k).map fun h => (C.getD j 0,h)
theorem mvTo_succ {C H:List Int} {j:Nat} (hj:j < C.length):mvTo C H (j+1)=mvMid C H j H.length:=by
 unfold mvMid mvTo
 rw [List.take_succ_eq_append_getElem hj,List.flatMap_append,List.take_length]
 simp [List.getD,hj]
theorem mvMid_zero (C H:List Int) (j:Nat):mvMid C H j 0=mvTo C H j:=by simp [mvMid]
theorem mvMid_succ {C H:List Int} {j k:Nat} (hk:k < H.length):mvMid C H j (k+1)=mvMid C H j k ++ [(C.getD j 0,H[k])]:=by
 unfold mvMid
 rw [List.take_succ_eq_append_getElem hk,List.map_append, ← List.append_assoc]
 rfl
theorem mvTo_len {C H:List Int} {b:Nat} (hH:H.length ≤ b) (j:Nat):(mvTo C H j).length ≤ j * b:=by
 induction j with
 | zero => simp [mvTo]
 | succ j ih =>
  by_cases hj:j < C.length
  ·rw [mvTo_succ hj,mvMid,List.length_append,List.length_map,List.take_length,Nat.succ_mul]
   omega
  ·have e:mvTo C H (j+1)=mvTo C H j:=by
    unfold mvTo
    rw [List.take_of_length_le (by omega),List.take_of_length_le (by omega)]
   rw [e,Nat.succ_mul]; omega
theorem mvMid_len {C H:List Int} {b:Nat} (hH:H.length ≤ b) (j k:Nat):(mvMid C H j k).length ≤ j * b+k:=by
 have:=mvTo_len (C:=C) hH j
 unfold mvMid
 rw [List.length_append,List.length_map,List.length_take]
 omega
set_option maxRecDepth 100000 in
set_option maxHeartbeats 64000000 in
theorem moves_any (g:Nat) (s:SM) (i:Nat) (lv tm:Int) (w:World) (hX0:SX w g s) (hck:s.x.p.chk=0) (hi:i < s.x.buy.l.length) :
  Calls Tryz.prog 71 #[.pointer (some ⟨g,0,none⟩),placeV i lv tm] w (MovesOut (s.x.p.moves i lv tm) w):=by
 have hX:=Lib.hid hX0
 have hgd:=Pb.good hck
 obtain ⟨e1,e2,e3⟩:=hgd.lens
 have hn96:s.x.buy.l.length ≤ 96:=(Pb.nbd hgd).2
 have hso:i < s.x.outside.l.length:=by have:s.x.outside.l.length=s.x.buy.l.length:=e3; omega
 have hst:=Rm.good (Pb.room_ok hgd).1
 have hrv:=(Pb.room_ok hgd).2.2.2
 have hc1:=Lib.hid (fun W (q:RPb W s.x) => tchoices_any s.x.room s.x.low.A s.x.high.A s.x.low.c s.x.high.c i tm (s.x.outside.l.getD i 0) W q.low q.high)
 have hc2:=Lib.hid (fun W => choices_any s.x.bat lv W)
 have hmv:s.x.p.moves i lv tm=mvTo (choicesZ s.x.bat lv) (s.x.room.valid.choices i tm (s.x.outside.l.getD i 0)) (choicesZ s.x.bat lv).length:=by
  unfold mvTo
  rw [List.take_length]
  rfl
 have hHL:(s.x.room.valid.choices i tm (s.x.outside.l.getD i 0)).length ≤ 41:=by
  unfold Rm.choices
  refine Nat.le_trans (List.length_filter_le _ _) ?_
  rw [upto_length,show s.x.room.valid=s.x.room from hrv]
  have h1:s.x.room.steps ≤ 40:=hst.s1
  omega
 have hCL:=choicesZ_length s.x.bat lv
 have hO0:∀ W,RPb W s.x→∃ b o,s.x.outside.A=some ⟨b,o,none⟩∧W.cell? ⟨b,o+i,none⟩=some (.int .i64 (s.x.outside.l.getD i 0)):=fun W q => by
  obtain ⟨b,o,h1,_,h2⟩:=q.outside.at' hso
  exact ⟨b,o,h1,by rw [h2,getD_eq hso]⟩
 rw [hmv]
 clear hmv
 generalize s.x.room.valid.choices i tm (s.x.outside.l.getD i 0)=H at *
 generalize choicesZ s.x.bat lv=C at *
 generalize s.x.outside.l.getD i 0=oz at *
 have hO:=Lib.hid hO0
 have i1:(0:Int) ≤ (i:Int):=by omega
 have i4:(i:Int) < (s.x.outside.l.length:Int):=by omega
 have HHL:=Lib.hid hHL
 have HCL:=Lib.hid hCL
 unfold placeV
 obtain ⟨W,hW⟩:∃ W,W=w.alloc (.cells #[.int .i64 i,.int .i64 lv,.int .i64 tm] 87):=⟨_,rfl⟩
 have hbW:Below w.heap.size w W:=by rw [hW]; exact below_al (Below.refl _ _)
 have hblk:Blk W w.heap.size 87 #[.int .i64 i,.int .i64 lv,.int .i64 tm]:=by rw [hW]; exact Blk.new _ _ _
 have HXW:=Lib.hid (hX.out.below hbW)
 have HBW:=Lib.hid hbW
 have HPL:=Lib.hid hblk
 have hWH:=Lib.hid hW
 clear hX0 hX hbW hblk hW hgd e1 e2 e3 hn96 hso hst hrv hHL hCL hO0 hck
 go_enter Tryz.func71,Tryz.ntmps71
 go_upto_region 2 with fail
 rw [← hWH.out]
 clear hWH
 obtain ⟨bo,oo,hAo,eo⟩:=hO.out _ HXW.out.pr
 have k5:=HXW.out.blk.cell 5
 have k11:=HXW.out.blk.cell 11
 have k12:=HXW.out.blk.cell 12
 have k13:=HXW.out.blk.cell 13
 have k14:=HXW.out.blk.cell 14
 have k15:=HXW.out.blk.cell 15
 have k16:=HXW.out.blk.cell 16
 have p0:=HPL.out.cell 0
 have p2:=HPL.out.cell 2
 simp [SM.cs] at k5 k11 k12 k13 k14 k15 k16 p0 p2
 rw [hAo] at k5
 refine wp_region_held_drew (S:=(fun w' => Below W.heap.size W w'∧w'.cell? ⟨g,5,none⟩=some (.slice (some ⟨bo,oo,none⟩) s.x.outside.l.length s.x.outside.c)∧w'.cell? ⟨g,11,none⟩=some (.int .i64 s.x.gain)∧w'.cell? ⟨g,12,none⟩=some (.int .i64 s.x.loss)∧w'.cell? ⟨g,13,none⟩=some (.int .i64 s.x.steps)∧w'.cell? ⟨g,14,none⟩=some (.int .i64 s.x.power)∧w'.cell? ⟨g,15,none⟩=some (.slice s.x.low.A s.x.low.l.length s.x.low.c)∧w'.cell? ⟨g,16,none⟩=some (.slice s.x.high.A s.x.high.l.length s.x.high.c)∧w'.cell? ⟨w.heap.size,0,none⟩=some (.int .i64 i)∧w'.cell? ⟨w.heap.size,2,none⟩=some (.int .i64 tm)∧w'.cell? ⟨bo,oo+i,none⟩=some (.int .i64 oz))) (by kernel_rfl) (⟨(Below.drew (Below.refl _ _)),k5,k11,k12,k13,k14,k15,k16,p0,p2,eo⟩) (fun hHeld => ?_)
 refine tk 0 ?_
 try simp only [jA,jB,Act.put,jD,jE,jF]
 refine tk 1 ?_
 try simp only [jA,jB,jC,Act.put,jD,jE,jF]
 refine tk 2 ?_
 try simp only [jA,jB,jC,Act.put,jD,jE,jF]
 refine tk 3 ?_
 try simp only [jA,jB,jC,Act.put,jD,jE,jF]
 refine tk 4 ?_
 try simp only [jA,jB,jC,Act.put,jD,jE,jF]
 refine tk 5 ?_
 try simp only [jA,jB,jC,Act.put,jD,jE,jF]
 refine tk 6 ?_
 try simp only [jA,jB,jC,Act.put,jD,jE,jF]
 refine tk 7 ?_
 try simp only [jA,jB,jC,Act.put,jD,jE,jF]
 refine tk 8 ?_
 try simp only [jA,jB,jC,Act.put,jD,jE,jF]
 refine tk 9 ?_
 try simp only [jA,jB,jC,Act.put,jD,jE,jF]
 refine tk 10 ?_
 try simp only [jA,jB,jC,Act.put,jD,jE,jF]
 refine tk 11 ?_
 try simp only [jA,jB,jC,Act.put,jD,jE,jF]
 refine tk 12 ?_
 try simp only [jA,jB,jC,Act.put,jD,jE,jF]
 refine tk 13 ?_
 try simp only [jA,jB,jC,Act.put,jD,jE,jF]
 refine tk 14 ?_
 try simp only [jA,jB,jC,Act.put,jD,jE,jF]
 refine tk 15 ?_
 try simp only [jA,jB,jC,Act.put,jD,jE,jF]
 refine tk 16 ?_
 try simp only [jA,jB,jC,Act.put,jD,jE,jF]
 refine tk 17 ?_
 try simp only [jA,jB,jC,Act.put,jD,jE,jF]
 refine wpAnyH_ready (rs := [18]) (by kernel_rfl) (by simp) ?_
 refine AllReadyH.cons rfl (fun K hK => ?_) AllReadyH.nil
 have HKK:=Lib.hid hK
 clear hK
 go_simp
 refine (hc1.out _ (HXW.out.pr.below hHeld.1)).mono ?_
 rintro e' w1 ⟨A1,c1,rfl,hr1,hf1,hbw1⟩
 have hBw1:=below_tr hHeld.1 hbw1
 go_wp2_with fail
 refine HKK.out _ _ (⟨hBw1,cell_below k5 hBw1,cell_below k11 hBw1,cell_below k12 hBw1,cell_below k13 hBw1,cell_below k14 hBw1,cell_below k15 hBw1,cell_below k16 hBw1,cell_below p0 hBw1,cell_below p2 hBw1,cell_below eo hBw1⟩) (fun hH2 => ?_)
 clear HKK K
 replace hHeld:=hH2
 clear hH2
 try simp only [jA,jB,jC,Act.put,jD,jE,jF]
 refine tk 19 ?_
 try simp only [jA,jB,jC,Act.put,jD,jE,jF]
 refine wpAnyH_done (by kernel_rfl) ?_ _
 have HX1:=Lib.hid (HXW.out.below hBw1)
 have HP1:=Lib.hid (HPL.out.below hBw1 HPL.out.lt)
 have HB1:=Lib.hid (HBW.out.trans (hBw1.mono HBW.out.size))
 have HR1:=Lib.hid hr1
 clear hHeld hBw1 hbw1 hr1 hf1 HXW HPL HBW hAo eo k5 k11 k12 k13 k14 k15 k16 p0 p2
 go_upto_region 3 with fail
 have k6:=HX1.out.blk.cell 6
 have k7:=HX1.out.blk.cell 7
 have k8:=HX1.out.blk.cell 8
 have k9:=HX1.out.blk.cell 9
 have k10:=HX1.out.blk.cell 10
 have p1:=HP1.out.cell 1
 simp [SM.cs] at k6 k7 k8 k9 k10 p1
 refine wp_region_held_drew (S:=(fun w' => Below w1.heap.size w1 w'∧w'.cell? ⟨g,6,none⟩=some (.int .i64 s.x.bat.cap)∧w'.cell? ⟨g,7,none⟩=some (.int .i64 s.x.bat.reserve)∧w'.cell? ⟨g,8,none⟩=some (.int .i64 s.x.bat.charge)∧w'.cell? ⟨g,9,none⟩=some (.int .i64 s.x.bat.discharge)∧w'.cell? ⟨g,10,none⟩=some (.int .i64 s.x.bat.eff)∧w'.cell? ⟨w.heap.size,1,none⟩=some (.int .i64 lv))) (by kernel_rfl) (⟨(Below.drew (Below.refl _ _)),k6,k7,k8,k9,k10,p1⟩) (fun hHeld => ?_)
 refine tk 0 ?_
 try simp only [jA,jB,Act.put,jD,jE,jF]
 refine tk 1 ?_
 try simp only [jA,jB,jC,Act.put,jD,jE,jF]
 refine tk 2 ?_
 try simp only [jA,jB,jC,Act.put,jD,jE,jF]
 refine tk 3 ?_
 try simp only [jA,jB,jC,Act.put,jD,jE,jF]
 refine tk 4 ?_
 try simp only [jA,jB,jC,Act.put,jD,jE,jF]
 refine tk 5 ?_
 try simp only [jA,jB,jC,Act.put,jD,jE,jF]
 refine tk 6 ?_
 try simp only [jA,jB,jC,Act.put,jD,jE,jF]
 refine tk 9 ?_
 try simp only [jA,jB,jC,Act.put,jD,jE,jF]
 refine wpAnyH_ready (rs := [7]) (by kernel_rfl) (by simp) ?_
 refine AllReadyH.cons rfl (fun K hK => ?_) AllReadyH.nil
 have HKK:=Lib.hid hK
 clear hK
 go_simp
 refine (hc2.out _).mono ?_
 rintro e' w2 ⟨A2,c2,rfl,hr2,hf2,hbw2⟩
 have hBw2:=below_tr hHeld.1 hbw2
 go_wp2_with fail
 refine HKK.out _ _ (⟨hBw2,cell_below k6 hBw2,cell_below k7 hBw2,cell_below k8 hBw2,cell_below k9 hBw2,cell_below k10 hBw2,cell_below p1 hBw2⟩) (fun hH2 => ?_)
 clear HKK K
 replace hHeld:=hH2
 clear hH2
 try simp only [jA,jB,jC,Act.put,jD,jE,jF]
 refine tk 8 ?_
 try simp only [jA,jB,jC,Act.put,jD,jE,jF]
 refine wpAnyH_done (by kernel_rfl) ?_ _
 have HR1b:=Lib.hid (HR1.out.below hBw2)
 have HB2:=Lib.hid (HB1.out.trans (hBw2.mono HB1.out.size))
 have HR2:=Lib.hid hr2
 clear hHeld hBw2 hbw2 hr2 hf2 HX1 HP1 HB1 HR1 k6 k7 k8 k9 k10 p1
 obtain ⟨iM,hiM,hzM,hsM,hbM⟩:=info_parts Tryz.infoMove
 go_wp2_with fail
 have HW0:Hid (w2.ownsRow w2.heap.size 114 2 (.slice none 0 0) (mvTo C H 0).length (mvCells (mvTo C H 0))):=World.ownsRow_nil _ _ _ _
 go_loopw [39,5] (fun s39 s5 wr => ∃ (j:Nat) (A:Option Addr) (c:Nat),j ≤ C.length∧s39 = .int .i64 j∧s5 = .slice A (mvTo C H j).length c∧Hid (wr.ownsRow w2.heap.size 114 2 (.slice A (mvTo C H j).length c) (mvTo C H j).length (mvCells (mvTo C H j)))∧Hid (Below w2.heap.size w2 wr))
  (fun s39 _ _ => C.length - (intOf s39).toNat)
 case atStart => exact ⟨0,none,0,by omega,rfl,rfl,HW0,Below.refl _ _⟩
 case round =>
  clear HW0
  obtain ⟨j,A,c,hj,rfl,rfl,hown,hB⟩:=hrel
  obtain ⟨wo,hwo⟩:∃ wo:World,wo=wr:=⟨_,rfl⟩
  subst hwo
  by_cases hlt:j < C.length
  ·obtain ⟨b2,o2,hA2,_,d2⟩:=(HR2.out.below hB.out).at' hlt
   rw [getD_eq hlt] at d2
   obtain ⟨cz,hcz⟩:∃ z,z=C.getD j 0:=⟨_,rfl⟩
   rw [← hcz] at d2
   have HCZ:=Lib.hid hcz
   clear hcz
   have hcl:=HCL.out
   have i2:(0:Int) ≤ (j:Int):=by omega
   have i3:(j:Int) < (C.length:Int):=by omega
   have HSJ:=Lib.hid (mvTo_succ (H:=H) hlt)
   have HMZ:=Lib.hid (mvMid_zero C H j)
   rw [hA2]
   clear hA2
   rw [← mvMid_zero C H j] at hown ⊢
   go_wp2_with fail
   go_loopw [45,5] (fun s45 s5 wr => ∃ (k:Nat) (A':Option Addr) (c':Nat),k ≤ H.length∧s45 = .int .i64 k∧s5 = .slice A' (mvMid C H j k).length c'∧Hid (wr.ownsRow w2.heap.size 114 2 (.slice A' (mvMid C H j k).length c') (mvMid C H j k).length (mvCells (mvMid C H j k)))∧Hid (Below w2.heap.size w2 wr))
    (fun s45 _ _ => H.length - (intOf s45).toNat)
   case atStart => exact ⟨0,A,c,by omega,rfl,rfl,hown,hB⟩
   case round =>
    obtain ⟨k,A',c',hk,rfl,rfl,hownk,hBk⟩:=hrel
    obtain ⟨wi,hwi⟩:∃ wi:World,wi=wr:=⟨_,rfl⟩
    subst hwi
    by_cases hkl:k < H.length
    ·obtain ⟨b1,o1,hA1,_,d1⟩:=(HR1b.out.below hBk.out).at' hkl
     have hhl:=HHL.out
     have HML:=Lib.hid (mvMid_len (C:=C) hhl j k)
     have hml:=HML.out
     have j2:(0:Int) ≤ (k:Int):=by omega
     have j3:(k:Int) < (H.length:Int):=by omega
     have hsk:=mvMid_succ (C:=C) (j:=j) hkl
     rw [← HCZ.out] at hsk
     have HSK:=Lib.hid hsk
     clear hsk
     rw [hA1]
     clear hA1
     have HBS:Hid (w2.heap.size ≤ wi.heap.size):=hBk.out.size
     generalize mvMid C H j k=L at *
     generalize H[k]=hz at *
     go_wp2_with (at_builtin; refine wpList_append_newGH _ wi wi.heap.size rfl rfl _ _ 111 rfl w2.heap.size 114 iM (.agg #[.int .i64 0,.int .i64 0]) 2 16 Tryz.underlying111 hiM hzM hsM hbM rfl (by decide) (by decide) _ L.length (mvCells L) rfl hownk.out #[.int .i64 cz,.int .i64 hz] rfl (by simp [Value.oneCell']) rfl rfl (by omega) HBS.out ?_)
     intro v' w' hown' hg' hv'
     obtain ⟨A4,c4,rfl⟩:=own_form hown'
     have HO4:Hid (w'.ownsRow w2.heap.size 114 2 (.slice A4 (L.length+1) c4) (L.length+1) (mvCells (L ++ [(cz,hz)]))):=by
      show World.ownsRow _ _ _ _ _ _ _
      rw [mvCells_push]
      exact hown'
     have HB4:=Lib.hid (hBk.out.grown hg' hBk.out.size (fun m hm => (hownk.out.lt m hm).1))
     clear hown' hg' hv'
     go_wp2_with fail
     go_roundw
     case rel => exact ⟨k+1,A4,c4,by omega,by go_num,by rw [HSK.out,List.length_append]; rfl,by rw [HSK.out,List.length_append]; exact HO4,HB4⟩
     case measure => simp [intOf]; omega
    ·have hke:k=H.length:=by omega
     have j3:¬ (k:Int) < (H.length:Int):=by omega
     have HE:Hid (mvMid C H j k=mvTo C H (j+1)):=by show _=_; rw [hke,HSJ.out]
     have hhl:=HHL.out
     go_wp2_with fail
     go_roundw
     case rel => exact ⟨j+1,A',c',by omega,by go_num,by rw [HE.out],by rw [← HE.out]; exact hownk,hBk⟩
     case measure => simp [intOf]; omega
  ·have hjl:j=C.length:=by omega
   subst hjl
   have i3:¬ (C.length:Int) < (C.length:Int):=by omega
   have HMO:Hid (MovesOut (mvTo C H C.length) w (.returned (.slice A (mvTo C H C.length).length c)) wo):=⟨A,c,rfl,Reads.of_own hown.out,HB2.out.trans (hB.out.mono HB2.out.size)⟩
   go_wp2_with fail
   go_ret
   exact HMO.out
def IsMapB (w:World) (b:Nat):Prop := ∃ es clock,w.heap[b]? = some (.map es clock)
theorem Memo.isMap {w:World} {b:Nat} {F:Int→Int→Int→Int} (h:Memo w b F):IsMapB w b:=by
 obtain ⟨es,clock,h1,_⟩:=h
 exact ⟨es,clock,h1⟩
theorem cell_ne_map {w:World} {b:Nat} (h:IsMapB w b) {p:Addr} {v:Value} (hc:w.cell? p=some v):p.block ≠ b:=by
 intro e
 obtain ⟨es,clock,h1⟩:=h
 unfold World.cell? at hc
 rw [e,h1] at hc
 cases hc
theorem Blk.ne_map {w:World} {b g:Nat} {t:TypeId} {cs:Array Value} (h:Blk w g t cs) (hm:IsMapB w b):g ≠ b:=by
 rintro rfl
 obtain ⟨es,clock,h1⟩:=hm
 unfold Blk at h
 rw [h] at h1
 cases h1
theorem cell_besides {w w':World} {b:Nat} (hg:w.grownBy w' (some b)) (hm:IsMapB w b) {p:Addr} {v:Value} (hc:w.cell? p=some v):w'.cell? p=some v:=by
 have hne:=cell_ne_map hm hc
 have hlt:=World.block_lt_of_cell? _ _ hc
 rw [World.cell?_of_block (w:=w) (hg.block p.block hlt (fun e => hne (by injection e)))]
 exact hc
theorem Reads.besides {w w':World} {b B B' size n:Nat} {A:Option Addr} {xs:List Value} (h:Reads w B size A n xs) (hg:w.grownBy w' (some b)) (hm:IsMapB w b) (hB:B ≤ B'):Reads w' B' size A n xs:=by
 obtain ⟨h1,h2⟩:=h
 refine ⟨h1,fun hn => ?_⟩
 obtain ⟨ad,e,hlt,hc⟩:=h2 hn
 exact ⟨ad,e,Nat.lt_of_lt_of_le hlt hB,fun j u hu => cell_besides hg hm (hc j u hu)⟩
theorem RInts.besides {w w':World} {b:Nat} {A:Option Addr} {l:List Int} (h:RInts w A l) (hg:w.grownBy w' (some b)) (hm:IsMapB w b):RInts w' A l:=Reads.besides h hg hm hg.size
theorem RMv.besides {w w':World} {b:Nat} {A:Option Addr} {l:List (Int × Int)} (h:RMv w A l) (hg:w.grownBy w' (some b)) (hm:IsMapB w b):RMv w' A l:=Reads.besides h hg hm hg.size
theorem RLoads.besides {w w':World} {b:Nat} {A:Option Addr} {l:List LdM} (h:RLoads w A l) (hg:w.grownBy w' (some b)) (hm:IsMapB w b):RLoads w' A l:=⟨Reads.besides h.cells hg hm hg.size,fun x hx => (h.profs x hx).besides hg hm⟩
theorem RPb.besides {w w':World} {b:Nat} {x:PbM} (h:RPb w x) (hg:w.grownBy w' (some b)) (hm:IsMapB w b):RPb w' x :=
 ⟨h.buy.besides hg hm,h.sell.besides hg hm,h.solar.besides hg hm,h.demand.besides hg hm,h.outside.besides hg hm,h.low.besides hg hm,h.high.besides hg hm,h.loads.besides hg hm⟩
theorem Blk.besides {w w':World} {b g:Nat} {t:TypeId} {cs:Array Value} (h:Blk w g t cs) (hg:w.grownBy w' (some b)) (hm:IsMapB w b):Blk w' g t cs:=h.grown hg (fun e => h.ne_map hm (by injection e))
theorem SX.besides {w w':World} {b g:Nat} {s:SM} (h:SX w g s) (hg:w.grownBy w' (some b)) (hm:IsMapB w b):SX w' g s:=⟨h.blk.besides hg hm,h.pr.besides hg hm,h.us.besides hg hm⟩
theorem grown_id (w:World) (r:Option Nat):w.grownBy w r:=⟨rfl,rfl,rfl,Nat.le_refl _,fun _ _ _ => rfl⟩
theorem grown_under {a w w':World} {r:Option Nat} (h:a.grownBy w r) (hb:Below w.heap.size w w'):a.grownBy w' r :=
 ⟨hb.os.trans h.os,hb.tape.trans h.tape,hb.output.trans h.output,Nat.le_trans h.size hb.size,fun k hk hne => (hb.block k (Nat.lt_of_lt_of_le hk h.size)).trans (h.block k hk hne)⟩
theorem grown_of_below {w w':World} (hb:Below w.heap.size w w') (r:Option Nat):w.grownBy w' r:=grown_under (grown_id w r) hb
theorem Pb.move_in {p:Pb} {U:List Int} {i:Nat} {lv tm c h:Int} {x:Int × Int × Int} (g:p.Good) (hm:p.move U i lv tm c h=some x):in64 x.1∧in64 x.2.1:=by
 unfold Pb.move at hm
 by_cases h1:(stepZ p.bat lv c).2.2 ≠ 0
 ·rw [if_pos h1] at hm; cases hm
 ·rw [if_neg h1] at hm
  split at hm
  ·split at hm
   ·injection hm with hm
    subst hm
    have h2:=step_ok_bd (b:=p.bat) (l:=lv) (c:=c) (by simpa using h1)
    have h3:=(Pb.bat_good g).2.cap1
    have h4:=stepT_bd p.room.valid.gain p.room.valid.loss p.room.valid.steps tm (p.outside.getD i 0) h
    unfold in64
    refine ⟨by omega,?_⟩
    show -9223372036854775808 ≤ stepT _ _ _ _ _ _∧stepT _ _ _ _ _ _ ≤ _
    omega
   ·cases hm
  ·cases hm
def Pb.memoF (p:Pb) (U:List Int) (i l t:Int):Int:=p.least U (p.n - i.toNat) l t
end Go.Proofs.YtnppngaabfhkpaaGreat
