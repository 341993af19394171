/-
  The walks of layer 43 (optimum), part 6: words on two rows in the making.
-/
import Derived.Test.YtnppngaabfhkpaaGreatEU5
namespace Go.Proofs.YtnppngaabfhkpaaGreat
open Go.RowKit
def Own2 (W:World) (B:Nat) (v1 v2:Value) (l1 l2:List Int):Prop :=
 W.ownsRow B 3 1 v1 l1.length (ints l1)∧W.ownsRow B 3 1 v2 l2.length (ints l2)∧∀ k,v1.ownBlock=some k→v2.ownBlock ≠ some k
theorem Own2.nil (W:World) (B:Nat):Own2 W B (.slice none 0 0) (.slice none 0 0) [] []:=⟨World.ownsRow_nil _ _ _ _,World.ownsRow_nil _ _ _ _,fun _ h => by cases h⟩
theorem Own2.below {W W':World} {B:Nat} {v1 v2:Value} {l1 l2:List Int} (h:Own2 W B v1 v2 l1 l2) (hb:Below W.heap.size W W'):Own2 W' B v1 v2 l1 l2:=⟨own_below h.1 hb,own_below h.2.1 hb,h.2.2⟩
theorem Own2.besides {W W':World} {B b:Nat} {v1 v2:Value} {l1 l2:List Int} (h:Own2 W B v1 v2 l1 l2) (hg:W.grownBy W' (some b)) (hb:b < B):Own2 W' B v1 v2 l1 l2 :=
 ⟨h.1.kept hg (.inr fun e => by have:=(h.1.lt b e).1; omega),h.2.1.kept hg (.inr fun e => by have:=(h.2.1.lt b e).1; omega),h.2.2⟩
theorem own_ne {v1 v2:Value} (h:∀ k,v1.ownBlock=some k→v2.ownBlock ≠ some k):v2.ownBlock=none ∨ v2.ownBlock ≠ v1.ownBlock:=by
 cases h1:v2.ownBlock with
 | none => exact .inl rfl
 | some k => exact .inr fun e => h k e.symm h1
theorem Own2.push1 {W W':World} {B:Nat} {v1 v2 v':Value} {l1 l2:List Int} {x:Int} (h:Own2 W B v1 v2 l1 l2) (hob:W'.ownsRow B 3 1 v' (l1.length+1) (ints l1 ++ [.int .i64 x])) (hg:W.grownBy W' v1.ownBlock)
  (hv:v'.ownBlock=v1.ownBlock ∨ v'.ownBlock=some W.heap.size):Own2 W' B v' v2 (l1 ++ [x]) l2:=by
 refine ⟨by rw [List.length_append,ints_append]; exact hob,h.2.1.kept hg (own_ne h.2.2),fun k hk hk2 => ?_⟩
 rcases hv with hv | hv
 ·exact h.2.2 k (by rw [← hv]; exact hk) hk2
 ·rw [hv] at hk
  injection hk with hk
  have:=(h.2.1.lt k hk2).2
  omega
theorem Own2.push2 {W W':World} {B:Nat} {v1 v2 v':Value} {l1 l2:List Int} {x:Int} (h:Own2 W B v1 v2 l1 l2) (hob:W'.ownsRow B 3 1 v' (l2.length+1) (ints l2 ++ [.int .i64 x])) (hg:W.grownBy W' v2.ownBlock)
  (hv:v'.ownBlock=v2.ownBlock ∨ v'.ownBlock=some W.heap.size):Own2 W' B v1 v' l1 (l2 ++ [x]):=by
 refine ⟨h.1.kept hg ?_,by rw [List.length_append,ints_append]; exact hob,fun k hk hk2 => ?_⟩
 ·cases h1:v1.ownBlock with
  | none => exact .inl rfl
  | some k => exact .inr fun e => h.2.2 k h1 e.symm
 ·rcases hv with hv | hv
  ·exact h.2.2 k hk (by rw [← hv]; exact hk2)
  ·rw [hv] at hk2
   injection hk2 with hk2
   have:=(h.1.lt k hk).2
   omega
theorem Own2.form {W:World} {B:Nat} {v1 v2:Value} {l1 l2:List Int} (h:Own2 W B v1 v2 l1 l2):∃ A1 c1 A2 c2,v1 = .slice A1 l1.length c1∧v2 = .slice A2 l2.length c2:=by
 obtain ⟨A1,c1,e1⟩:=own_form h.1
 obtain ⟨A2,c2,e2⟩:=own_form h.2.1
 exact ⟨A1,c1,A2,c2,e1,e2⟩
theorem cell_grown {w w':World} {r:Option Nat} {p:Addr} {v:Value} (hg:w.grownBy w' r) (hc:w.cell? p=some v) (hne:some p.block ≠ r):w'.cell? p=some v:=by
 rw [World.cell?_of_block (w:=w) (hg.block p.block (World.block_lt_of_cell? _ _ hc) hne)]
 exact hc
theorem grown_later {a w w':World} {r r2:Option Nat} (h:a.grownBy w r) (h2:w.grownBy w' r2) (hr:∀ k,r2=some k→a.heap.size ≤ k):a.grownBy w' r :=
 ⟨h2.os.trans h.os,h2.tape.trans h.tape,h2.output.trans h.output,Nat.le_trans h.size h2.size,fun k hk hne => by
  rw [h2.block k (Nat.lt_of_lt_of_le hk h.size) (fun e => by have:=hr k e.symm; omega)]
  exact h.block k hk hne⟩
def lenOf:Value→Nat
 | .slice _ n _ => n
 | _ => 0
def FollowOut (s:SM) (ms:List (Int × Int)) (w:World) (e:Ending) (w':World):Prop :=
 ∃ A1 c1 A2 c2,e = .returned (.tuple #[.slice A1 ms.length c1,.slice A2 ms.length c2])∧RInts w' A1 (ms.map (·.1))∧RInts w' A2 (ms.map (·.2))∧ms.length ≤ c1∧ms.length ≤ c2 ∧
  (∀ ad,(A1=some ad ∨ A2=some ad)→w.heap.size ≤ ad.block)∧w.grownBy w' (some s.b)∧Memo w' s.b (s.x.p.memoF s.u.l)
theorem Pb.follow_next {p:Pb} {U:List Int} {r:Nat} {lv tm:Int} {M:List (Int × Int)} {j:Nat} (hM:p.moves (p.n - (r+1)) lv tm=M) (hj:j < M.length) (hno:∀ m ∈ M.take j,p.good1 U r lv tm m=false) (hg:p.good1 U r lv tm M[j]=true)
  {x:Int × Int × Int} (hx:p.move U (p.n - (r+1)) lv tm M[j].1 M[j].2=some x):p.follow U (r+1) lv tm=M[j] :: p.follow U r x.1 x.2.1:=by
 have hf:M.find? (p.good1 U r lv tm)=some M[j]:=by
  rw [List.find?_eq_some_iff_append]
  refine ⟨hg,M.take j,M.drop (j+1),?_,fun a ha => by rw [hno a ha]; rfl⟩
  rw [← List.drop_eq_getElem_cons hj,List.take_append_drop]
 rw [Pb.follow,hM,hf]
 simp only []
 rw [hx]
theorem Pb.good_some {p:Pb} {U:List Int} {r:Nat} {lv tm c h:Int} {x:Int × Int × Int} (hx:p.move U (p.n - (r+1)) lv tm c h=some x) :
  p.good1 U r lv tm (c,h)=(decide (p.least U r x.1 x.2.1 ≠ worstZ) && decide (x.2.2+p.least U r x.1 x.2.1=p.least U (r+1) lv tm)):=by
 unfold Pb.good1
 rw [hx]
theorem Pb.good_none {p:Pb} {U:List Int} {r:Nat} {lv tm c h:Int} (hx:p.move U (p.n - (r+1)) lv tm c h=none):p.good1 U r lv tm (c,h)=false:=by
 unfold Pb.good1
 rw [hx]
theorem Pb.good_ex {p:Pb} {U:List Int} {r:Nat} {lv tm:Int} (h:p.least U (r+1) lv tm ≠ worstZ):∃ m ∈ p.moves (p.n - (r+1)) lv tm,p.good1 U r lv tm m=true:=by
 have hs:=Pb.fold_some (p:=p) (U:=U) (i:=p.n - (r+1)) (lv:=lv) (tm:=tm) (rest:=p.least U r) (p.moves (p.n - (r+1)) lv tm) worstZ
 rcases hs with hs | ⟨m,hm,x,h1,h2,h3⟩
 ·exact absurd hs h
 ·refine ⟨m,hm,?_⟩
  rw [show m=(m.1,m.2) from rfl,Pb.good_some h1,decide_eq_true h2,decide_eq_true (show x.2.2+p.least U r x.1 x.2.1=p.least U (r+1) lv tm from h3.symm)]
  rfl
end Go.Proofs.YtnppngaabfhkpaaGreat
namespace Go.Proofs.YtnppngaabfhkpaaGreat
open Go.RowKit
attribute [local go_sem ↓] Go.wp_at_zero Go.wp_at_succ
theorem Own2.set {W:World} {B:Nat} {v1 v2:Value} {l1 l2:List Int} (h:Own2 W B v1 v2 l1 l2) {p:Addr} (hp:p.block < B) (u:Value):Own2 (W.setCell p u) B v1 v2 l1 l2:=⟨own_setCell h.1 hp u,own_setCell h.2.1 hp u,h.2.2⟩
theorem grown_underB {a w w':World} {r:Option Nat} {B:Nat} (h:a.grownBy w r) (hb:Below B w w') (hB:a.heap.size ≤ B):a.grownBy w' r :=
 ⟨hb.os.trans h.os,hb.tape.trans h.tape,hb.output.trans h.output,Nat.le_trans h.size hb.size,fun k hk hne => (hb.block k (by omega)).trans (h.block k hk hne)⟩
theorem setCell_block {w:World} {p:Addr} {v:Value} {k:Nat} (hk:k ≠ p.block):(w.setCell p v).heap[k]? = w.heap[k]? := by
 have h:=only_setCell (a:=w) (w:=w) (g:=p.block) (grown_id w _) (p:=p) (.inl rfl) v
 by_cases hlt:k < w.heap.size
 ·exact h.block k hlt (fun e => hk (by injection e))
 ·have h2:(w.setCell p v).heap.size=w.heap.size:=by simp [World.setCell]
  rw [Array.getElem?_eq_none (by omega),Array.getElem?_eq_none (by omega)]
theorem grown_set {a w:World} {r:Option Nat} (h:a.grownBy w r) {p:Addr} (hp:a.heap.size ≤ p.block) (v:Value):a.grownBy (w.setCell p v) r :=
 grown_later h (only_setCell (g:=p.block) (grown_id w _) (.inl rfl) v) (fun k e => by injection e with e; omega)
theorem Memo.set {w:World} {b:Nat} {F:Int→Int→Int→Int} (h:Memo w b F) {p:Addr} (hp:b ≠ p.block) (v:Value):Memo (w.setCell p v) b F:=by
 obtain ⟨es,clock,h1,h2⟩:=h
 exact ⟨es,clock,(setCell_block hp).trans h1,h2⟩
set_option maxRecDepth 100000 in
set_option maxHeartbeats 64000000 in
theorem follow_any (g:Nat) (s:SM) (hck:s.x.p.chk=0) (hul:s.u.l.length=s.x.buy.l.length) (hu:∀ j,0 ≤ s.u.l.getD j 0∧s.u.l.getD j 0 ≤ 4000) (h24:s.x.buy.l.length ≤ 24) (r i:Nat) (lv tm:Int) (w:World)
  (hir:i+r=s.x.buy.l.length) (hlv:in64 lv) (htm:in64 tm) (hX:SX w g s) (hM:Memo w s.b (s.x.p.memoF s.u.l)) (hne:s.x.p.least s.u.l r lv tm ≠ worstZ) :
  Calls Tryz.prog 46 #[.pointer (some ⟨g,0,none⟩),placeV i lv tm] w (FollowOut s (s.x.p.follow s.u.l r lv tm) w):=by
 have hgd:=Pb.good hck
 have HCO:=Lib.hid (fun (r i:Nat) (lv tm:Int) (w:World) (h1:i+r=s.x.buy.l.length) (h2:in64 lv) (h3:in64 tm) (h4:SX w g s) (h5:Memo w s.b (s.x.p.memoF s.u.l)) => cost_any g s hck hul hu h24 r i lv tm w h1 h2 h3 h4 h5)
 have HMO:=Lib.hid (fun (i:Nat) (lv tm:Int) W (q:SX W g s) (hi:i < s.x.buy.l.length) => moves_any g s i lv tm W q hck hi)
 have HAF:=Lib.hid (fun (i:Nat) (lv tm:Int) W (q:SX W g s) (hi:i < s.x.buy.l.length) c h (a:0 ≤ h) (b:h ≤ 40) => after_any g s i lv tm c h W q hck hul hu hi a b)
 have HMI:=Lib.hid (fun (i:Nat) (lv tm c h:Int) x (q:s.x.p.move s.u.l i lv tm c h=some x) => Pb.move_in hgd q)
 have HMC:=Lib.hid (fun (i:Nat) (lv tm c h:Int) x (q:s.x.p.move s.u.l i lv tm c h=some x) => Pb.move_cost (Tf.good hgd.t) q)
 have HLB:=Lib.hid (fun r (hr:r ≤ 24) a b => Pb.least_bd s.u.l (Tf.good hgd.t) r hr a b)
 have HML:=Lib.hid (fun i lv tm => Pb.moves_len hgd i lv tm)
 have hmem:∀ (i:Nat) lv tm, ∀ m ∈ s.x.p.moves i lv tm,0 ≤ m.2∧m.2 ≤ 40:=by
  intro i lv tm m hm
  have h1:=(Pb.mem_moves.1 (show (m.1,m.2) ∈ _ from hm)).2
  rw [Rm.mem_choices] at h1
  have h2:=(Rm.good (Pb.room_ok hgd).1).s1
  have h3:=(Rm.good (Pb.room_ok hgd).1).s0
  rw [(Pb.room_ok hgd).2.2.2] at h1
  omega
 have HMEM:=Lib.hid hmem
 have HNE:=Lib.hid hne
 have HLV:=Lib.hid hlv
 have HTM:=Lib.hid htm
 have HSB:Hid (s.b < w.heap.size):=hM.lt
 obtain ⟨i0,hi,hz0,hz1,hz2⟩:=info_parts Tryz.infoInt
 clear hmem hgd hul hu
 unfold placeV
 obtain ⟨W,hW⟩:∃ W,W=w.alloc (.cells #[.int .i64 i,.int .i64 lv,.int .i64 tm] 87):=⟨_,rfl⟩
 have hbW:Below w.heap.size w W:=by rw [hW]; exact below_al (Below.refl _ _)
 have hblk:Blk W w.heap.size 87 #[.int .i64 i,.int .i64 lv,.int .i64 tm]:=by rw [hW]; exact Blk.new _ _ _
 have HXW:=Lib.hid (hX.below hbW)
 have HMW:=Lib.hid (hM.below hbW hM.lt)
 have HGW:=Lib.hid (grown_of_below hbW (some s.b))
 have HPL:=Lib.hid hblk
 have HIM:=Lib.hid hM.isMap
 have HX0:=Lib.hid hX
 have hWH:=Lib.hid hW
 clear hX hM hbW hblk hW
 go_enter Tryz.func46,Tryz.ntmps46
 go_wp2_with fail
 rw [← hWH.out]
 clear hWH
 go_loopw [6,7] (fun s6 s7 wr => ∃ (k m:Nat) (lv' tm':Int) (l1 l2:List Int),k ≤ r∧i+k=m∧l1.length=k∧l2.length=k∧lenOf s6=k∧Hid (Own2 wr (w.heap.size+1) s6 s7 l1 l2)∧Hid (w.grownBy wr (some s.b))∧Hid (Memo wr s.b (s.x.p.memoF s.u.l)) ∧
   Hid (Blk wr w.heap.size 87 #[.int .i64 m,.int .i64 lv',.int .i64 tm'])∧Hid (in64 lv'∧in64 tm'∧s.x.p.least s.u.l (r - k) lv' tm' ≠ worstZ) ∧
   Hid (l1 ++ (s.x.p.follow s.u.l (r - k) lv' tm').map (·.1)=(s.x.p.follow s.u.l r lv tm).map (·.1)∧l2 ++ (s.x.p.follow s.u.l (r - k) lv' tm').map (·.2)=(s.x.p.follow s.u.l r lv tm).map (·.2)))
  (fun s6 _ _ => r - lenOf s6)
 case atStart => exact ⟨0,i,lv,tm, [], [],by omega,rfl,rfl,rfl,rfl,Own2.nil _ _,HGW.out,HMW.out,HPL.out,⟨HLV.out,HTM.out,HNE.out⟩,⟨rfl,rfl⟩⟩
 case round =>
  clear HGW HMW HPL HXW HNE HLV HTM
  obtain ⟨k,m,lv',tm',l1,l2,hk,hkm,hl1,hl2,hlen,hO2,hG,hMm,hPb,hIN,hFO⟩:=hrel
  obtain ⟨A1,c1,A2,c2,rfl,rfl⟩:=hO2.out.form
  obtain ⟨wo,hwo⟩:∃ wo:World,wo=wr:=⟨_,rfl⟩
  subst hwo
  have HXo:=Lib.hid (HX0.out.besides hG.out HIM.out)
  have ik:m ≤ s.x.buy.l.length:=by omega
  rw [hl1,hl2] at hO2 ⊢
  have HL1:=Lib.hid hl1
  have HL2:=Lib.hid hl2
  clear hlen
  have hts:(k < r∧decide ((m:Int) < (s.x.buy.l.length:Int))=true) ∨ (k=r∧decide ((m:Int) < (s.x.buy.l.length:Int))=false):=by
   by_cases h:k < r
   ·exact .inl ⟨h,decide_eq_true (by omega)⟩
   ·exact .inr ⟨by omega,decide_eq_false (by omega)⟩
  have k0:=HXo.out.blk.cell 0
  have p0:=hPb.out.cell 0
  simp [SM.cs] at k0 p0
  go_upto_region 2 with fail
  refine wp_region_held_drew (S:=(fun w' => Below wo.heap.size wo w'∧w'.cell? ⟨g,0,none⟩=some (.slice s.x.buy.A s.x.buy.l.length s.x.buy.c)∧w'.cell? ⟨w.heap.size,0,none⟩=some (.int .i64 m))) (by kernel_rfl) (⟨(Below.drew (Below.refl _ _)),k0,p0⟩) (fun hHeld => ?_)
  refine tk 0 ?_
  try simp only [jA,jB,Act.put,jD,jE,jF]
  refine tk 1 ?_
  try simp only [jA,jB,jC,Act.put,jD,jE,jF]
  refine tk 2 ?_
  try simp only [jA,jB,jC,Act.put,jD,jE,jF]
  refine tk 3 ?_
  try simp only [jA,jB,jC,Act.put,jD,jE,jF]
  refine tk 4 ?_
  try simp only [jA,jB,jC,Act.put,jD,jE,jF]
  refine tk 5 ?_
  try simp only [jA,jB,jC,Act.put,jD,jE,jF]
  refine tk 6 ?_
  try simp only [jA,jB,jC,Act.put,jD,jE,jF]
  refine tk 7 ?_
  try simp only [jA,jB,jC,Act.put,jD,jE,jF]
  refine tk 8 ?_
  try simp only [jA,jB,jC,Act.put,jD,jE,jF]
  refine tk 9 ?_
  try simp only [jA,jB,jC,Act.put,jD,jE,jF]
  refine wpAnyH_done (by kernel_rfl) ?_ _
  have hBd:Below wo.heap.size wo wo.drew:=Below.drew (Below.refl _ _)
  have HX1:=Lib.hid (HXo.out.below hBd)
  have HM1:Hid (Memo wo.drew s.b (s.x.p.memoF s.u.l)):=hMm.out.drew
  have HP1:=Lib.hid (hPb.out.below hBd hPb.out.lt)
  have HG1:=Lib.hid (grown_under hG.out hBd)
  have HO1:=Lib.hid (hO2.out.below hBd)
  generalize wo.drew=w1 at *
  clear hHeld hBd HXo hMm hPb hG hO2 k0 p0
  rcases hts with ⟨hkr,hdt⟩ | ⟨hkr,hdt⟩
  ·obtain ⟨r',hr'⟩:∃ r',r - k=r'+1:=⟨r - k - 1,by omega⟩
   rw [hr'] at hIN hFO
   have hin:m < s.x.buy.l.length:=by omega
   have hnr:s.x.p.n - (r'+1)=m:=by have:s.x.p.n=s.x.buy.l.length:=rfl; omega
   have hr24:r'+1 ≤ 24:=by omega
   have hmr:m+(r'+1)=s.x.buy.l.length:=by omega
   have p0:=HP1.out.cell 0
   have p1:=HP1.out.cell 1
   have p2:=HP1.out.cell 2
   simp at p0 p1 p2
   have hmo:=HMO.out m lv' tm' _ HX1.out hin
   unfold placeV at hmo
   have HMO1:=Lib.hid hmo
   clear hmo
   go_wp2_with fail
   refine HMO1.out.mono ?_
   rintro e w3 ⟨AM,cM,rfl,hrm,hb3⟩
   have HX3:=Lib.hid (HX1.out.below hb3)
   have HP3:=Lib.hid (HP1.out.below hb3 HP1.out.lt)
   have HM3:=Lib.hid (HM1.out.below hb3 HM1.out.lt)
   have HG3:=Lib.hid (grown_under HG1.out hb3)
   have HO3:=Lib.hid (HO1.out.below hb3)
   have HI3:=Lib.hid HM3.out.isMap
   have HRM:=Lib.hid hrm
   clear p0 p1 p2 hrm hb3 HX1 HP1 HM1 HG1 HO1 HMO1
   have HEX:=Lib.hid (Pb.good_ex hIN.out.2.2)
   rw [hnr] at HEX
   have hmlen:=HML.out m lv' tm'
   have hme0:=HMEM.out m lv' tm'
   obtain ⟨M,hMM⟩:∃ M,M=s.x.p.moves m lv' tm':=⟨_,rfl⟩
   rw [← hMM] at HEX hmlen hme0 HRM ⊢
   have HMM:Hid (s.x.p.moves (s.x.p.n - (r'+1)) lv' tm'=M):=by show _=_; rw [hnr,hMM]
   have HME:=Lib.hid hme0
   clear hMM hme0
   go_wp2_with fail
   go_loopw [28,6,7] (fun s28 s6 s7 wr => ∃ j:Nat,j ≤ M.length∧s28 = .int .i64 j∧s6 = .slice A1 k c1∧s7 = .slice A2 k c2∧Hid (w3.grownBy wr (some s.b))∧Hid (Memo wr s.b (s.x.p.memoF s.u.l))∧Hid (∀ a ∈ M.take j,s.x.p.good1 s.u.l r' lv' tm' a=false))
    (fun s28 _ _ _ => M.length - (intOf s28).toNat)
   case atStart => exact ⟨0,by omega,rfl,rfl,rfl,grown_id _ _,HM3.out,by intro a ha; simp at ha⟩
   case round =>
    obtain ⟨j,hj,rfl,rfl,rfl,hGB,hMm,hNO⟩:=hrel
    obtain ⟨wi,hwi⟩:∃ wi:World,wi=wr:=⟨_,rfl⟩
    subst hwi
    have HXi:=Lib.hid (HX3.out.besides hGB.out HI3.out)
    have HPi:=Lib.hid (HP3.out.besides hGB.out HI3.out)
    have HGi:=Lib.hid (HG3.out.trans hGB.out)
    have HOi:=Lib.hid (HO3.out.besides hGB.out (by have:=HSB.out; omega))
    by_cases hlt:j < M.length
    ·obtain ⟨bm,om,hAm,_,d1,d2⟩:=(HRM.out.besides hGB.out HI3.out).at' hlt
     have hme:=HME.out _ (List.getElem_mem hlt)
     have j2:(0:Int) ≤ (j:Int):=by omega
     have j3:(j:Int) < (M.length:Int):=by omega
     have HFN:=Lib.hid (fun hg x hx => Pb.follow_next (U:=s.u.l) (r:=r') (lv:=lv') (tm:=tm') HMM.out hlt hNO.out hg (x:=x) hx)
     have HTK:Hid (s.x.p.good1 s.u.l r' lv' tm' M[j]=false→∀ a ∈ M.take (j+1),s.x.p.good1 s.u.l r' lv' tm' a=false):=by
      intro h a ha
      rw [List.take_succ_eq_append_getElem hlt,List.mem_append,List.mem_singleton] at ha
      rcases ha with ha | rfl
      ·exact hNO.out a ha
      ·exact h
     have HV:Hid ((∀ q,(Value.slice A1 k c1).ownBlock=some q→q < wi.heap.size)∧(∀ q,(Value.slice A2 k c2).ownBlock=some q→q < wi.heap.size)∧w.heap.size+1 ≤ wi.heap.size):=⟨fun q h => (HOi.out.1.lt q h).2,fun q h => (HOi.out.2.1.lt q h).2,HPi.out.lt⟩
     rw [hAm]
     clear hAm hNO
     generalize M[j]=mm at *
     obtain ⟨mc,mh⟩:=mm
     simp only [] at d1 d2 hme
     have p0:=HPi.out.cell 0
     have p1:=HPi.out.cell 1
     have p2:=HPi.out.cell 2
     simp at p0 p1 p2
     have HMEj:=Lib.hid hme
     clear hme
     rw [hnr] at HFN
     go_upto_region 6 with fail
     obtain ⟨wB,hwB⟩:∃ v,v=wi.alloc (.cells #[.int .i64 mc,.int .i64 mh] 114):=⟨_,rfl⟩
     obtain ⟨mb,hmb⟩:∃ n,n=wi.heap.size:=⟨_,rfl⟩
     rw [← hwB, ← hmb]
     rw [← hmb] at HV
     have hbB:Below wi.heap.size wi wB:=by rw [hwB]; exact below_al (Below.refl _ _)
     have hkb:Blk wB mb 114 #[.int .i64 mc,.int .i64 mh]:=by rw [hwB,hmb]; exact Blk.new _ _ _
     have HXB:=Lib.hid (HXi.out.below hbB)
     have HPB:=Lib.hid (HPi.out.below hbB HPi.out.lt)
     have HMB:=Lib.hid (hMm.out.below hbB hMm.out.lt)
     have HGBB:=Lib.hid (grown_under hGB.out hbB)
     have HOB:=Lib.hid (HOi.out.below hbB)
     have HKB:=Lib.hid hkb
     have b0:=hkb.cell 0
     have b1:=hkb.cell 1
     clear p0 p1 p2 d1 d2 hwB hmb hbB hkb HXi HPi HGi hGB hMm HOi
     have p0:=HPB.out.cell 0
     have p1:=HPB.out.cell 1
     have p2:=HPB.out.cell 2
     simp at p0 p1 p2 b0 b1
     have haf:=HAF.out m lv' tm' _ HXB.out hin mc mh HMEj.out.1 HMEj.out.2
     unfold placeV at haf
     have HAF1:=Lib.hid haf
     clear haf
     go_wp2_with fail
     refine HAF1.out.mono ?_
     rintro e w5 ⟨rfl,hb5⟩
     have HX5:=Lib.hid (HXB.out.below hb5)
     have HM5:=Lib.hid (HMB.out.below hb5 HMB.out.lt)
     have HG5:=Lib.hid (grown_under HGBB.out hb5)
     have HP5:=Lib.hid (HPB.out.below hb5 HPB.out.lt)
     have HO5:=Lib.hid (HOB.out.below hb5)
     have HK5:=Lib.hid (HKB.out.below hb5 HKB.out.lt)
     clear p0 p1 p2 b0 b1 hb5 HXB HPB HMB HGBB HOB HKB HAF1
     cases hmv:s.x.p.move s.u.l m lv' tm' mc mh with
     | none =>
      have HN:=Lib.hid (HTK.out (Pb.good_none (by rw [hnr]; exact hmv)))
      clear hmv
      simp only [moveV,placeV]
      go_wp2_with fail
      go_roundw
      case rel => exact ⟨j+1,by omega,by go_num,rfl,rfl,grown_under HG5.out (below_al (Below.refl _ _)),HM5.out.below (below_al (Below.refl _ _)) HM5.out.lt,HN.out⟩
      case measure => simp [intOf]; omega
     | some x =>
      have hgs:=Pb.good_some (p:=s.x.p) (U:=s.u.l) (r:=r') (lv:=lv') (tm:=tm') (c:=mc) (h:=mh) (x:=x) (by rw [hnr]; exact hmv)
      have HFO2:=Lib.hid (fun hg => HFN.out hg x hmv)
      obtain ⟨q1,q2⟩:=HMI.out m lv' tm' mc mh x hmv
      have q3:=HMC.out m lv' tm' mc mh x hmv
      obtain ⟨l',t',cc⟩:=x
      simp only [] at q1 q2 q3 hgs HFO2
      have HGS:=Lib.hid hgs
      have HQ:=Lib.hid (And.intro q1 q2)
      have HQ3:=Lib.hid q3
      have HQ4:=Lib.hid (HLB.out r' (by omega) l' t')
      clear hmv q1 q2 q3 hgs HFN
      simp only [moveV,placeV]
      go_upto_region 8 with fail
      obtain ⟨w6,hw6⟩:∃ v,v=w5.alloc (.cells #[.int .i64 ((m:Int)+1),.int .i64 l',.int .i64 t'] 87):=⟨_,rfl⟩
      obtain ⟨nb,hnb⟩:∃ n,n=w5.heap.size:=⟨_,rfl⟩
      rw [← hw6, ← hnb]
      have HMN:Hid (mb < nb∧w.heap.size+1 ≤ mb):=by
       show _∧_
       rw [hnb]
       exact ⟨HK5.out.lt,HV.out.2.2⟩
      have hb6:Below w5.heap.size w5 w6:=by rw [hw6]; exact below_al (Below.refl _ _)
      have hk6:Blk w6 nb 87 #[.int .i64 ((m:Int)+1),.int .i64 l',.int .i64 t']:=by rw [hw6,hnb]; exact Blk.new _ _ _
      have HX6:=Lib.hid (HX5.out.below hb6)
      have HM6:=Lib.hid (HM5.out.below hb6 HM5.out.lt)
      have HG6:=Lib.hid (grown_under HG5.out hb6)
      have HP6:=Lib.hid (HP5.out.below hb6 HP5.out.lt)
      have HO6:=Lib.hid (HO5.out.below hb6)
      have HK6:=Lib.hid (HK5.out.below hb6 HK5.out.lt)
      have HN6:=Lib.hid hk6
      have HI6:=Lib.hid HM6.out.isMap
      have b0:=hk6.cell 0
      have b1:=hk6.cell 1
      have b2:=hk6.cell 2
      simp at b0 b1 b2
      have hcs:=HCO.out r' (m+1) l' t' _ (by omega) HQ.out.1 HQ.out.2 HX6.out HM6.out
      unfold placeV at hcs
      have HCS:=Lib.hid hcs
      clear hw6 hnb hb6 hk6 HX5 HM5 HG5 HP5 HO5 HK5 hcs
      go_wp2_with fail
      refine HCS.out.mono ?_
      rintro e w7 ⟨rfl,hg7,hm7⟩
      have HX7:=Lib.hid (HX6.out.besides hg7 HI6.out)
      have HG7:=Lib.hid (HG6.out.trans hg7)
      have HM7:=Lib.hid hm7
      have HP7:=Lib.hid (HP6.out.besides hg7 HI6.out)
      have HO7:=Lib.hid (HO6.out.besides hg7 (by have:=HSB.out; omega))
      have HK7:=Lib.hid (HK6.out.besides hg7 HI6.out)
      have HN7:=Lib.hid (HN6.out.besides hg7 HI6.out)
      have HI7:=Lib.hid hm7.isMap
      clear hg7 hm7 b0 b1 b2 HX6 HM6 HG6 HP6 HO6 HK6 HN6 HI6 HCS
      generalize hR:s.x.p.least s.u.l r' l' t'=R at *
      have HR:=Lib.hid hR
      clear hR
      by_cases hw:R=worstZ
      ·have HN:=Lib.hid (HTK.out (by rw [HGS.out,decide_eq_false (show ¬ (R ≠ worstZ) from fun e => e hw)]; rfl))
       have hwn:(R != 1152921504606846976)=false:=by rw [bne_eq_false_iff_eq]; exact hw
       clear hw
       go_wp2_with fail
       go_roundw
       case rel => exact ⟨j+1,by omega,by go_num,rfl,rfl,HG7.out,HM7.out,HN.out⟩
       case measure => simp [intOf]; omega
      ·have hwn:(R != 1152921504606846976)=true:=by rw [bne_iff_ne]; exact hw
       have hrb:=HQ4.out.resolve_left hw
       have hcb:=HQ3.out
       have aw:IntKind.i64.wrap (cc+R)=cc+R:=IntWalk.i64_in _ (by omega)
       have HWW:=Lib.hid hw
       clear hw hrb hcb
       have p0:=HP7.out.cell 0
       have p1:=HP7.out.cell 1
       have p2:=HP7.out.cell 2
       simp at p0 p1 p2
       have hcs:=HCO.out (r'+1) m lv' tm' _ hmr hIN.out.1 hIN.out.2.1 HX7.out HM7.out
       unfold placeV at hcs
       have HCS:=Lib.hid hcs
       clear hcs
       go_wp2_with fail
       refine HCS.out.mono ?_
       rintro e w8 ⟨rfl,hg8,hm8⟩
       have HG8:=Lib.hid (HG7.out.trans hg8)
       have HM8:=Lib.hid hm8
       have HP8:=Lib.hid (HP7.out.besides hg8 HI7.out)
       have HO8:=Lib.hid (HO7.out.besides hg8 (by have:=HSB.out; omega))
       have HK8:=Lib.hid (HK7.out.besides hg8 HI7.out)
       have HN8:=Lib.hid (HN7.out.besides hg8 HI7.out)
       clear hg8 hm8 p0 p1 p2 HX7 HM7 HG7 HP7 HO7 HK7 HN7 HI7 HCS
       by_cases heq:cc+R=s.x.p.least s.u.l (r'+1) lv' tm'
       ·have hwe:(cc+R == s.x.p.least s.u.l (r'+1) lv' tm')=true:=by rw [beq_iff_eq]; exact heq
        have HGD:Hid (s.x.p.good1 s.u.l r' lv' tm' (mc,mh)=true):=by
         show _=_
         rw [HGS.out,decide_eq_true HWW.out,decide_eq_true heq]; rfl
        have HFO3:=Lib.hid (HFO2.out HGD.out)
        clear heq
        go_upto_region 10 with fail
        clear hwe
        have HBW8:Hid (w.heap.size+1 ≤ w8.heap.size):=by show _ ≤ _; have h1:=HP8.out.lt; omega
        have n0:w8.drew.cell? ⟨mb,0,none⟩=some (.int .i64 mc):=by have:=HK8.out.cell 0; simpa using this
        have n1:w8.drew.cell? ⟨mb,1,none⟩=some (.int .i64 mh):=by have:=HK8.out.cell 1; simpa using this
        have n2:w8.drew.cell? ⟨nb,0,none⟩=some (.int .i64 ((m:Int)+1)):=by have:=HN8.out.cell 0; simpa using this
        have n3:w8.drew.cell? ⟨nb,1,none⟩=some (.int .i64 l'):=by have:=HN8.out.cell 1; simpa using this
        have n4:w8.drew.cell? ⟨nb,2,none⟩=some (.int .i64 t'):=by have:=HN8.out.cell 2; simpa using this
        have HOd:Hid (Own2 w8.drew (w.heap.size+1) (.slice A1 k c1) (.slice A2 k c2) l1 l2):=HO8.out.below (Below.drew (Below.refl _ _))
        have HBd:Hid (Below (w.heap.size+1) w8 w8.drew):=Below.drew (Below.refl _ _)
        refine wp_region_held_drew (S:=(fun w' => w'.cell? ⟨mb,0,none⟩=some (.int .i64 mc)∧w'.cell? ⟨mb,1,none⟩=some (.int .i64 mh)∧w'.cell? ⟨nb,0,none⟩=some (.int .i64 ((m:Int)+1))∧w'.cell? ⟨nb,1,none⟩=some (.int .i64 l')∧w'.cell? ⟨nb,2,none⟩=some (.int .i64 t'))) (by kernel_rfl) (⟨n0,n1,n2,n3,n4⟩) (fun hHeld => ?_)
        refine tk 0 ?_
        try simp only [jA,jB,Act.put,jD,jE,jF]
        refine tk 1 ?_
        try simp only [jA,jB,jC,Act.put,jD,jE,jF]
        refine tk 2 ?_
        try simp only [jA,jB,jC,Act.put,jD,jE,jF]
        refine tk 5 ?_
        try simp only [jA,jB,jC,Act.put,jD,jE,jF]
        refine tk 6 ?_
        try simp only [jA,jB,jC,Act.put,jD,jE,jF]
        refine tk 7 ?_
        try simp only [jA,jB,jC,Act.put,jD,jE,jF]
        refine tk 10 ?_
        try simp only [jA,jB,jC,Act.put,jD,jE,jF]
        refine wpAnyH_ready (rs := [3,8]) (by kernel_rfl) (by simp) ?_
        refine (AllReadyH.cons rfl (fun K hK => ?_) (AllReadyH.cons rfl (fun K hK => ?_) AllReadyH.nil))
        ·have HKK:=Lib.hid hK
         clear hK
         go_simp
         obtain ⟨y1,hWn⟩:∃ v,v=(w8.alloc (.cells #[.int .i64 mc] 3)).drew:=⟨_,rfl⟩
         obtain ⟨bc1,hbb⟩:∃ n,n=w8.heap.size:=⟨_,rfl⟩
         rw [← hWn, ← hbb]
         have hbn1:Below w8.drew.heap.size w8.drew y1:=by rw [hWn]; exact (below_al (Below.refl _ _):Below _ _ (w8.drew.alloc (.cells #[.int .i64 mc] 3)))
         have HOy1:=Lib.hid (HOd.out.below hbn1)
         have HLy1:Hid (RInts y1 (some ⟨bc1,0,none⟩) [mc]):=by show RInts _ _ _; rw [hWn,hbb]; exact (rints_lit w8.drew #[.int .i64 mc] 3 (l := [mc]) rfl)
         have HBy1:=Lib.hid (HBd.out.trans (hbn1.mono (by have:=HBd.out.size; have:=HBW8.out; omega)))
         have HQbc1:Hid (nb < bc1):=by show _ < _; rw [hbb]; have h1:=HBd.out.size; have h2:=HN8.out.lt; have h3:w8.drew.heap.size=w8.heap.size:=rfl; omega
         clear hWn hbb
         refine HKK.out _ _ (⟨cell_below (n0) hbn1,cell_below (n1) hbn1,cell_below (n2) hbn1,cell_below (n3) hbn1,cell_below (n4) hbn1⟩) (fun hH2 => ?_)
         clear HKK K
         replace hHeld:=hH2
         clear hH2
         try simp only [jA,jB,jC,Act.put,jD,jE,jF]
         refine wpAnyH_ready (rs := [4,8]) (by kernel_rfl) (by simp) ?_
         refine (AllReadyH.cons rfl (fun K hK => ?_) (AllReadyH.cons rfl (fun K hK => ?_) AllReadyH.nil))
         ·have HKK:=Lib.hid hK
          clear hK
          have how2:=HOy1.out.1
          rw [HL1.out] at how2
          refine step_append_any _ (by rfl) _ _ _ (by rfl) (w.heap.size+1) 3 i0 (.int .i64 0) 1 8 Tryz.underlying22 hi hz0 hz1 hz2 rfl (by decide) _ k (ints l1) (by rfl) how2 y1.heap.size (some ⟨bc1,0,none⟩) 1 1 [.int .i64 mc] (by rfl) (show Reads _ _ 1 _ 1 _ from HLy1.out) (by intro u hu; rw [List.mem_singleton] at hu; subst hu; rfl) (by unfold maxLen; omega) (by omega) (by have h1:=HBy1.out.size; have h2:=HBW8.out; omega) ?_
          intro v2 y2 hob2 hgb2 hvb2
          have HOy2:=Lib.hid (HOy1.out.push1 (x:=mc) (by rw [HL1.out]; exact hob2) hgb2 hvb2)
          have HBy2:=Lib.hid (HBy1.out.grown hgb2 (by have h1:=HBy1.out.size; have h2:=HBW8.out; omega) (fun q hq => (how2.lt q hq).1))
          refine HKK.out _ _ (⟨cell_grown hgb2 (cell_below (n0) hbn1) (fun e => by have h1:=HV.out.1 _ e.symm; have h2:=HMN.out.1; first | omega | (change mb < mb at h1; omega) | (change nb < mb at h1; omega)),cell_grown hgb2 (cell_below (n1) hbn1) (fun e => by have h1:=HV.out.1 _ e.symm; have h2:=HMN.out.1; first | omega | (change mb < mb at h1; omega) | (change nb < mb at h1; omega)),cell_grown hgb2 (cell_below (n2) hbn1) (fun e => by have h1:=HV.out.1 _ e.symm; have h2:=HMN.out.1; first | omega | (change mb < mb at h1; omega) | (change nb < mb at h1; omega)),cell_grown hgb2 (cell_below (n3) hbn1) (fun e => by have h1:=HV.out.1 _ e.symm; have h2:=HMN.out.1; first | omega | (change mb < mb at h1; omega) | (change nb < mb at h1; omega)),cell_grown hgb2 (cell_below (n4) hbn1) (fun e => by have h1:=HV.out.1 _ e.symm; have h2:=HMN.out.1; first | omega | (change mb < mb at h1; omega) | (change nb < mb at h1; omega))⟩) (fun hH2 => ?_)
          clear HKK K
          replace hHeld:=hH2
          clear hH2
          try simp only [jA,jB,jC,Act.put,jD,jE,jF]
          clear how2 hob2
          refine wpAnyH_ready (rs := [8]) (by kernel_rfl) (by simp) ?_
          refine (AllReadyH.cons rfl (fun K hK => ?_) AllReadyH.nil)
          have HKK:=Lib.hid hK
          clear hK
          go_simp
          obtain ⟨y3,hWn⟩:∃ v,v=y2.alloc (.cells #[.int .i64 mh] 3):=⟨_,rfl⟩
          obtain ⟨bh3,hbb⟩:∃ n,n=y2.heap.size:=⟨_,rfl⟩
          rw [← hWn, ← hbb]
          have hbn3:Below y2.heap.size y2 y3:=by rw [hWn]; exact (below_al (Below.refl _ _):Below _ _ (y2.alloc (.cells #[.int .i64 mh] 3)))
          have HOy3:=Lib.hid (HOy2.out.below hbn3)
          have HLy3:Hid (RInts y3 (some ⟨bh3,0,none⟩) [mh]):=by show RInts _ _ _; rw [hWn,hbb]; exact (rints_lit y2 #[.int .i64 mh] 3 (l := [mh]) rfl)
          have HBy3:=Lib.hid (HBy2.out.trans (hbn3.mono (by have:=HBy2.out.size; have:=HBW8.out; omega)))
          have HQbh3:Hid (nb < bh3):=by show _ < _; rw [hbb]; have h1:=HBy2.out.size; have h2:=HN8.out.lt; have h3:y2.heap.size=y2.heap.size:=rfl; omega
          clear hWn hbb
          refine HKK.out _ _ (⟨cell_below (cell_grown hgb2 (cell_below (n0) hbn1) (fun e => by have h1:=HV.out.1 _ e.symm; have h2:=HMN.out.1; first | omega | (change mb < mb at h1; omega) | (change nb < mb at h1; omega))) hbn3,cell_below (cell_grown hgb2 (cell_below (n1) hbn1) (fun e => by have h1:=HV.out.1 _ e.symm; have h2:=HMN.out.1; first | omega | (change mb < mb at h1; omega) | (change nb < mb at h1; omega))) hbn3,cell_below (cell_grown hgb2 (cell_below (n2) hbn1) (fun e => by have h1:=HV.out.1 _ e.symm; have h2:=HMN.out.1; first | omega | (change mb < mb at h1; omega) | (change nb < mb at h1; omega))) hbn3,cell_below (cell_grown hgb2 (cell_below (n3) hbn1) (fun e => by have h1:=HV.out.1 _ e.symm; have h2:=HMN.out.1; first | omega | (change mb < mb at h1; omega) | (change nb < mb at h1; omega))) hbn3,cell_below (cell_grown hgb2 (cell_below (n4) hbn1) (fun e => by have h1:=HV.out.1 _ e.symm; have h2:=HMN.out.1; first | omega | (change mb < mb at h1; omega) | (change nb < mb at h1; omega))) hbn3⟩) (fun hH2 => ?_)
          clear HKK K
          replace hHeld:=hH2
          clear hH2
          try simp only [jA,jB,jC,Act.put,jD,jE,jF]
          refine wpAnyH_ready (rs := [9]) (by kernel_rfl) (by simp) ?_
          refine (AllReadyH.cons rfl (fun K hK => ?_) AllReadyH.nil)
          have HKK:=Lib.hid hK
          clear hK
          have how4:=HOy3.out.2.1
          rw [HL2.out] at how4
          refine step_append_any _ (by rfl) _ _ _ (by rfl) (w.heap.size+1) 3 i0 (.int .i64 0) 1 8 Tryz.underlying22 hi hz0 hz1 hz2 rfl (by decide) _ k (ints l2) (by rfl) how4 y3.heap.size (some ⟨bh3,0,none⟩) 1 1 [.int .i64 mh] (by rfl) (show Reads _ _ 1 _ 1 _ from HLy3.out) (by intro u hu; rw [List.mem_singleton] at hu; subst hu; rfl) (by unfold maxLen; omega) (by omega) (by have h1:=HBy3.out.size; have h2:=HBW8.out; omega) ?_
          intro v4 y4 hob4 hgb4 hvb4
          have HOy4:=Lib.hid (HOy3.out.push2 (x:=mh) (by rw [HL2.out]; exact hob4) hgb4 hvb4)
          have HBy4:=Lib.hid (HBy3.out.grown hgb4 (by have h1:=HBy3.out.size; have h2:=HBW8.out; omega) (fun q hq => (how4.lt q hq).1))
          refine HKK.out _ _ (⟨cell_grown hgb4 (cell_below (cell_grown hgb2 (cell_below (n0) hbn1) (fun e => by have h1:=HV.out.1 _ e.symm; have h2:=HMN.out.1; first | omega | (change mb < mb at h1; omega) | (change nb < mb at h1; omega))) hbn3) (fun e => by have h1:=HV.out.2.1 _ e.symm; have h2:=HMN.out.1; first | omega | (change mb < mb at h1; omega) | (change nb < mb at h1; omega)),cell_grown hgb4 (cell_below (cell_grown hgb2 (cell_below (n1) hbn1) (fun e => by have h1:=HV.out.1 _ e.symm; have h2:=HMN.out.1; first | omega | (change mb < mb at h1; omega) | (change nb < mb at h1; omega))) hbn3) (fun e => by have h1:=HV.out.2.1 _ e.symm; have h2:=HMN.out.1; first | omega | (change mb < mb at h1; omega) | (change nb < mb at h1; omega)),cell_grown hgb4 (cell_below (cell_grown hgb2 (cell_below (n2) hbn1) (fun e => by have h1:=HV.out.1 _ e.symm; have h2:=HMN.out.1; first | omega | (change mb < mb at h1; omega) | (change nb < mb at h1; omega))) hbn3) (fun e => by have h1:=HV.out.2.1 _ e.symm; have h2:=HMN.out.1; first | omega | (change mb < mb at h1; omega) | (change nb < mb at h1; omega)),cell_grown hgb4 (cell_below (cell_grown hgb2 (cell_below (n3) hbn1) (fun e => by have h1:=HV.out.1 _ e.symm; have h2:=HMN.out.1; first | omega | (change mb < mb at h1; omega) | (change nb < mb at h1; omega))) hbn3) (fun e => by have h1:=HV.out.2.1 _ e.symm; have h2:=HMN.out.1; first | omega | (change mb < mb at h1; omega) | (change nb < mb at h1; omega)),cell_grown hgb4 (cell_below (cell_grown hgb2 (cell_below (n4) hbn1) (fun e => by have h1:=HV.out.1 _ e.symm; have h2:=HMN.out.1; first | omega | (change mb < mb at h1; omega) | (change nb < mb at h1; omega))) hbn3) (fun e => by have h1:=HV.out.2.1 _ e.symm; have h2:=HMN.out.1; first | omega | (change mb < mb at h1; omega) | (change nb < mb at h1; omega))⟩) (fun hH2 => ?_)
          clear HKK K
          replace hHeld:=hH2
          clear hH2
          try simp only [jA,jB,jC,Act.put,jD,jE,jF]
          clear how4 hob4
          refine tk 11 ?_
          try simp only [jA,jB,jC,Act.put,jD,jE,jF]
          refine tk 12 ?_
          try simp only [jA,jB,jC,Act.put,jD,jE,jF]
          have hpW:=HP8.out.below HBy4.out (by omega)
          have z0:=hpW.cell 0
          have f0:=hpW.frozen 0
          have z1:=hpW.cell 1
          have f1:=hpW.frozen 1
          have z2:=hpW.cell 2
          have f2:=hpW.frozen 2
          simp at z0 z1 z2
          have gm:mb ≠ w.heap.size:=by have h1:=HMN.out.2; omega
          have gn:nb ≠ w.heap.size:=by have h1:=HMN.out.2; have h2:=HMN.out.1; omega
          refine wpAnyH_ready (rs := [13]) (by kernel_rfl) (by simp) ?_
          refine (AllReadyH.cons rfl (fun K hK => ?_) AllReadyH.nil)
          have HKK:=Lib.hid hK
          clear hK
          go_simp
          refine HKK.out _ _ (⟨cell_setG (cell_setG (cell_setG (cell_grown hgb4 (cell_below (cell_grown hgb2 (cell_below (n0) hbn1) (fun e => by have h1:=HV.out.1 _ e.symm; have h2:=HMN.out.1; first | omega | (change mb < mb at h1; omega) | (change nb < mb at h1; omega))) hbn3) (fun e => by have h1:=HV.out.2.1 _ e.symm; have h2:=HMN.out.1; first | omega | (change mb < mb at h1; omega) | (change nb < mb at h1; omega))) gm) gm) gm,cell_setG (cell_setG (cell_setG (cell_grown hgb4 (cell_below (cell_grown hgb2 (cell_below (n1) hbn1) (fun e => by have h1:=HV.out.1 _ e.symm; have h2:=HMN.out.1; first | omega | (change mb < mb at h1; omega) | (change nb < mb at h1; omega))) hbn3) (fun e => by have h1:=HV.out.2.1 _ e.symm; have h2:=HMN.out.1; first | omega | (change mb < mb at h1; omega) | (change nb < mb at h1; omega))) gm) gm) gm,cell_setG (cell_setG (cell_setG (cell_grown hgb4 (cell_below (cell_grown hgb2 (cell_below (n2) hbn1) (fun e => by have h1:=HV.out.1 _ e.symm; have h2:=HMN.out.1; first | omega | (change mb < mb at h1; omega) | (change nb < mb at h1; omega))) hbn3) (fun e => by have h1:=HV.out.2.1 _ e.symm; have h2:=HMN.out.1; first | omega | (change mb < mb at h1; omega) | (change nb < mb at h1; omega))) gn) gn) gn,cell_setG (cell_setG (cell_setG (cell_grown hgb4 (cell_below (cell_grown hgb2 (cell_below (n3) hbn1) (fun e => by have h1:=HV.out.1 _ e.symm; have h2:=HMN.out.1; first | omega | (change mb < mb at h1; omega) | (change nb < mb at h1; omega))) hbn3) (fun e => by have h1:=HV.out.2.1 _ e.symm; have h2:=HMN.out.1; first | omega | (change mb < mb at h1; omega) | (change nb < mb at h1; omega))) gn) gn) gn,cell_setG (cell_setG (cell_setG (cell_grown hgb4 (cell_below (cell_grown hgb2 (cell_below (n4) hbn1) (fun e => by have h1:=HV.out.1 _ e.symm; have h2:=HMN.out.1; first | omega | (change mb < mb at h1; omega) | (change nb < mb at h1; omega))) hbn3) (fun e => by have h1:=HV.out.2.1 _ e.symm; have h2:=HMN.out.1; first | omega | (change mb < mb at h1; omega) | (change nb < mb at h1; omega))) gn) gn) gn⟩) (fun hH2 => ?_)
          clear HKK K
          replace hHeld:=hH2
          clear hH2
          try simp only [jA,jB,jC,Act.put,jD,jE,jF]
          refine wpAnyH_done (by kernel_rfl) ?_ _
          have HPW:=Lib.hid hpW
          clear hpW hHeld n0 n1 n2 n3 n4
          obtain ⟨A5,c5,A6,c6,e5,e6⟩:=HOy4.out.form
          rw [List.length_append,HL1.out,List.length_singleton] at e5
          rw [List.length_append,HL2.out,List.length_singleton] at e6
          subst e5
          subst e6
          have HGf:=Lib.hid (grown_underB (HG3.out.trans HG8.out) HBy4.out (Nat.le_succ _))
          have HMf:=Lib.hid (HM8.out.below HBy4.out (by have:=HSB.out; omega))
          go_wp2_with fail
          go_roundw
          case rel =>
           have hsb:s.b ≠ w.heap.size:=by have:=HSB.out; omega
           have hrk:r - (k+1)=r':=by omega
           obtain ⟨g1,g2⟩:=hFO.out
           rw [HFO3.out] at g1 g2
           refine ⟨k+1,m+1,l',t',l1 ++ [mc],l2 ++ [mh],by omega,by omega,by rw [List.length_append,HL1.out]; rfl,by rw [List.length_append,HL2.out]; rfl,rfl,?_,?_,?_,?_,?_,?_⟩
           ·exact ((HOy4.out.set (p:=⟨w.heap.size,0,none⟩) (Nat.lt_succ_self _) _).set (p:=⟨w.heap.size,1,none⟩) (Nat.lt_succ_self _) _).set (p:=⟨w.heap.size,2,none⟩) (Nat.lt_succ_self _) _
           ·exact grown_set (grown_set (grown_set HGf.out (p:=⟨w.heap.size,0,none⟩) (Nat.le_refl _) _) (p:=⟨w.heap.size,1,none⟩) (Nat.le_refl _) _) (p:=⟨w.heap.size,2,none⟩) (Nat.le_refl _) _
           ·exact ((HMf.out.set (p:=⟨w.heap.size,0,none⟩) hsb _).set (p:=⟨w.heap.size,1,none⟩) hsb _).set (p:=⟨w.heap.size,2,none⟩) hsb _
           ·have h:=((HPW.out.set_ 0 (.int .i64 ((m:Int)+1))).set_ 1 (.int .i64 l')).set_ 2 (.int .i64 t')
            show Blk _ _ _ _
            simpa using h
           ·show _∧_∧_
            rw [hrk,HR.out]
            exact ⟨HQ.out.1,HQ.out.2,HWW.out⟩
           ·show _∧_
            rw [hrk]
            exact ⟨by rw [← g1,List.append_assoc]; rfl,by rw [← g2,List.append_assoc]; rfl⟩
          case measure => simp [lenOf]; omega
         ·have HKK:=Lib.hid hK
          clear hK
          go_simp
          obtain ⟨y5,hWn⟩:∃ v,v=y1.alloc (.cells #[.int .i64 mh] 3):=⟨_,rfl⟩
          obtain ⟨bh5,hbb⟩:∃ n,n=y1.heap.size:=⟨_,rfl⟩
          rw [← hWn, ← hbb]
          have hbn5:Below y1.heap.size y1 y5:=by rw [hWn]; exact (below_al (Below.refl _ _):Below _ _ (y1.alloc (.cells #[.int .i64 mh] 3)))
          have HOy5:=Lib.hid (HOy1.out.below hbn5)
          have HLy5:Hid (RInts y5 (some ⟨bh5,0,none⟩) [mh]):=by show RInts _ _ _; rw [hWn,hbb]; exact (rints_lit y1 #[.int .i64 mh] 3 (l := [mh]) rfl)
          have HLy5c:=Lib.hid (HLy1.out.below hbn5)
          have HBy5:=Lib.hid (HBy1.out.trans (hbn5.mono (by have:=HBy1.out.size; have:=HBW8.out; omega)))
          have HQbh5:Hid (nb < bh5):=by show _ < _; rw [hbb]; have h1:=HBy1.out.size; have h2:=HN8.out.lt; have h3:y1.heap.size=y1.heap.size:=rfl; omega
          clear hWn hbb
          refine HKK.out _ _ (⟨cell_below (cell_below (n0) hbn1) hbn5,cell_below (cell_below (n1) hbn1) hbn5,cell_below (cell_below (n2) hbn1) hbn5,cell_below (cell_below (n3) hbn1) hbn5,cell_below (cell_below (n4) hbn1) hbn5⟩) (fun hH2 => ?_)
          clear HKK K
          replace hHeld:=hH2
          clear hH2
          try simp only [jA,jB,jC,Act.put,jD,jE,jF]
          refine wpAnyH_ready (rs := [4]) (by kernel_rfl) (by simp) ?_
          refine (AllReadyH.cons rfl (fun K hK => ?_) AllReadyH.nil)
          have HKK:=Lib.hid hK
          clear hK
          have how6:=HOy5.out.1
          rw [HL1.out] at how6
          refine step_append_any _ (by rfl) _ _ _ (by rfl) (w.heap.size+1) 3 i0 (.int .i64 0) 1 8 Tryz.underlying22 hi hz0 hz1 hz2 rfl (by decide) _ k (ints l1) (by rfl) how6 y5.heap.size (some ⟨bc1,0,none⟩) 1 1 [.int .i64 mc] (by rfl) (show Reads _ _ 1 _ 1 _ from HLy5c.out) (by intro u hu; rw [List.mem_singleton] at hu; subst hu; rfl) (by unfold maxLen; omega) (by omega) (by have h1:=HBy5.out.size; have h2:=HBW8.out; omega) ?_
          intro v6 y6 hob6 hgb6 hvb6
          have HOy6:=Lib.hid (HOy5.out.push1 (x:=mc) (by rw [HL1.out]; exact hob6) hgb6 hvb6)
          have HLy6h:=Lib.hid (HLy5.out.other hgb6 (fun ad e h => by injection e with e; rw [← e] at h; have h1:bh5 < mb:=HV.out.1 _ h.symm; have h2:=HQbh5.out; have h3:=HMN.out.1; omega))
          have HBy6:=Lib.hid (HBy5.out.grown hgb6 (by have h1:=HBy5.out.size; have h2:=HBW8.out; omega) (fun q hq => (how6.lt q hq).1))
          refine HKK.out _ _ (⟨cell_grown hgb6 (cell_below (cell_below (n0) hbn1) hbn5) (fun e => by have h1:=HV.out.1 _ e.symm; have h2:=HMN.out.1; first | omega | (change mb < mb at h1; omega) | (change nb < mb at h1; omega)),cell_grown hgb6 (cell_below (cell_below (n1) hbn1) hbn5) (fun e => by have h1:=HV.out.1 _ e.symm; have h2:=HMN.out.1; first | omega | (change mb < mb at h1; omega) | (change nb < mb at h1; omega)),cell_grown hgb6 (cell_below (cell_below (n2) hbn1) hbn5) (fun e => by have h1:=HV.out.1 _ e.symm; have h2:=HMN.out.1; first | omega | (change mb < mb at h1; omega) | (change nb < mb at h1; omega)),cell_grown hgb6 (cell_below (cell_below (n3) hbn1) hbn5) (fun e => by have h1:=HV.out.1 _ e.symm; have h2:=HMN.out.1; first | omega | (change mb < mb at h1; omega) | (change nb < mb at h1; omega)),cell_grown hgb6 (cell_below (cell_below (n4) hbn1) hbn5) (fun e => by have h1:=HV.out.1 _ e.symm; have h2:=HMN.out.1; first | omega | (change mb < mb at h1; omega) | (change nb < mb at h1; omega))⟩) (fun hH2 => ?_)
          clear HKK K
          replace hHeld:=hH2
          clear hH2
          try simp only [jA,jB,jC,Act.put,jD,jE,jF]
          clear how6 hob6
          refine wpAnyH_ready (rs := [9]) (by kernel_rfl) (by simp) ?_
          refine (AllReadyH.cons rfl (fun K hK => ?_) AllReadyH.nil)
          have HKK:=Lib.hid hK
          clear hK
          have how7:=HOy6.out.2.1
          rw [HL2.out] at how7
          refine step_append_any _ (by rfl) _ _ _ (by rfl) (w.heap.size+1) 3 i0 (.int .i64 0) 1 8 Tryz.underlying22 hi hz0 hz1 hz2 rfl (by decide) _ k (ints l2) (by rfl) how7 y6.heap.size (some ⟨bh5,0,none⟩) 1 1 [.int .i64 mh] (by rfl) (show Reads _ _ 1 _ 1 _ from HLy6h.out) (by intro u hu; rw [List.mem_singleton] at hu; subst hu; rfl) (by unfold maxLen; omega) (by omega) (by have h1:=HBy6.out.size; have h2:=HBW8.out; omega) ?_
          intro v7 y7 hob7 hgb7 hvb7
          have HOy7:=Lib.hid (HOy6.out.push2 (x:=mh) (by rw [HL2.out]; exact hob7) hgb7 hvb7)
          have HBy7:=Lib.hid (HBy6.out.grown hgb7 (by have h1:=HBy6.out.size; have h2:=HBW8.out; omega) (fun q hq => (how7.lt q hq).1))
          refine HKK.out _ _ (⟨cell_grown hgb7 (cell_grown hgb6 (cell_below (cell_below (n0) hbn1) hbn5) (fun e => by have h1:=HV.out.1 _ e.symm; have h2:=HMN.out.1; first | omega | (change mb < mb at h1; omega) | (change nb < mb at h1; omega))) (fun e => by have h1:=HV.out.2.1 _ e.symm; have h2:=HMN.out.1; first | omega | (change mb < mb at h1; omega) | (change nb < mb at h1; omega)),cell_grown hgb7 (cell_grown hgb6 (cell_below (cell_below (n1) hbn1) hbn5) (fun e => by have h1:=HV.out.1 _ e.symm; have h2:=HMN.out.1; first | omega | (change mb < mb at h1; omega) | (change nb < mb at h1; omega))) (fun e => by have h1:=HV.out.2.1 _ e.symm; have h2:=HMN.out.1; first | omega | (change mb < mb at h1; omega) | (change nb < mb at h1; omega)),cell_grown hgb7 (cell_grown hgb6 (cell_below (cell_below (n2) hbn1) hbn5) (fun e => by have h1:=HV.out.1 _ e.symm; have h2:=HMN.out.1; first | omega | (change mb < mb at h1; omega) | (change nb < mb at h1; omega))) (fun e => by have h1:=HV.out.2.1 _ e.symm; have h2:=HMN.out.1; first | omega | (change mb < mb at h1; omega) | (change nb < mb at h1; omega)),cell_grown hgb7 (cell_grown hgb6 (cell_below (cell_below (n3) hbn1) hbn5) (fun e => by have h1:=HV.out.1 _ e.symm; have h2:=HMN.out.1; first | omega | (change mb < mb at h1; omega) | (change nb < mb at h1; omega))) (fun e => by have h1:=HV.out.2.1 _ e.symm; have h2:=HMN.out.1; first | omega | (change mb < mb at h1; omega) | (change nb < mb at h1; omega)),cell_grown hgb7 (cell_grown hgb6 (cell_below (cell_below (n4) hbn1) hbn5) (fun e => by have h1:=HV.out.1 _ e.symm; have h2:=HMN.out.1; first | omega | (change mb < mb at h1; omega) | (change nb < mb at h1; omega))) (fun e => by have h1:=HV.out.2.1 _ e.symm; have h2:=HMN.out.1; first | omega | (change mb < mb at h1; omega) | (change nb < mb at h1; omega))⟩) (fun hH2 => ?_)
          clear HKK K
          replace hHeld:=hH2
          clear hH2
          try simp only [jA,jB,jC,Act.put,jD,jE,jF]
          clear how7 hob7
          refine tk 11 ?_
          try simp only [jA,jB,jC,Act.put,jD,jE,jF]
          refine tk 12 ?_
          try simp only [jA,jB,jC,Act.put,jD,jE,jF]
          have hpW:=HP8.out.below HBy7.out (by omega)
          have z0:=hpW.cell 0
          have f0:=hpW.frozen 0
          have z1:=hpW.cell 1
          have f1:=hpW.frozen 1
          have z2:=hpW.cell 2
          have f2:=hpW.frozen 2
          simp at z0 z1 z2
          have gm:mb ≠ w.heap.size:=by have h1:=HMN.out.2; omega
          have gn:nb ≠ w.heap.size:=by have h1:=HMN.out.2; have h2:=HMN.out.1; omega
          refine wpAnyH_ready (rs := [13]) (by kernel_rfl) (by simp) ?_
          refine (AllReadyH.cons rfl (fun K hK => ?_) AllReadyH.nil)
          have HKK:=Lib.hid hK
          clear hK
          go_simp
          refine HKK.out _ _ (⟨cell_setG (cell_setG (cell_setG (cell_grown hgb7 (cell_grown hgb6 (cell_below (cell_below (n0) hbn1) hbn5) (fun e => by have h1:=HV.out.1 _ e.symm; have h2:=HMN.out.1; first | omega | (change mb < mb at h1; omega) | (change nb < mb at h1; omega))) (fun e => by have h1:=HV.out.2.1 _ e.symm; have h2:=HMN.out.1; first | omega | (change mb < mb at h1; omega) | (change nb < mb at h1; omega))) gm) gm) gm,cell_setG (cell_setG (cell_setG (cell_grown hgb7 (cell_grown hgb6 (cell_below (cell_below (n1) hbn1) hbn5) (fun e => by have h1:=HV.out.1 _ e.symm; have h2:=HMN.out.1; first | omega | (change mb < mb at h1; omega) | (change nb < mb at h1; omega))) (fun e => by have h1:=HV.out.2.1 _ e.symm; have h2:=HMN.out.1; first | omega | (change mb < mb at h1; omega) | (change nb < mb at h1; omega))) gm) gm) gm,cell_setG (cell_setG (cell_setG (cell_grown hgb7 (cell_grown hgb6 (cell_below (cell_below (n2) hbn1) hbn5) (fun e => by have h1:=HV.out.1 _ e.symm; have h2:=HMN.out.1; first | omega | (change mb < mb at h1; omega) | (change nb < mb at h1; omega))) (fun e => by have h1:=HV.out.2.1 _ e.symm; have h2:=HMN.out.1; first | omega | (change mb < mb at h1; omega) | (change nb < mb at h1; omega))) gn) gn) gn,cell_setG (cell_setG (cell_setG (cell_grown hgb7 (cell_grown hgb6 (cell_below (cell_below (n3) hbn1) hbn5) (fun e => by have h1:=HV.out.1 _ e.symm; have h2:=HMN.out.1; first | omega | (change mb < mb at h1; omega) | (change nb < mb at h1; omega))) (fun e => by have h1:=HV.out.2.1 _ e.symm; have h2:=HMN.out.1; first | omega | (change mb < mb at h1; omega) | (change nb < mb at h1; omega))) gn) gn) gn,cell_setG (cell_setG (cell_setG (cell_grown hgb7 (cell_grown hgb6 (cell_below (cell_below (n4) hbn1) hbn5) (fun e => by have h1:=HV.out.1 _ e.symm; have h2:=HMN.out.1; first | omega | (change mb < mb at h1; omega) | (change nb < mb at h1; omega))) (fun e => by have h1:=HV.out.2.1 _ e.symm; have h2:=HMN.out.1; first | omega | (change mb < mb at h1; omega) | (change nb < mb at h1; omega))) gn) gn) gn⟩) (fun hH2 => ?_)
          clear HKK K
          replace hHeld:=hH2
          clear hH2
          try simp only [jA,jB,jC,Act.put,jD,jE,jF]
          refine wpAnyH_done (by kernel_rfl) ?_ _
          have HPW:=Lib.hid hpW
          clear hpW hHeld n0 n1 n2 n3 n4
          obtain ⟨A5,c5,A6,c6,e5,e6⟩:=HOy7.out.form
          rw [List.length_append,HL1.out,List.length_singleton] at e5
          rw [List.length_append,HL2.out,List.length_singleton] at e6
          subst e5
          subst e6
          have HGf:=Lib.hid (grown_underB (HG3.out.trans HG8.out) HBy7.out (Nat.le_succ _))
          have HMf:=Lib.hid (HM8.out.below HBy7.out (by have:=HSB.out; omega))
          go_wp2_with fail
          go_roundw
          case rel =>
           have hsb:s.b ≠ w.heap.size:=by have:=HSB.out; omega
           have hrk:r - (k+1)=r':=by omega
           obtain ⟨g1,g2⟩:=hFO.out
           rw [HFO3.out] at g1 g2
           refine ⟨k+1,m+1,l',t',l1 ++ [mc],l2 ++ [mh],by omega,by omega,by rw [List.length_append,HL1.out]; rfl,by rw [List.length_append,HL2.out]; rfl,rfl,?_,?_,?_,?_,?_,?_⟩
           ·exact ((HOy7.out.set (p:=⟨w.heap.size,0,none⟩) (Nat.lt_succ_self _) _).set (p:=⟨w.heap.size,1,none⟩) (Nat.lt_succ_self _) _).set (p:=⟨w.heap.size,2,none⟩) (Nat.lt_succ_self _) _
           ·exact grown_set (grown_set (grown_set HGf.out (p:=⟨w.heap.size,0,none⟩) (Nat.le_refl _) _) (p:=⟨w.heap.size,1,none⟩) (Nat.le_refl _) _) (p:=⟨w.heap.size,2,none⟩) (Nat.le_refl _) _
           ·exact ((HMf.out.set (p:=⟨w.heap.size,0,none⟩) hsb _).set (p:=⟨w.heap.size,1,none⟩) hsb _).set (p:=⟨w.heap.size,2,none⟩) hsb _
           ·have h:=((HPW.out.set_ 0 (.int .i64 ((m:Int)+1))).set_ 1 (.int .i64 l')).set_ 2 (.int .i64 t')
            show Blk _ _ _ _
            simpa using h
           ·show _∧_∧_
            rw [hrk,HR.out]
            exact ⟨HQ.out.1,HQ.out.2,HWW.out⟩
           ·show _∧_
            rw [hrk]
            exact ⟨by rw [← g1,List.append_assoc]; rfl,by rw [← g2,List.append_assoc]; rfl⟩
          case measure => simp [lenOf]; omega
        ·have HKK:=Lib.hid hK
         clear hK
         go_simp
         obtain ⟨y8,hWn⟩:∃ v,v=(w8.alloc (.cells #[.int .i64 mh] 3)).drew:=⟨_,rfl⟩
         obtain ⟨bh8,hbb⟩:∃ n,n=w8.heap.size:=⟨_,rfl⟩
         rw [← hWn, ← hbb]
         have hbn8:Below w8.drew.heap.size w8.drew y8:=by rw [hWn]; exact (below_al (Below.refl _ _):Below _ _ (w8.drew.alloc (.cells #[.int .i64 mh] 3)))
         have HOy8:=Lib.hid (HOd.out.below hbn8)
         have HLy8:Hid (RInts y8 (some ⟨bh8,0,none⟩) [mh]):=by show RInts _ _ _; rw [hWn,hbb]; exact (rints_lit w8.drew #[.int .i64 mh] 3 (l := [mh]) rfl)
         have HBy8:=Lib.hid (HBd.out.trans (hbn8.mono (by have:=HBd.out.size; have:=HBW8.out; omega)))
         have HQbh8:Hid (nb < bh8):=by show _ < _; rw [hbb]; have h1:=HBd.out.size; have h2:=HN8.out.lt; have h3:w8.drew.heap.size=w8.heap.size:=rfl; omega
         clear hWn hbb
         refine HKK.out _ _ (⟨cell_below (n0) hbn8,cell_below (n1) hbn8,cell_below (n2) hbn8,cell_below (n3) hbn8,cell_below (n4) hbn8⟩) (fun hH2 => ?_)
         clear HKK K
         replace hHeld:=hH2
         clear hH2
         try simp only [jA,jB,jC,Act.put,jD,jE,jF]
         refine wpAnyH_ready (rs := [3]) (by kernel_rfl) (by simp) ?_
         refine (AllReadyH.cons rfl (fun K hK => ?_) AllReadyH.nil)
         have HKK:=Lib.hid hK
         clear hK
         go_simp
         obtain ⟨y9,hWn⟩:∃ v,v=y8.alloc (.cells #[.int .i64 mc] 3):=⟨_,rfl⟩
         obtain ⟨bc9,hbb⟩:∃ n,n=y8.heap.size:=⟨_,rfl⟩
         rw [← hWn, ← hbb]
         have hbn9:Below y8.heap.size y8 y9:=by rw [hWn]; exact (below_al (Below.refl _ _):Below _ _ (y8.alloc (.cells #[.int .i64 mc] 3)))
         have HOy9:=Lib.hid (HOy8.out.below hbn9)
         have HLy9:Hid (RInts y9 (some ⟨bc9,0,none⟩) [mc]):=by show RInts _ _ _; rw [hWn,hbb]; exact (rints_lit y8 #[.int .i64 mc] 3 (l := [mc]) rfl)
         have HLy9h:=Lib.hid (HLy8.out.below hbn9)
         have HBy9:=Lib.hid (HBy8.out.trans (hbn9.mono (by have:=HBy8.out.size; have:=HBW8.out; omega)))
         have HQbc9:Hid (nb < bc9):=by show _ < _; rw [hbb]; have h1:=HBy8.out.size; have h2:=HN8.out.lt; have h3:y8.heap.size=y8.heap.size:=rfl; omega
         clear hWn hbb
         refine HKK.out _ _ (⟨cell_below (cell_below (n0) hbn8) hbn9,cell_below (cell_below (n1) hbn8) hbn9,cell_below (cell_below (n2) hbn8) hbn9,cell_below (cell_below (n3) hbn8) hbn9,cell_below (cell_below (n4) hbn8) hbn9⟩) (fun hH2 => ?_)
         clear HKK K
         replace hHeld:=hH2
         clear hH2
         try simp only [jA,jB,jC,Act.put,jD,jE,jF]
         refine wpAnyH_ready (rs := [4]) (by kernel_rfl) (by simp) ?_
         refine (AllReadyH.cons rfl (fun K hK => ?_) AllReadyH.nil)
         have HKK:=Lib.hid hK
         clear hK
         have how10:=HOy9.out.1
         rw [HL1.out] at how10
         refine step_append_any _ (by rfl) _ _ _ (by rfl) (w.heap.size+1) 3 i0 (.int .i64 0) 1 8 Tryz.underlying22 hi hz0 hz1 hz2 rfl (by decide) _ k (ints l1) (by rfl) how10 y9.heap.size (some ⟨bc9,0,none⟩) 1 1 [.int .i64 mc] (by rfl) (show Reads _ _ 1 _ 1 _ from HLy9.out) (by intro u hu; rw [List.mem_singleton] at hu; subst hu; rfl) (by unfold maxLen; omega) (by omega) (by have h1:=HBy9.out.size; have h2:=HBW8.out; omega) ?_
         intro v10 y10 hob10 hgb10 hvb10
         have HOy10:=Lib.hid (HOy9.out.push1 (x:=mc) (by rw [HL1.out]; exact hob10) hgb10 hvb10)
         have HLy10h:=Lib.hid (HLy9h.out.other hgb10 (fun ad e h => by injection e with e; rw [← e] at h; have h1:bh8 < mb:=HV.out.1 _ h.symm; have h2:=HQbh8.out; have h3:=HMN.out.1; omega))
         have HBy10:=Lib.hid (HBy9.out.grown hgb10 (by have h1:=HBy9.out.size; have h2:=HBW8.out; omega) (fun q hq => (how10.lt q hq).1))
         refine HKK.out _ _ (⟨cell_grown hgb10 (cell_below (cell_below (n0) hbn8) hbn9) (fun e => by have h1:=HV.out.1 _ e.symm; have h2:=HMN.out.1; first | omega | (change mb < mb at h1; omega) | (change nb < mb at h1; omega)),cell_grown hgb10 (cell_below (cell_below (n1) hbn8) hbn9) (fun e => by have h1:=HV.out.1 _ e.symm; have h2:=HMN.out.1; first | omega | (change mb < mb at h1; omega) | (change nb < mb at h1; omega)),cell_grown hgb10 (cell_below (cell_below (n2) hbn8) hbn9) (fun e => by have h1:=HV.out.1 _ e.symm; have h2:=HMN.out.1; first | omega | (change mb < mb at h1; omega) | (change nb < mb at h1; omega)),cell_grown hgb10 (cell_below (cell_below (n3) hbn8) hbn9) (fun e => by have h1:=HV.out.1 _ e.symm; have h2:=HMN.out.1; first | omega | (change mb < mb at h1; omega) | (change nb < mb at h1; omega)),cell_grown hgb10 (cell_below (cell_below (n4) hbn8) hbn9) (fun e => by have h1:=HV.out.1 _ e.symm; have h2:=HMN.out.1; first | omega | (change mb < mb at h1; omega) | (change nb < mb at h1; omega))⟩) (fun hH2 => ?_)
         clear HKK K
         replace hHeld:=hH2
         clear hH2
         try simp only [jA,jB,jC,Act.put,jD,jE,jF]
         clear how10 hob10
         refine wpAnyH_ready (rs := [9]) (by kernel_rfl) (by simp) ?_
         refine (AllReadyH.cons rfl (fun K hK => ?_) AllReadyH.nil)
         have HKK:=Lib.hid hK
         clear hK
         have how11:=HOy10.out.2.1
         rw [HL2.out] at how11
         refine step_append_any _ (by rfl) _ _ _ (by rfl) (w.heap.size+1) 3 i0 (.int .i64 0) 1 8 Tryz.underlying22 hi hz0 hz1 hz2 rfl (by decide) _ k (ints l2) (by rfl) how11 y10.heap.size (some ⟨bh8,0,none⟩) 1 1 [.int .i64 mh] (by rfl) (show Reads _ _ 1 _ 1 _ from HLy10h.out) (by intro u hu; rw [List.mem_singleton] at hu; subst hu; rfl) (by unfold maxLen; omega) (by omega) (by have h1:=HBy10.out.size; have h2:=HBW8.out; omega) ?_
         intro v11 y11 hob11 hgb11 hvb11
         have HOy11:=Lib.hid (HOy10.out.push2 (x:=mh) (by rw [HL2.out]; exact hob11) hgb11 hvb11)
         have HBy11:=Lib.hid (HBy10.out.grown hgb11 (by have h1:=HBy10.out.size; have h2:=HBW8.out; omega) (fun q hq => (how11.lt q hq).1))
         refine HKK.out _ _ (⟨cell_grown hgb11 (cell_grown hgb10 (cell_below (cell_below (n0) hbn8) hbn9) (fun e => by have h1:=HV.out.1 _ e.symm; have h2:=HMN.out.1; first | omega | (change mb < mb at h1; omega) | (change nb < mb at h1; omega))) (fun e => by have h1:=HV.out.2.1 _ e.symm; have h2:=HMN.out.1; first | omega | (change mb < mb at h1; omega) | (change nb < mb at h1; omega)),cell_grown hgb11 (cell_grown hgb10 (cell_below (cell_below (n1) hbn8) hbn9) (fun e => by have h1:=HV.out.1 _ e.symm; have h2:=HMN.out.1; first | omega | (change mb < mb at h1; omega) | (change nb < mb at h1; omega))) (fun e => by have h1:=HV.out.2.1 _ e.symm; have h2:=HMN.out.1; first | omega | (change mb < mb at h1; omega) | (change nb < mb at h1; omega)),cell_grown hgb11 (cell_grown hgb10 (cell_below (cell_below (n2) hbn8) hbn9) (fun e => by have h1:=HV.out.1 _ e.symm; have h2:=HMN.out.1; first | omega | (change mb < mb at h1; omega) | (change nb < mb at h1; omega))) (fun e => by have h1:=HV.out.2.1 _ e.symm; have h2:=HMN.out.1; first | omega | (change mb < mb at h1; omega) | (change nb < mb at h1; omega)),cell_grown hgb11 (cell_grown hgb10 (cell_below (cell_below (n3) hbn8) hbn9) (fun e => by have h1:=HV.out.1 _ e.symm; have h2:=HMN.out.1; first | omega | (change mb < mb at h1; omega) | (change nb < mb at h1; omega))) (fun e => by have h1:=HV.out.2.1 _ e.symm; have h2:=HMN.out.1; first | omega | (change mb < mb at h1; omega) | (change nb < mb at h1; omega)),cell_grown hgb11 (cell_grown hgb10 (cell_below (cell_below (n4) hbn8) hbn9) (fun e => by have h1:=HV.out.1 _ e.symm; have h2:=HMN.out.1; first | omega | (change mb < mb at h1; omega) | (change nb < mb at h1; omega))) (fun e => by have h1:=HV.out.2.1 _ e.symm; have h2:=HMN.out.1; first | omega | (change mb < mb at h1; omega) | (change nb < mb at h1; omega))⟩) (fun hH2 => ?_)
         clear HKK K
         replace hHeld:=hH2
         clear hH2
         try simp only [jA,jB,jC,Act.put,jD,jE,jF]
         clear how11 hob11
         refine tk 11 ?_
         try simp only [jA,jB,jC,Act.put,jD,jE,jF]
         refine tk 12 ?_
         try simp only [jA,jB,jC,Act.put,jD,jE,jF]
         have hpW:=HP8.out.below HBy11.out (by omega)
         have z0:=hpW.cell 0
         have f0:=hpW.frozen 0
         have z1:=hpW.cell 1
         have f1:=hpW.frozen 1
         have z2:=hpW.cell 2
         have f2:=hpW.frozen 2
         simp at z0 z1 z2
         have gm:mb ≠ w.heap.size:=by have h1:=HMN.out.2; omega
         have gn:nb ≠ w.heap.size:=by have h1:=HMN.out.2; have h2:=HMN.out.1; omega
         refine wpAnyH_ready (rs := [13]) (by kernel_rfl) (by simp) ?_
         refine (AllReadyH.cons rfl (fun K hK => ?_) AllReadyH.nil)
         have HKK:=Lib.hid hK
         clear hK
         go_simp
         refine HKK.out _ _ (⟨cell_setG (cell_setG (cell_setG (cell_grown hgb11 (cell_grown hgb10 (cell_below (cell_below (n0) hbn8) hbn9) (fun e => by have h1:=HV.out.1 _ e.symm; have h2:=HMN.out.1; first | omega | (change mb < mb at h1; omega) | (change nb < mb at h1; omega))) (fun e => by have h1:=HV.out.2.1 _ e.symm; have h2:=HMN.out.1; first | omega | (change mb < mb at h1; omega) | (change nb < mb at h1; omega))) gm) gm) gm,cell_setG (cell_setG (cell_setG (cell_grown hgb11 (cell_grown hgb10 (cell_below (cell_below (n1) hbn8) hbn9) (fun e => by have h1:=HV.out.1 _ e.symm; have h2:=HMN.out.1; first | omega | (change mb < mb at h1; omega) | (change nb < mb at h1; omega))) (fun e => by have h1:=HV.out.2.1 _ e.symm; have h2:=HMN.out.1; first | omega | (change mb < mb at h1; omega) | (change nb < mb at h1; omega))) gm) gm) gm,cell_setG (cell_setG (cell_setG (cell_grown hgb11 (cell_grown hgb10 (cell_below (cell_below (n2) hbn8) hbn9) (fun e => by have h1:=HV.out.1 _ e.symm; have h2:=HMN.out.1; first | omega | (change mb < mb at h1; omega) | (change nb < mb at h1; omega))) (fun e => by have h1:=HV.out.2.1 _ e.symm; have h2:=HMN.out.1; first | omega | (change mb < mb at h1; omega) | (change nb < mb at h1; omega))) gn) gn) gn,cell_setG (cell_setG (cell_setG (cell_grown hgb11 (cell_grown hgb10 (cell_below (cell_below (n3) hbn8) hbn9) (fun e => by have h1:=HV.out.1 _ e.symm; have h2:=HMN.out.1; first | omega | (change mb < mb at h1; omega) | (change nb < mb at h1; omega))) (fun e => by have h1:=HV.out.2.1 _ e.symm; have h2:=HMN.out.1; first | omega | (change mb < mb at h1; omega) | (change nb < mb at h1; omega))) gn) gn) gn,cell_setG (cell_setG (cell_setG (cell_grown hgb11 (cell_grown hgb10 (cell_below (cell_below (n4) hbn8) hbn9) (fun e => by have h1:=HV.out.1 _ e.symm; have h2:=HMN.out.1; first | omega | (change mb < mb at h1; omega) | (change nb < mb at h1; omega))) (fun e => by have h1:=HV.out.2.1 _ e.symm; have h2:=HMN.out.1; first | omega | (change mb < mb at h1; omega) | (change nb < mb at h1; omega))) gn) gn) gn⟩) (fun hH2 => ?_)
         clear HKK K
         replace hHeld:=hH2
         clear hH2
         try simp only [jA,jB,jC,Act.put,jD,jE,jF]
         refine wpAnyH_done (by kernel_rfl) ?_ _
         have HPW:=Lib.hid hpW
         clear hpW hHeld n0 n1 n2 n3 n4
         obtain ⟨A5,c5,A6,c6,e5,e6⟩:=HOy11.out.form
         rw [List.length_append,HL1.out,List.length_singleton] at e5
         rw [List.length_append,HL2.out,List.length_singleton] at e6
         subst e5
         subst e6
         have HGf:=Lib.hid (grown_underB (HG3.out.trans HG8.out) HBy11.out (Nat.le_succ _))
         have HMf:=Lib.hid (HM8.out.below HBy11.out (by have:=HSB.out; omega))
         go_wp2_with fail
         go_roundw
         case rel =>
          have hsb:s.b ≠ w.heap.size:=by have:=HSB.out; omega
          have hrk:r - (k+1)=r':=by omega
          obtain ⟨g1,g2⟩:=hFO.out
          rw [HFO3.out] at g1 g2
          refine ⟨k+1,m+1,l',t',l1 ++ [mc],l2 ++ [mh],by omega,by omega,by rw [List.length_append,HL1.out]; rfl,by rw [List.length_append,HL2.out]; rfl,rfl,?_,?_,?_,?_,?_,?_⟩
          ·exact ((HOy11.out.set (p:=⟨w.heap.size,0,none⟩) (Nat.lt_succ_self _) _).set (p:=⟨w.heap.size,1,none⟩) (Nat.lt_succ_self _) _).set (p:=⟨w.heap.size,2,none⟩) (Nat.lt_succ_self _) _
          ·exact grown_set (grown_set (grown_set HGf.out (p:=⟨w.heap.size,0,none⟩) (Nat.le_refl _) _) (p:=⟨w.heap.size,1,none⟩) (Nat.le_refl _) _) (p:=⟨w.heap.size,2,none⟩) (Nat.le_refl _) _
          ·exact ((HMf.out.set (p:=⟨w.heap.size,0,none⟩) hsb _).set (p:=⟨w.heap.size,1,none⟩) hsb _).set (p:=⟨w.heap.size,2,none⟩) hsb _
          ·have h:=((HPW.out.set_ 0 (.int .i64 ((m:Int)+1))).set_ 1 (.int .i64 l')).set_ 2 (.int .i64 t')
           show Blk _ _ _ _
           simpa using h
          ·show _∧_∧_
           rw [hrk,HR.out]
           exact ⟨HQ.out.1,HQ.out.2,HWW.out⟩
          ·show _∧_
           rw [hrk]
           exact ⟨by rw [← g1,List.append_assoc]; rfl,by rw [← g2,List.append_assoc]; rfl⟩
         case measure => simp [lenOf]; omega
       ·have hwe:(cc+R == s.x.p.least s.u.l (r'+1) lv' tm')=false:=by rw [beq_eq_false_iff_ne]; exact heq
        have HN:=Lib.hid (HTK.out (by rw [HGS.out,decide_eq_false heq,Bool.and_false]))
        clear heq
        go_wp2_with fail
        go_roundw
        case rel => exact ⟨j+1,by omega,by go_num,rfl,rfl,HG8.out,HM8.out,HN.out⟩
        case measure => simp [intOf]; omega
    ·exfalso
     obtain ⟨a,ha,hb⟩:=HEX.out
     rw [← List.take_of_length_le (l:=M) (i:=j) (by omega)] at ha
     rw [hNO.out a ha] at hb
     cases hb
  ·have HFIN:Hid (FollowOut s (s.x.p.follow s.u.l r lv tm) w (.returned (.tuple #[.slice A1 k c1,.slice A2 k c2])) w1):=by
    obtain ⟨f1,f2⟩:=hFO.out
    have hlen:(s.x.p.follow s.u.l r lv tm).length=k:=by
     have:=congrArg List.length f1
     rw [hkr,Nat.sub_self] at this
     simp only [Pb.follow,List.map_nil,List.append_nil,List.length_map] at this
     omega
    rw [hkr,Nat.sub_self] at f1 f2
    simp only [Pb.follow,List.map_nil,List.append_nil] at f1 f2
    have ho1:=HO1.out.1
    have ho2:=HO1.out.2.1
    rw [hl1] at ho1
    rw [hl2] at ho2
    refine ⟨A1,c1,A2,c2,by rw [hlen],?_,?_,?_,?_,?_,HG1.out,HM1.out⟩
    ·rw [← f1]; unfold RInts; rw [hl1]; exact Reads.of_own ho1
    ·rw [← f2]; unfold RInts; rw [hl2]; exact Reads.of_own ho2
    ·rw [hlen]; exact own_cap ho1
    ·rw [hlen]; exact own_cap ho2
    ·rintro ad (e | e)
     ·have:=own_fresh ho1 ad e; omega
     ·have:=own_fresh ho2 ad e; omega
   clear hFO hIN
   go_wp2_with fail
   refine bodyPost_ret (v := .tuple #[.slice A1 k c1,.slice A2 k c2]) (by simp [results,Tryz.results46,go_sem]) rfl ?_
   exact HFIN.out
end Go.Proofs.YtnppngaabfhkpaaGreat
