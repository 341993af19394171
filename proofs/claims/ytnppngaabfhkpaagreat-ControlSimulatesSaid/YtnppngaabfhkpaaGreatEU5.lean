/-
  The walks of layer 43 (optimum), part 5: the least cost.
-/
import Derived.Test.YtnppngaabfhkpaaGreatEU3
import Derived.Test.YtnppngaabfhkpaaGreatEPP4
namespace Go.Proofs.YtnppngaabfhkpaaGreat
open Go.RowKit
attribute [local go_sem ↓] Go.wp_at_zero Go.wp_at_succ
def CostOut (s:SM) (v:Int) (w:World) (e:Ending) (w':World):Prop:=e = .returned (.int .i64 v)∧w.grownBy w' (some s.b)∧Memo w' s.b (s.x.p.memoF s.u.l)
theorem Pb.fold_next {p:Pb} {U:List Int} {i:Nat} {lv tm:Int} {rest:Int→Int→Int} {M:List (Int × Int)} {j:Nat} (hj:j < M.length) (b:Int) :
  (M.take (j+1)).foldl (p.better1 U i lv tm rest) b=p.better1 U i lv tm rest ((M.take j).foldl (p.better1 U i lv tm rest) b) M[j]:=by
 rw [List.take_succ_eq_append_getElem hj,List.foldl_append]
 rfl
theorem Pb.better1_some {p:Pb} {U:List Int} {i:Nat} {lv tm:Int} {rest:Int→Int→Int} {b c h:Int} {x:Int × Int × Int} (hx:p.move U i lv tm c h=some x) :
  p.better1 U i lv tm rest b (c,h)=if rest x.1 x.2.1=worstZ then b else if x.2.2+rest x.1 x.2.1 < b then x.2.2+rest x.1 x.2.1 else b:=by
 unfold Pb.better1
 rw [hx]
theorem Pb.better1_none {p:Pb} {U:List Int} {i:Nat} {lv tm:Int} {rest:Int→Int→Int} {b c h:Int} (hx:p.move U i lv tm c h=none):p.better1 U i lv tm rest b (c,h)=b:=by
 unfold Pb.better1
 rw [hx]
theorem Pb.moves_len {p:Pb} (g:p.Good) (i:Nat) (lv tm:Int):(p.moves i lv tm).length ≤ 3321:=by
 have hH:(p.room.valid.choices (i:Int) tm (p.outside.getD i 0)).length ≤ 41:=by
  unfold Rm.choices
  refine Nat.le_trans (List.length_filter_le _ _) ?_
  rw [upto_length,(Pb.room_ok g).2.2.2]
  have h1:=(Rm.good (Pb.room_ok g).1).s1
  omega
 have h1:=mvTo_len (C:=choicesZ p.bat lv) hH (choicesZ p.bat lv).length
 have e:p.moves i lv tm=mvTo (choicesZ p.bat lv) (p.room.valid.choices (i:Int) tm (p.outside.getD i 0)) (choicesZ p.bat lv).length:=by
  unfold mvTo
  rw [List.take_length]
  rfl
 have h2:=choicesZ_length p.bat lv
 rw [e]
 omega
set_option maxRecDepth 100000 in
set_option maxHeartbeats 64000000 in
theorem cost_any (g:Nat) (s:SM) (hck:s.x.p.chk=0) (hul:s.u.l.length=s.x.buy.l.length) (hu:∀ j,0 ≤ s.u.l.getD j 0∧s.u.l.getD j 0 ≤ 4000) (h24:s.x.buy.l.length ≤ 24) (r:Nat) :
  ∀ (i:Nat) (lv tm:Int) (w:World),i+r=s.x.buy.l.length→in64 lv→in64 tm→SX w g s→Memo w s.b (s.x.p.memoF s.u.l) →
  Calls Tryz.prog 45 #[.pointer (some ⟨g,0,none⟩),placeV i lv tm] w (CostOut s (s.x.p.least s.u.l r lv tm) w):=by
 induction r with
 | zero =>
  intro i lv tm w hir hlv htm hX hM
  have hie:((i:Int) == (s.x.buy.l.length:Int))=true:=by rw [beq_iff_eq]; omega
  show Calls _ _ _ _ (CostOut s 0 w)
  unfold placeV
  obtain ⟨W,hW⟩:∃ W,W=w.alloc (.cells #[.int .i64 i,.int .i64 lv,.int .i64 tm] 87):=⟨_,rfl⟩
  have hbW:Below w.heap.size w W:=by rw [hW]; exact below_al (Below.refl _ _)
  have hblk:Blk W w.heap.size 87 #[.int .i64 i,.int .i64 lv,.int .i64 tm]:=by rw [hW]; exact Blk.new _ _ _
  have HXW:=Lib.hid (hX.below hbW)
  have HMW:=Lib.hid (hM.below hbW hM.lt)
  have HBW:=Lib.hid hbW
  have HPL:=Lib.hid hblk
  have hWH:=Lib.hid hW
  clear hX hM hbW hblk hW
  go_enter Tryz.func45,Tryz.ntmps45
  go_upto_region 1 with fail
  rw [← hWH.out]
  clear hWH
  have k0:=HXW.out.blk.cell 0
  have p0:=HPL.out.cell 0
  simp [SM.cs] at k0 p0
  refine wp_region_held_drew (S:=(fun w' => Below W.heap.size W w'∧w'.cell? ⟨g,0,none⟩=some (.slice s.x.buy.A s.x.buy.l.length s.x.buy.c)∧w'.cell? ⟨w.heap.size,0,none⟩=some (.int .i64 i))) (by kernel_rfl) (⟨(Below.drew (Below.refl _ _)),k0,p0⟩) (fun hHeld => ?_)
  refine tk 0 ?_
  try simp only [jA,jB,Act.put,jD,jE,jF]
  refine tk 1 ?_
  try simp only [jA,jB,jC,Act.put,jD,jE,jF]
  refine tk 2 ?_
  try simp only [jA,jB,jC,Act.put,jD,jE,jF]
  refine tk 3 ?_
  try simp only [jA,jB,jC,Act.put,jD,jE,jF]
  refine tk 4 ?_
  try simp only [jA,jB,jC,Act.put,jD,jE,jF]
  refine tk 5 ?_
  try simp only [jA,jB,jC,Act.put,jD,jE,jF]
  refine tk 6 ?_
  try simp only [jA,jB,jC,Act.put,jD,jE,jF]
  refine tk 7 ?_
  try simp only [jA,jB,jC,Act.put,jD,jE,jF]
  refine tk 8 ?_
  try simp only [jA,jB,jC,Act.put,jD,jE,jF]
  refine tk 9 ?_
  try simp only [jA,jB,jC,Act.put,jD,jE,jF]
  refine wpAnyH_done (by kernel_rfl) ?_ _
  have hBd:Below W.heap.size W W.drew:=Below.drew (Below.refl _ _)
  have HX1:=Lib.hid (HXW.out.below hBd)
  have HM1:Hid (Memo W.drew s.b (s.x.p.memoF s.u.l)):=HMW.out.drew
  have HP1:=Lib.hid (HPL.out.below hBd HPL.out.lt)
  have HB1:=Lib.hid (HBW.out.trans (hBd.mono HBW.out.size))
  generalize W.drew=W1 at *
  clear hHeld hBd HXW HMW HPL HBW k0 p0
  have hGf:Hid (w.grownBy W1 (some s.b)):=grown_of_below HB1.out _
  go_wp2_with fail
  go_ret
  exact ⟨rfl,hGf.out,HM1.out⟩
 | succ r ih =>
  intro i lv tm w hir hlv htm hX hM
  have hie:((i:Int) == (s.x.buy.l.length:Int))=false:=by rw [beq_eq_false_iff_ne]; omega
  have hi:i < s.x.buy.l.length:=by omega
  have hnr:s.x.p.n - (r+1)=i:=by have:s.x.p.n=s.x.buy.l.length:=rfl; omega
  have hls:s.x.p.least s.u.l (r+1) lv tm=(s.x.p.moves i lv tm).foldl (s.x.p.better1 s.u.l i lv tm (s.x.p.least s.u.l r)) worstZ:=by rw [Pb.least,hnr]
  have hmf:s.x.p.memoF s.u.l i lv tm=s.x.p.least s.u.l (r+1) lv tm:=by
   unfold Pb.memoF
   rw [Int.toNat_natCast,show s.x.p.n - i=r+1 by have:s.x.p.n=s.x.buy.l.length:=rfl; omega]
  have hgd:=Pb.good hck
  have hih:=Lib.hid (fun lv tm w (h1:in64 lv) (h2:in64 tm) (h3:SX w g s) (h4:Memo w s.b (s.x.p.memoF s.u.l)) => ih (i+1) lv tm w (by omega) h1 h2 h3 h4)
  have hmo:=Lib.hid (fun W (q:SX W g s) => moves_any g s i lv tm W q hck hi)
  have haf:=Lib.hid (fun W (q:SX W g s) c h (a:0 ≤ h) (b:h ≤ 40) => after_any g s i lv tm c h W q hck hul hu hi a b)
  have hmin:=Lib.hid (fun c h x (q:s.x.p.move s.u.l i lv tm c h=some x) => Pb.move_in hgd q)
  have hmc:=Lib.hid (fun c h x (q:s.x.p.move s.u.l i lv tm c h=some x) => Pb.move_cost (Tf.good hgd.t) q)
  have hlb:=Lib.hid (fun a b => Pb.least_bd s.u.l (Tf.good hgd.t) r (by omega) a b)
  have hmem:∀ m ∈ s.x.p.moves i lv tm,0 ≤ m.2∧m.2 ≤ 40:=by
   intro m hm
   have h1:=(Pb.mem_moves.1 (show (m.1,m.2) ∈ _ from hm)).2
   rw [Rm.mem_choices] at h1
   have h2:=(Rm.good (Pb.room_ok hgd).1).s1
   have h3:=(Rm.good (Pb.room_ok hgd).1).s0
   rw [(Pb.room_ok hgd).2.2.2] at h1
   omega
  have HMEM:=Lib.hid hmem
  have HMLN:=Lib.hid (Pb.moves_len hgd i lv tm)
  have HLS:=Lib.hid hls
  have HMF:=Lib.hid hmf
  have HLV:=Lib.hid hlv
  have HTM:=Lib.hid htm
  have hr24:r ≤ 24:=by omega
  clear hls hmf hmem ih hgd hnr
  unfold placeV
  obtain ⟨W,hW⟩:∃ W,W=w.alloc (.cells #[.int .i64 i,.int .i64 lv,.int .i64 tm] 87):=⟨_,rfl⟩
  have hbW:Below w.heap.size w W:=by rw [hW]; exact below_al (Below.refl _ _)
  have hblk:Blk W w.heap.size 87 #[.int .i64 i,.int .i64 lv,.int .i64 tm]:=by rw [hW]; exact Blk.new _ _ _
  have HXW:=Lib.hid (hX.below hbW)
  have HMW:=Lib.hid (hM.below hbW hM.lt)
  have HBW:=Lib.hid hbW
  have HPL:=Lib.hid hblk
  have hWH:=Lib.hid hW
  clear hX hM hbW hblk hW
  go_enter Tryz.func45,Tryz.ntmps45
  go_upto_region 1 with fail
  rw [← hWH.out]
  clear hWH
  have k0:=HXW.out.blk.cell 0
  have p0:=HPL.out.cell 0
  simp [SM.cs] at k0 p0
  refine wp_region_held_drew (S:=(fun w' => Below W.heap.size W w'∧w'.cell? ⟨g,0,none⟩=some (.slice s.x.buy.A s.x.buy.l.length s.x.buy.c)∧w'.cell? ⟨w.heap.size,0,none⟩=some (.int .i64 i))) (by kernel_rfl) (⟨(Below.drew (Below.refl _ _)),k0,p0⟩) (fun hHeld => ?_)
  refine tk 0 ?_
  try simp only [jA,jB,Act.put,jD,jE,jF]
  refine tk 1 ?_
  try simp only [jA,jB,jC,Act.put,jD,jE,jF]
  refine tk 2 ?_
  try simp only [jA,jB,jC,Act.put,jD,jE,jF]
  refine tk 3 ?_
  try simp only [jA,jB,jC,Act.put,jD,jE,jF]
  refine tk 4 ?_
  try simp only [jA,jB,jC,Act.put,jD,jE,jF]
  refine tk 5 ?_
  try simp only [jA,jB,jC,Act.put,jD,jE,jF]
  refine tk 6 ?_
  try simp only [jA,jB,jC,Act.put,jD,jE,jF]
  refine tk 7 ?_
  try simp only [jA,jB,jC,Act.put,jD,jE,jF]
  refine tk 8 ?_
  try simp only [jA,jB,jC,Act.put,jD,jE,jF]
  refine tk 9 ?_
  try simp only [jA,jB,jC,Act.put,jD,jE,jF]
  refine wpAnyH_done (by kernel_rfl) ?_ _
  have hBd:Below W.heap.size W W.drew:=Below.drew (Below.refl _ _)
  have HX1:=Lib.hid (HXW.out.below hBd)
  have HM1:Hid (Memo W.drew s.b (s.x.p.memoF s.u.l)):=HMW.out.drew
  have HP1:=Lib.hid (HPL.out.below hBd HPL.out.lt)
  have HB1:=Lib.hid (HBW.out.trans (hBd.mono HBW.out.size))
  generalize W.drew=W1 at *
  clear hHeld hBd HXW HMW HPL HBW k0 p0
  clear hie
  go_upto_region 3 with fail
  have hBd:Below W1.heap.size W1 W1.drew:=Below.drew (Below.refl _ _)
  have HX2:=Lib.hid (HX1.out.below hBd)
  have HP2:=Lib.hid (HP1.out.below hBd HP1.out.lt)
  have HB2:=Lib.hid (HB1.out.trans (hBd.mono HB1.out.size))
  have HM2:Hid (Memo W1.drew s.b (s.x.p.memoF s.u.l)):=HM1.out.drew
  obtain ⟨v,ok,hlk,hok⟩:=HM2.out.look (show in64 (i:Int) from ⟨by omega,by omega⟩) HLV.out HTM.out
  have HOK:=Lib.hid hok
  clear hok hBd
  unfold placeV at hlk
  have k21:W1.drew.cell? ⟨g,21,none⟩=some (.map (some s.b)):=by have:=HX2.out.blk.cell 21; simpa [SM.cs] using this
  have p0:W1.drew.cell? ⟨w.heap.size,0,none⟩=some (.int .i64 i):=by have:=HP2.out.cell 0; simpa using this
  have p1:W1.drew.cell? ⟨w.heap.size,1,none⟩=some (.int .i64 lv):=by have:=HP2.out.cell 1; simpa using this
  have p2:W1.drew.cell? ⟨w.heap.size,2,none⟩=some (.int .i64 tm):=by have:=HP2.out.cell 2; simpa using this
  refine wp_region_held_drew (S:=(fun w' => w'=W1.drew)) (by kernel_rfl) rfl (fun hHeld => ?_)
  refine wpAnyH_take (i:=0) (v:=?_) rfl (by kernel_rfl) (by kernel_rfl) (by kernel_rfl) (fun _ _ _ h => h) (Or.inl ⟨by rfl,?_⟩) (by assumption) ?_
  rotate_left
  ·(intro w' hSw; (try dsimp only at hSw); subst hSw; go_simp; try with_reducible rfl)
  try simp only [jA,jB,Act.put,jD,jE,jF]
  refine wpAnyH_take (i:=1) (v:=?_) rfl (by kernel_rfl) (by kernel_rfl) (by kernel_rfl) (fun _ _ _ h => h) (Or.inl ⟨by rfl,?_⟩) (by assumption) ?_
  rotate_left
  ·(intro w' hSw; (try dsimp only at hSw); subst hSw; go_simp; try with_reducible rfl)
  try simp only [jA,jB,jC,Act.put,jD,jE,jF]
  refine wpAnyH_take (i:=2) (v:=?_) rfl (by kernel_rfl) (by kernel_rfl) (by kernel_rfl) (fun _ _ _ h => h) (Or.inl ⟨by rfl,?_⟩) (by assumption) ?_
  rotate_left
  ·(intro w' hSw; (try dsimp only at hSw); subst hSw; go_simp; try with_reducible rfl)
  try simp only [jA,jB,jC,Act.put,jD,jE,jF]
  refine wpAnyH_take (i:=3) (v:=?_) rfl (by kernel_rfl) (by kernel_rfl) (by kernel_rfl) (fun _ _ _ h => h) (Or.inl ⟨by rfl,?_⟩) (by assumption) ?_
  rotate_left
  ·(intro w' hSw; (try dsimp only at hSw); subst hSw; go_simp; try with_reducible rfl)
  try simp only [jA,jB,jC,Act.put,jD,jE,jF]
  refine wpAnyH_take (i:=4) (v:=?_) rfl (by kernel_rfl) (by kernel_rfl) (by kernel_rfl) (fun _ _ _ h => h) (Or.inl ⟨by rfl,?_⟩) (by assumption) ?_
  rotate_left
  ·(intro w' hSw; (try dsimp only at hSw); subst hSw; go_simp; try with_reducible rfl)
  try simp only [jA,jB,jC,Act.put,jD,jE,jF]
  refine wpAnyH_take (i:=5) (v:=?_) rfl (by kernel_rfl) (by kernel_rfl) (by kernel_rfl) (fun _ _ _ h => h) (Or.inl ⟨by rfl,?_⟩) (by assumption) ?_
  rotate_left
  ·(intro w' hSw; (try dsimp only at hSw); subst hSw; go_simp; try with_reducible rfl)
  try simp only [jA,jB,jC,Act.put,jD,jE,jF]
  refine wpAnyH_take (i:=6) (v:=?_) rfl (by kernel_rfl) (by kernel_rfl) (by kernel_rfl) (fun _ _ _ h => h) (Or.inl ⟨by rfl,?_⟩) (by assumption) ?_
  rotate_left
  ·(intro w' hSw; (try dsimp only at hSw); subst hSw; go_simp; try with_reducible rfl)
  try simp only [jA,jB,jC,Act.put,jD,jE,jF]
  refine wpAnyH_take (i:=7) (v:=?_) rfl (by kernel_rfl) (by kernel_rfl) (by kernel_rfl) (fun _ _ _ h => h) (Or.inl ⟨by rfl,?_⟩) (by assumption) ?_
  rotate_left
  ·(intro w' hSw; (try dsimp only at hSw); subst hSw; go_simp; try with_reducible rfl)
  try simp only [jA,jB,jC,Act.put,jD,jE,jF]
  refine wpAnyH_take (i:=8) (v:=?_) rfl (by kernel_rfl) (by kernel_rfl) (by kernel_rfl) (fun _ _ _ h => h) (Or.inl ⟨by rfl,?_⟩) (by assumption) ?_
  rotate_left
  ·(intro w' hSw; (try dsimp only at hSw); subst hSw; go_simp; try with_reducible rfl)
  try simp only [jA,jB,jC,Act.put,jD,jE,jF]
  refine wpAnyH_take (i:=9) (v:=?_) rfl (by kernel_rfl) (by kernel_rfl) (by kernel_rfl) (fun _ _ _ h => h) (Or.inl ⟨by rfl,?_⟩) (by assumption) ?_
  rotate_left
  ·(intro w' hSw; (try dsimp only at hSw); subst hSw; go_simp; try with_reducible rfl)
  try simp only [jA,jB,jC,Act.put,jD,jE,jF]
  refine wpAnyH_take (i:=10) (v:=?_) rfl (by kernel_rfl) (by kernel_rfl) (by kernel_rfl) (fun _ _ _ h => h) (Or.inl ⟨by rfl,?_⟩) (by assumption) ?_
  rotate_left
  ·(intro w' hSw; (try dsimp only at hSw); subst hSw; go_simp; try with_reducible rfl)
  try simp only [jA,jB,jC,Act.put,jD,jE,jF]
  refine wpAnyH_done (by kernel_rfl) ?_ _
  generalize W1.drew=W2 at *
  clear hHeld hlk k21 p0 p1 p2 HX1 HP1 HB1 HM1
  cases ok
  ·clear HOK
   have p0:=HP2.out.cell 0
   have p1:=HP2.out.cell 1
   have p2:=HP2.out.cell 2
   simp at p0 p1 p2
   go_wp2_with fail
   refine (hmo.out _ HX2.out).mono ?_
   rintro e w3 ⟨A1,c1,rfl,hrm,hb3⟩
   have HX3:=Lib.hid (HX2.out.below hb3)
   have HP3:=Lib.hid (HP2.out.below hb3 HP2.out.lt)
   have HB3:=Lib.hid (HB2.out.trans (hb3.mono HB2.out.size))
   have HM3:=Lib.hid (HM2.out.below hb3 HM2.out.lt)
   have HRM:=Lib.hid hrm
   have HIM:=Lib.hid HM3.out.isMap
   clear p0 p1 p2 hrm hb3 HX2 HP2 HB2 HM2
   rw [HLS.out]
   obtain ⟨M,hMM⟩:∃ M,M=s.x.p.moves i lv tm:=⟨_,rfl⟩
   rw [← hMM] at HLS HMEM HRM ⊢
   have hML:M.length ≤ 3321:=by rw [hMM]; exact HMLN.out
   have HML:=Lib.hid hML
   clear hMM hML
   go_wp2_with fail
   go_loopw [39,7] (fun s39 s7 wr => ∃ j:Nat,j ≤ M.length∧s39 = .int .i64 j∧s7 = .int .i64 ((M.take j).foldl (s.x.p.better1 s.u.l i lv tm (s.x.p.least s.u.l r)) worstZ)∧Hid (w3.grownBy wr (some s.b))∧Hid (Memo wr s.b (s.x.p.memoF s.u.l)))
    (fun s39 _ _ => M.length - (intOf s39).toNat)
   case atStart => exact ⟨0,by omega,rfl,rfl,grown_id _ _,HM3.out⟩
   case round =>
    obtain ⟨j,hj,rfl,rfl,hGB,hMm⟩:=hrel
    obtain ⟨wo,hwo⟩:∃ wo:World,wo=wr:=⟨_,rfl⟩
    subst hwo
    have HXo:=Lib.hid (HX3.out.besides hGB.out HIM.out)
    have HPo:=Lib.hid (HP3.out.besides hGB.out HIM.out)
    have hml:=HML.out
    obtain ⟨bc,hbc⟩:∃ z,z=(M.take j).foldl (s.x.p.better1 s.u.l i lv tm (s.x.p.least s.u.l r)) worstZ:=⟨_,rfl⟩
    rw [← hbc]
    have HBC:=Lib.hid hbc
    clear hbc
    by_cases hlt:j < M.length
    ·obtain ⟨bm,om,hAm,_,d1,d2⟩:=(HRM.out.besides hGB.out HIM.out).at' hlt
     have HNX:=Lib.hid (Pb.fold_next (p:=s.x.p) (U:=s.u.l) (i:=i) (lv:=lv) (tm:=tm) (rest:=s.x.p.least s.u.l r) hlt worstZ)
     have hme:=HMEM.out _ (List.getElem_mem hlt)
     have j2:(0:Int) ≤ (j:Int):=by omega
     have j3:(j:Int) < (M.length:Int):=by omega
     rw [← HBC.out] at HNX
     rw [hAm]
     clear hAm
     generalize M[j]=m at *
     obtain ⟨mc,mh⟩:=m
     simp only [] at d1 d2 hme
     have p0:=HPo.out.cell 0
     have p1:=HPo.out.cell 1
     have p2:=HPo.out.cell 2
     simp at p0 p1 p2
     have HME:=Lib.hid hme
     clear hme
     go_upto_region 10 with fail
     obtain ⟨wB,hwB⟩:∃ v,v=wo.alloc (.cells #[.int .i64 mc,.int .i64 mh] 114):=⟨_,rfl⟩
     obtain ⟨mb,hmb⟩:∃ n,n=wo.heap.size:=⟨_,rfl⟩
     rw [← hwB, ← hmb]
     have hbB:Below wo.heap.size wo wB:=by rw [hwB]; exact below_al (Below.refl _ _)
     have hkb:Blk wB mb 114 #[.int .i64 mc,.int .i64 mh]:=by rw [hwB,hmb]; exact Blk.new _ _ _
     have HXB:=Lib.hid (HXo.out.below hbB)
     have HPB:=Lib.hid (HPo.out.below hbB HPo.out.lt)
     have HMB:=Lib.hid (hMm.out.below hbB hMm.out.lt)
     have HGBB:=Lib.hid (grown_under hGB.out hbB)
     have b0:=hkb.cell 0
     have b1:=hkb.cell 1
     clear p0 p1 p2 d1 d2 hwB hmb hbB hkb HXo HPo hGB hMm
     have p0:=HPB.out.cell 0
     have p1:=HPB.out.cell 1
     have p2:=HPB.out.cell 2
     simp at p0 p1 p2 b0 b1
     go_wp2_with fail
     refine (haf.out _ HXB.out mc mh HME.out.1 HME.out.2).mono ?_
     rintro e w5 ⟨rfl,hb5⟩
     have HX5:=Lib.hid (HXB.out.below hb5)
     have HM5:=Lib.hid (HMB.out.below hb5 HMB.out.lt)
     have HG5:=Lib.hid (grown_under HGBB.out hb5)
     clear p0 p1 p2 b0 b1 hb5 HXB HPB HMB HGBB
     cases hmv:s.x.p.move s.u.l i lv tm mc mh with
     | none =>
      have hnx:=HNX.out
      rw [Pb.better1_none hmv] at hnx
      have HNX2:Hid ((M.take (j+1)).foldl (s.x.p.better1 s.u.l i lv tm (s.x.p.least s.u.l r)) worstZ=bc):=hnx
      clear hnx hmv
      simp only [moveV,placeV]
      go_wp2_with fail
      go_roundw
      case rel => exact ⟨j+1,by omega,by go_num,by rw [HNX2.out],grown_under HG5.out (below_al (Below.refl _ _)),HM5.out.below (below_al (Below.refl _ _)) HM5.out.lt⟩
      case measure => simp [intOf]; omega
     | some x =>
      obtain ⟨l',t',cc⟩:=x
      have hnx:=HNX.out
      rw [Pb.better1_some hmv] at hnx
      simp only [] at hnx
      obtain ⟨q1,q2⟩:=hmin.out _ _ _ hmv
      have q3:=hmc.out _ _ _ hmv
      simp only [] at q1 q2 q3
      have q4:=hlb.out l' t'
      have HQ1:=Lib.hid q1
      have HQ2:=Lib.hid q2
      have HCS:=Lib.hid (fun w => hih.out l' t' w q1 q2)
      clear hmv q1 q2
      simp only [moveV,placeV]
      generalize s.x.p.least s.u.l r l' t'=R at *
      go_upto_region 12 with fail
      obtain ⟨w6,hw6⟩:∃ v,v=w5.alloc (.cells #[.int .i64 ((i:Int)+1),.int .i64 l',.int .i64 t'] 87):=⟨_,rfl⟩
      obtain ⟨nb,hnb⟩:∃ n,n=w5.heap.size:=⟨_,rfl⟩
      rw [← hw6, ← hnb]
      have hb6:Below w5.heap.size w5 w6:=by rw [hw6]; exact below_al (Below.refl _ _)
      have hk6:Blk w6 nb 87 #[.int .i64 ((i:Int)+1),.int .i64 l',.int .i64 t']:=by rw [hw6,hnb]; exact Blk.new _ _ _
      have HX6:=Lib.hid (HX5.out.below hb6)
      have HM6:=Lib.hid (HM5.out.below hb6 HM5.out.lt)
      have HG6:=Lib.hid (grown_under HG5.out hb6)
      have b0:=hk6.cell 0
      have b1:=hk6.cell 1
      have b2:=hk6.cell 2
      simp at b0 b1 b2
      have HN:=Lib.hid hnx
      have HQ4:=Lib.hid q4
      have HQ3:=Lib.hid q3
      clear hw6 hnb hb6 hk6 HX5 HM5 HG5 hnx q3 q4
      go_wp2_with fail
      refine (HCS.out _ HX6.out HM6.out).mono ?_
      rintro e w7 ⟨rfl,hg7,hm7⟩
      have HG7:=Lib.hid (HG6.out.trans hg7)
      have HM7:=Lib.hid hm7
      clear hg7 hm7 b0 b1 b2 HX6 HM6 HG6
      by_cases hw:R=worstZ
      ·have HN2:=HN.out
       rw [if_pos hw] at HN2
       have HN3:=Lib.hid HN2
       have hwn:(R != 1152921504606846976)=false:=by rw [bne_eq_false_iff_eq]; exact hw
       clear HN2 hw
       go_wp2_with fail
       go_roundw
       case rel => exact ⟨j+1,by omega,by go_num,by rw [HN3.out],HG7.out,HM7.out⟩
       case measure => simp [intOf]; omega
      ·have HN2:=HN.out
       rw [if_neg hw] at HN2
       have hwn:(R != 1152921504606846976)=true:=by rw [bne_iff_ne]; exact hw
       have hrb:=HQ4.out.resolve_left hw
       have hcb:=HQ3.out
       have aw:IntKind.i64.wrap (cc+R)=cc+R:=IntWalk.i64_in _ (by omega)
       clear hw hrb hcb
       by_cases hlt2:cc+R < bc
       ·rw [if_pos hlt2] at HN2
        have HN3:=Lib.hid HN2
        clear HN2
        go_wp2_with fail
        go_roundw
        case rel => exact ⟨j+1,by omega,by go_num,by rw [HN3.out],HG7.out,HM7.out⟩
        case measure => simp [intOf]; omega
       ·rw [if_neg hlt2] at HN2
        have HN3:=Lib.hid HN2
        have hge:bc ≤ cc+R:=by omega
        clear HN2
        go_wp2_with fail
        go_roundw
        case rel => exact ⟨j+1,by omega,by go_num,by rw [HN3.out],HG7.out,HM7.out⟩
        case measure => simp [intOf]; omega
    ·have hje:j=M.length:=by omega
     have j3:¬ (j:Int) < (M.length:Int):=by omega
     have HBE:Hid (bc=s.x.p.memoF s.u.l i lv tm):=by
      show _=_
      rw [HBC.out,hje,List.take_length,HMF.out,HLS.out]
     go_upto_region 16 with fail
     have hBd:Below wo.heap.size wo wo.drew:=Below.drew (Below.refl _ _)
     have HXd:=Lib.hid (HXo.out.below hBd)
     have HPd:=Lib.hid (HPo.out.below hBd HPo.out.lt)
     have HGd:=Lib.hid (grown_under hGB.out hBd)
     have HMd:Hid (Memo wo.drew s.b (s.x.p.memoF s.u.l)):=hMm.out.drew
     obtain ⟨wE,hst,hME,hgE⟩:=HMd.out.store (show in64 (i:Int) from ⟨by omega,by omega⟩) HLV.out HTM.out
     rw [← HBE.out] at hst
     unfold placeV at hst
     have k21:wo.drew.cell? ⟨g,21,none⟩=some (.map (some s.b)):=by have:=HXd.out.blk.cell 21; simpa [SM.cs] using this
     have p0:wo.drew.cell? ⟨w.heap.size,0,none⟩=some (.int .i64 i):=by have:=HPd.out.cell 0; simpa using this
     have p1:wo.drew.cell? ⟨w.heap.size,1,none⟩=some (.int .i64 lv):=by have:=HPd.out.cell 1; simpa using this
     have p2:wo.drew.cell? ⟨w.heap.size,2,none⟩=some (.int .i64 tm):=by have:=HPd.out.cell 2; simpa using this
     have HFIN:=Lib.hid (And.intro (HGd.out.trans hgE) hME)
     have hIE:=HMd.out.isMap
     refine wp_region_held_drew (S:=(fun w' => w'.cell? ⟨g,21,none⟩=some (.map (some s.b))∧w'.cell? ⟨w.heap.size,0,none⟩=some (.int .i64 i)∧w'.cell? ⟨w.heap.size,1,none⟩=some (.int .i64 lv)∧w'.cell? ⟨w.heap.size,2,none⟩=some (.int .i64 tm))) (by kernel_rfl) ⟨k21,p0,p1,p2⟩ (fun hHeld => ?_)
     refine tk 0 ?_
     try simp only [jA,jB,Act.put,jD,jE,jF]
     refine tk 1 ?_
     try simp only [jA,jB,jC,Act.put,jD,jE,jF]
     refine tk 2 ?_
     try simp only [jA,jB,jC,Act.put,jD,jE,jF]
     refine tk 3 ?_
     try simp only [jA,jB,jC,Act.put,jD,jE,jF]
     refine tk 4 ?_
     try simp only [jA,jB,jC,Act.put,jD,jE,jF]
     refine tk 5 ?_
     try simp only [jA,jB,jC,Act.put,jD,jE,jF]
     refine wpAnyH_ready (rs := [6]) (by kernel_rfl) (by simp) ?_
     refine AllReadyH.cons rfl (fun K hK => ?_) AllReadyH.nil
     have HKK:=Lib.hid hK
     clear hK
     go_simp
     refine HKK.out _ _ (⟨cell_besides hgE hIE k21,cell_besides hgE hIE p0,cell_besides hgE hIE p1,cell_besides hgE hIE p2⟩) (fun hH2 => ?_)
     clear HKK K
     replace hHeld:=hH2
     clear hH2
     try simp only [jA,jB,jC,Act.put,jD,jE,jF]
     refine wpAnyH_done (by kernel_rfl) ?_ _
     clear hHeld hst k21 p0 p1 p2 hgE hME hIE HXd HPd HGd HMd
     go_wp2_with fail
     go_ret
     have hG0:=(grown_of_below HB3.out (some s.b)).trans HFIN.out.1
     exact ⟨congrArg (fun z => Ending.returned (.int .i64 z)) (by rw [HBE.out,HMF.out,HLS.out]),hG0,HFIN.out.2⟩
  ·have hv:=HOK.out rfl
   have hGf:Hid (w.grownBy W2 (some s.b)):=grown_of_below HB2.out _
   go_wp2_with fail
   go_ret
   exact ⟨congrArg (fun z => Ending.returned (.int .i64 z)) HMF.out,hGf.out,HM2.out⟩
end Go.Proofs.YtnppngaabfhkpaaGreat
