/-
  The law ControlSimulates, walked.
-/
import Derived.Test.YtnppngaabfhkpaaGreatEZ6
import Derived.Test.YtnppngaabfhkpaaGreatEZ2
import Derived.Test.YtnppngaabfhkpaaGreatEV4
namespace Go.Proofs.YtnppngaabfhkpaaGreat
open Go.RowKit
attribute [local go_sem ↓] Go.wp_at_zero Go.wp_at_succ
theorem Pb.simP_short (p:Pb):p.simP.charge.length < 1000000000∧p.simP.heat.length < 1000000000∧p.simP.start.length < 1000000000:=by
 by_cases h:p.chk=0
 ·obtain ⟨h1,h2,h3,_⟩:=Pb.sim_lens h
  have q1:=(Pb.nbd (Pb.good h)).2
  have q2:=Pb.loads4 (Pb.good h)
  omega
 ·unfold Pb.simP; rw [if_pos h]; decide
set_option maxRecDepth 100000 in
set_option maxHeartbeats 64000000 in
theorem csimulates_law (x:PbM) (w:World) (hP0:RPb w x) (hL0:∀ z ∈ x.loads,z.r.prof.length ≤ maxLen∧z.r.name.size ≤ maxLen ∧ -9223372036854775808 ≤ z.r.late∧z.r.late ≤ 9223372036854775807) (hc0:x.loads.length ≤ x.lc) (hm0:x.buy.l.length ≤ maxLen) (hC0:x.Cap) :
  Calls Tryz.prog 4 #[x.v] w fun e w' => e = .returned (.bool true)∧Below w.heap.size w w':=by
 have hF0:x.Fit:=⟨fun y h => (hL0 y h).2.1,fun y h => (hL0 y h).1,hc0,hm0,fun y h => (hL0 y h).2.2⟩
 have hP:=Lib.hid hP0
 have haw:=Lib.hid awake44_any
 have hlg:=fun W (h:RPb W x) => large_any x W h
 have hck:=fun W (h:RPb W x) => rpcheck_any x W h hF0
 have hfw:=fun W (h:RPb W x) => few44_any x W h hF0
 have hsi:=fun W (h:RPb W x) => (simulateX_any x W h hF0 hC0).mono (fun e w' hh => (by
  obtain ⟨y,he,⟨hy,_⟩,hr,hb2⟩:=hh
  exact ⟨y,he,hy,hr,hb2⟩:∃ y:PnM,e = .returned (.tuple #[y.v,.int .i64 x.p.chk])∧y.x=x.p.simP∧RPn w' y∧Below W.heap.size W w'))
 have hrs:=fun W (h:RPb W x) => (rsimulate_any x W h hF0 hC0).mono (fun e w' hh => (by
  obtain ⟨y,he,⟨hy,_⟩,hr,hb2⟩:=hh
  exact ⟨y,he,hy,hr,hb2⟩:∃ y:PnM,e = .returned (.tuple #[y.v,.int .i64 x.p.chk])∧y.x=x.p.simP∧RPn w' y∧Below W.heap.size W w'))
 have hsm:∀ (m m2:PnM) W,RPn W m→RPn W m2→m.x=x.p.simP→m2.x=x.p.simP→Calls Tryz.prog 15 #[m.v,m2.v] W (fun e w' => e = .returned (.bool true)∧Below W.heap.size W w'):=fun m m2 W h h2 e1 e2 => by
  obtain ⟨q1,q2,q3⟩:=x.p.simP_short
  exact sameplan_true m m2 W h h2 (e1.trans e2.symm) (by rw [← e1] at q1; exact q1) (by rw [← e1] at q2; exact q2) (by rw [← e1] at q3; exact q3)
 have hst0:=PB.start x w
 simp only [PbM.v]
 obtain ⟨W,hW⟩:∃ W,W=w.alloc (.cells x.cs 31):=⟨_,rfl⟩
 simp only [PbM.cs] at hW
 rw [show w.alloc (.cells x.cs 31)=W from hW.symm] at hst0
 have hst:=Lib.hid hst0
 have hWH:=Lib.hid hW
 clear hst0 hW hP0 hL0 hc0 hm0 hF0 hC0
 generalize x.p.chk=ck at *
 generalize x.p.simP=sp at *
 have HLG:=Lib.hid hlg
 have HCK:=Lib.hid hck
 have HFW:=Lib.hid hfw
 have HSI:=Lib.hid hsi
 have HRS:=Lib.hid hrs
 have HSM:=Lib.hid hsm
 clear hlg hck hfw hsi hrs hsm
 go_enter Tryz.func4,Tryz.ntmps4
 go_upto_region 1 with fail
 rw [← hWH.out]
 clear hWH
 go_wp2_with (first | refine wpList_load_problemG (by rfl) _ rfl w.heap.size rfl x hst.out.p ?_)
 refine (HLG.out _ (hst.out.pr hP.out)).mono ?_
 rintro e w1 ⟨g,rfl,_,hb1⟩
 have HX1:=Lib.hid (hst.out.below hb1)
 clear hb1 hst HLG
 cases g
 ·go_wp2_with (first | refine wpList_load_problemG (by rfl) _ rfl w.heap.size rfl x HX1.out.p ?_)
  refine (HCK.out _ (HX1.out.pr hP.out)).mono ?_
  rintro e w2 ⟨rfl,hb2⟩
  have HX2:=Lib.hid (HX1.out.below hb2)
  clear hb2 HX1 HCK
  by_cases hk:ck=0
  ·have q0:(ck == 0)=true:=by simp [hk]
   clear hk
   go_wp2_with (first | refine wpList_load_problemG (by rfl) _ rfl w.heap.size rfl x HX2.out.p ?_)
   refine (HFW.out _ (HX2.out.pr hP.out)).mono ?_
   rintro e w9 ⟨g2,rfl,_,hb9⟩
   have HX9:=Lib.hid (HX2.out.below hb9)
   clear hb9 HX2 HFW
   cases g2
   ·clear HSI HRS HSM
    go_wp2_with fail
    refine (haw.out _).mono ?_
    rintro e wl ⟨rfl,hbl⟩
    go_wp2_with fail
    go_ret
    exact ⟨rfl,HX9.out.bel.trans (hbl.mono HX9.out.bel.size)⟩
   ·skip
    go_upto_region 3 with fail
    go_wp2_with (first | refine wpList_load_problemG (by rfl) _ rfl w.heap.size rfl x HX9.out.p ?_)
    refine (HSI.out _ (HX9.out.pr hP.out)).mono ?_
    rintro e w3 ⟨m,rfl,hm,hrm,hb3⟩
    have HX3:=Lib.hid (HX9.out.below hb3)
    clear hb3 HX9 HSI
    simp only [PnM.v]
    go_wp2_with (refine wpList_store_blk rfl 48 _ _ rfl w3.heap.size rfl m.cs rfl (by kernel_rfl) (PnM.cs_one _) (Blk.new w3 _ _) rfl ?_)
    intro w4 hBB hgg
    have hss:Below w3.heap.size w3 w4:=((Below.refl w3.heap.size w3).alloc (Nat.le_refl _) (.cells #[.slice none 0 0,.slice none 0 0,.slice none 0 0] 48)).grown hgg (by simp) (fun k e => by injection e with e; omega)
    obtain ⟨t3,ht⟩:∃ t,t=w3.heap.size:=⟨_,rfl⟩
    have HX4:=Lib.hid (HX3.out.below hss)
    have HM4:=Lib.hid (ly_store hrm hss hBB)
    rw [← ht] at HM4
    have HMX:=Lib.hid hm
    have HT:=Lib.hid ht
    clear hss hgg hBB hrm hm ht HX3
    go_upto_region 4 with fail
    rw [← HT.out]
    clear HT
    go_wp2_with (first | refine wpList_load_problemG (by rfl) _ rfl w.heap.size rfl x HX4.out.p ?_)
    refine (HRS.out _ (HX4.out.pr hP.out)).mono ?_
    rintro e w5 ⟨y,rfl,hy,hry,hb5⟩
    have HX5:=Lib.hid (HX4.out.below hb5)
    have HM5:=Lib.hid (HM4.out.below hb5)
    clear hb5 HX4 HM4 HRS
    simp only [PnM.v]
    go_wp2_with (refine wpList_store_blk rfl 48 _ _ rfl w5.heap.size rfl y.cs rfl (by kernel_rfl) (PnM.cs_one _) (Blk.new w5 _ _) rfl ?_)
    intro w6 hBB hgg
    have hss:Below w5.heap.size w5 w6:=((Below.refl w5.heap.size w5).alloc (Nat.le_refl _) (.cells #[.slice none 0 0,.slice none 0 0,.slice none 0 0] 48)).grown hgg (by simp) (fun k e => by injection e with e; omega)
    obtain ⟨t5,ht⟩:∃ t,t=w5.heap.size:=⟨_,rfl⟩
    have HX6:=Lib.hid (HX5.out.below hss)
    have HM6:=Lib.hid (HM5.out.below hss)
    have HY6:=Lib.hid (ly_store hry hss hBB)
    rw [← ht] at HY6
    have HYX:=Lib.hid hy
    have HT:=Lib.hid ht
    clear hss hgg hBB hry hy ht HX5 HM5
    go_upto_region 5 with fail
    rw [← HT.out]
    clear HT
    go_wp2_with (first | refine wpList_load_problemG (by rfl) _ rfl w.heap.size rfl x HX6.out.p ?_ | refine wpList_load_planG (by rfl) _ rfl t3 rfl m HM6.out.p ?_ | refine wpList_load_planG (by rfl) _ rfl t5 rfl y HY6.out.p ?_)
    refine (HSM.out m y _ HM6.out.r HY6.out.r HMX.out HYX.out).mono ?_
    rintro e w7 ⟨rfl,hb7⟩
    have HX7:=Lib.hid (HX6.out.below hb7)
    have q9:(ck == ck)=true:=by simp
    clear hb7 HX6 HM6 HY6 HSM
    go_wp2_with fail
    refine (haw.out _).mono ?_
    rintro e wl ⟨rfl,hbl⟩
    go_wp2_with fail
    go_ret
    exact ⟨rfl,HX7.out.bel.trans (hbl.mono HX7.out.bel.size)⟩
  ·have q0:(ck == 0)=false:=by simp [hk]
   clear hk HFW
   go_upto_region 3 with fail
   go_wp2_with (first | refine wpList_load_problemG (by rfl) _ rfl w.heap.size rfl x HX2.out.p ?_)
   refine (HSI.out _ (HX2.out.pr hP.out)).mono ?_
   rintro e w3 ⟨m,rfl,hm,hrm,hb3⟩
   have HX3:=Lib.hid (HX2.out.below hb3)
   clear hb3 HX2 HSI
   simp only [PnM.v]
   go_wp2_with (refine wpList_store_blk rfl 48 _ _ rfl w3.heap.size rfl m.cs rfl (by kernel_rfl) (PnM.cs_one _) (Blk.new w3 _ _) rfl ?_)
   intro w4 hBB hgg
   have hss:Below w3.heap.size w3 w4:=((Below.refl w3.heap.size w3).alloc (Nat.le_refl _) (.cells #[.slice none 0 0,.slice none 0 0,.slice none 0 0] 48)).grown hgg (by simp) (fun k e => by injection e with e; omega)
   obtain ⟨t3,ht⟩:∃ t,t=w3.heap.size:=⟨_,rfl⟩
   have HX4:=Lib.hid (HX3.out.below hss)
   have HM4:=Lib.hid (ly_store hrm hss hBB)
   rw [← ht] at HM4
   have HMX:=Lib.hid hm
   have HT:=Lib.hid ht
   clear hss hgg hBB hrm hm ht HX3
   go_upto_region 4 with fail
   rw [← HT.out]
   clear HT
   go_wp2_with (first | refine wpList_load_problemG (by rfl) _ rfl w.heap.size rfl x HX4.out.p ?_)
   refine (HRS.out _ (HX4.out.pr hP.out)).mono ?_
   rintro e w5 ⟨y,rfl,hy,hry,hb5⟩
   have HX5:=Lib.hid (HX4.out.below hb5)
   have HM5:=Lib.hid (HM4.out.below hb5)
   clear hb5 HX4 HM4 HRS
   simp only [PnM.v]
   go_wp2_with (refine wpList_store_blk rfl 48 _ _ rfl w5.heap.size rfl y.cs rfl (by kernel_rfl) (PnM.cs_one _) (Blk.new w5 _ _) rfl ?_)
   intro w6 hBB hgg
   have hss:Below w5.heap.size w5 w6:=((Below.refl w5.heap.size w5).alloc (Nat.le_refl _) (.cells #[.slice none 0 0,.slice none 0 0,.slice none 0 0] 48)).grown hgg (by simp) (fun k e => by injection e with e; omega)
   obtain ⟨t5,ht⟩:∃ t,t=w5.heap.size:=⟨_,rfl⟩
   have HX6:=Lib.hid (HX5.out.below hss)
   have HM6:=Lib.hid (HM5.out.below hss)
   have HY6:=Lib.hid (ly_store hry hss hBB)
   rw [← ht] at HY6
   have HYX:=Lib.hid hy
   have HT:=Lib.hid ht
   clear hss hgg hBB hry hy ht HX5 HM5
   go_upto_region 5 with fail
   rw [← HT.out]
   clear HT
   go_wp2_with (first | refine wpList_load_problemG (by rfl) _ rfl w.heap.size rfl x HX6.out.p ?_ | refine wpList_load_planG (by rfl) _ rfl t3 rfl m HM6.out.p ?_ | refine wpList_load_planG (by rfl) _ rfl t5 rfl y HY6.out.p ?_)
   refine (HSM.out m y _ HM6.out.r HY6.out.r HMX.out HYX.out).mono ?_
   rintro e w7 ⟨rfl,hb7⟩
   have HX7:=Lib.hid (HX6.out.below hb7)
   have q9:(ck == ck)=true:=by simp
   clear hb7 HX6 HM6 HY6 HSM
   go_wp2_with fail
   refine (haw.out _).mono ?_
   rintro e wl ⟨rfl,hbl⟩
   go_wp2_with fail
   go_ret
   exact ⟨rfl,HX7.out.bel.trans (hbl.mono HX7.out.bel.size)⟩
 ·clear HCK HFW HSI HRS HSM
  go_wp2_with fail
  refine (haw.out _).mono ?_
  rintro e wl ⟨rfl,hbl⟩
  go_wp2_with fail
  go_ret
  exact ⟨rfl,HX1.out.bel.trans (hbl.mono HX1.out.bel.size)⟩
end Go.Proofs.YtnppngaabfhkpaaGreat
