/-
  The walks of the laws of layer 44: decisions compared, the guard few.
-/
import Derived.Test.YtnppngaabfhkpaaGreatDZ1
import Derived.Test.YtnppngaabfhkpaaGreatDV4
namespace Go.Proofs.YtnppngaabfhkpaaGreat
open Go.RowKit
attribute [local go_sem ↓] Go.wp_at_zero Go.wp_at_succ
set_option maxRecDepth 100000 in
set_option maxHeartbeats 16000000 in
theorem lawsame_any (d : DcM) (w : World) :
  Calls Tryz.prog 12 #[d.v] w fun e w' => e = .returned (.agg d.cs)∧Below w.heap.size w w':=by
 obtain ⟨q1,q2,q3,q4⟩:=two_boxes (w:=w) (cs:=d.cs) (t:=39) (cs2:=#[.int .i64 0,.int .i64 0,.slice none 0 0]) (t2:=42) (Below.refl _ _)
 obtain ⟨W,hW⟩ : ∃ W,W = (w.alloc (.cells #[.int .i64 d.charge,.int .i64 d.heat,.slice d.A d.l.length d.c] 39)).alloc (.cells #[.int .i64 0,.int .i64 0,.slice none 0 0] 42):=⟨_,rfl⟩
 rw [show (w.alloc (.cells d.cs 39)).alloc (.cells #[.int .i64 0,.int .i64 0,.slice none 0 0] 42) = W from hW.symm] at q1 q2 q4
 have H1:=Lib.hid q1
 have H2:=Lib.hid q2
 have H4:=Lib.hid q4
 have hWH:=Lib.hid hW
 simp only [DcM.v]
 clear q1 q2 q3 q4 hW
 go_enter Tryz.func12,Tryz.ntmps12
 go_upto_region 1 with fail
 rw [← hWH.out]
 clear hWH
 have c0:=H1.out.cell 0
 have c1:=H1.out.cell 1
 have c2:=H1.out.cell 2
 simp [DcM.cs] at c0 c1 c2
 go_wp2_with (refine wpList_store_blk rfl 42 _ _ rfl (w.heap.size+1) rfl d.cs rfl (by kernel_rfl) (DcM.cs_one _) H2.out rfl ?_)
 intro w5 hB5 hg5
 have hb5 : Below w.heap.size w w5:=H4.out.grown hg5 H4.out.size (fun k e => by injection e with e; omega)
 have HB5:=Lib.hid hB5
 have HBE:=Lib.hid hb5
 clear hB5 hg5 hb5 c0 c1 c2
 go_wp2_with fail
 refine bodyPost_ret (v := .agg d.cs) (results_cell rfl rfl (run_load_blk (by kernel_rfl) (by kernel_rfl) HB5.out)) rfl ?_
 exact ⟨rfl,HBE.out⟩
structure BD (a b : DcM) (w wr : World) : Prop where
 p : Blk wr w.heap.size 42 a.cs
 q : Blk wr (w.heap.size+1) 42 b.cs
 bel : Below w.heap.size w wr
theorem BD.below {a b : DcM} {w wr w1 : World} (h : BD a b w wr) (hb : Below wr.heap.size wr w1) : BD a b w w1:=⟨h.p.below hb h.p.lt,h.q.below hb h.q.lt,h.bel.trans (hb.mono h.bel.size)⟩
set_option maxRecDepth 100000 in
set_option maxHeartbeats 16000000 in
theorem rsame44_true (a b : DcM) (w : World) (hA0 : RBools w a.A a.l) (hB0 : RBools w b.A b.l) (h : a.d = b.d) (hl : a.l.length ≤ 1000) :
  Calls Tryz.prog 11 #[a.v,b.v] w fun e w' => e = .returned (.bool true)∧Below w.heap.size w w':=by
 have hA:=Lib.hid hA0
 have hB:=Lib.hid hB0
 obtain ⟨q1,q2,q3,q4⟩:=two_boxes (w:=w) (cs:=a.cs) (t:=42) (cs2:=b.cs) (t2:=42) (Below.refl _ _)
 obtain ⟨W,hW⟩ : ∃ W,W = (w.alloc (.cells #[.int .i64 a.charge,.int .i64 a.heat,.slice a.A a.l.length a.c] 42)).alloc (.cells #[.int .i64 b.charge,.int .i64 b.heat,.slice b.A b.l.length b.c] 42):=⟨_,rfl⟩
 rw [show (w.alloc (.cells a.cs 42)).alloc (.cells b.cs 42) = W from hW.symm] at q1 q2 q4
 have hst : Hid (BD a b w W):=⟨q1,q2,q4⟩
 have hWH:=Lib.hid hW
 have e0 : a.charge = b.charge:=congrArg Dc.charge h
 have e1 : a.heat = b.heat:=congrArg Dc.heat h
 have e2 : a.l = b.l:=congrArg Dc.starts h
 have HE:=Lib.hid (And.intro e0 (And.intro e1 e2))
 have HL:=Lib.hid hl
 simp only [DcM.v]
 clear q1 q2 q3 q4 hW hA0 hB0 h e0 e1 e2 hl
 go_enter Tryz.func11,Tryz.ntmps11
 go_upto_region 1 with fail
 rw [← hWH.out]
 clear hWH
 have c0:=hst.out.p.cell 0
 have c1:=hst.out.p.cell 1
 have c2:=hst.out.p.cell 2
 have d0:=hst.out.q.cell 0
 have d1:=hst.out.q.cell 1
 have d2:=hst.out.q.cell 2
 simp [DcM.cs] at c0 c1 c2 d0 d1 d2
 rw [HE.out.1] at c0
 rw [HE.out.2.1] at c1
 rw [HE.out.2.2] at c2
 have j0 : (b.charge != b.charge) = false:=by simp
 have j1 : (b.heat != b.heat) = false:=by simp
 have j2 : ((b.l.length : Int) != (b.l.length : Int)) = false:=by simp
 go_upto_region 3 with fail
 clear c0 c1 c2 d0 d1 d2 j0 j1 j2
 go_wp2_with fail
 go_loopw [5] (fun s5 wr => ∃ k : Nat,k ≤ b.l.length∧s5 = .int .i64 k∧Hid (BD a b w wr))
  (fun s5 _ => b.l.length - (intOf s5).toNat)
 case atStart => exact ⟨0,by omega,rfl,hst.out⟩
 case round =>
  clear hst
  obtain ⟨k,hk,rfl,hX⟩:=hrel
  obtain ⟨wo,hwo⟩ : ∃ wo : World,wo = wr:=⟨_,rfl⟩
  subst hwo
  have c2:=hX.out.p.cell 2
  simp [DcM.cs] at c2
  rw [HE.out.2.2] at c2
  by_cases hlt : k < b.l.length
  ·have hka : k < a.l.length:=by rw [HE.out.2.2]; exact hlt
   have hk4 : (k : Int) ≤ 1000:=by have h1:=HL.out; have h2:=congrArg List.length HE.out.2.2; omega
   obtain ⟨bA,oA,hAe,_,s0⟩:=(hA.out.below hX.out.bel).at' hka
   obtain ⟨bB,oB,hBe,_,s1⟩:=(hB.out.below hX.out.bel).at' hlt
   have hab : a.l[k] = b.l[k]:=List.getElem_of_eq HE.out.2.2 hka
   rw [hab] at s0
   have d2:=hX.out.q.cell 2
   simp [DcM.cs] at d2
   rw [hAe] at c2
   rw [hBe] at d2
   have i1 : (0 : Int) ≤ (k : Int):=by omega
   have i2 : (k : Int) < (b.l.length : Int):=by omega
   clear hab hAe hBe hka
   generalize b.l[k] = db at *
   cases db
   ·go_upto_region 6 with fail
    have HK : Hid (∀ W,Below wo.heap.size wo W→Below wo.heap.size wo W∧W.cell? ⟨w.heap.size,2,none⟩ = some (.slice (some ⟨bA,oA,none⟩) b.l.length a.c)∧W.cell? ⟨w.heap.size+1,2,none⟩ = some (.slice (some ⟨bB,oB,none⟩) b.l.length b.c)∧W.cell? ⟨bA,oA+k,none⟩ = some (.bool false)∧W.cell? ⟨bB,oB+k,none⟩ = some (.bool false)):=fun W hb => ⟨hb,cell_below c2 hb,cell_below d2 hb,cell_below s0 hb,cell_below s1 hb⟩
    go_region_held3 (fun w' => Below wo.heap.size wo w'∧w'.cell? ⟨w.heap.size,2,none⟩ = some (.slice (some ⟨bA,oA,none⟩) b.l.length a.c)∧w'.cell? ⟨w.heap.size+1,2,none⟩ = some (.slice (some ⟨bB,oB,none⟩) b.l.length b.c)∧w'.cell? ⟨bA,oA+k,none⟩ = some (.bool false)∧w'.cell? ⟨bB,oB+k,none⟩ = some (.bool false))
      (first | exact HK.out _ (Below.refl _ _) | exact HK.out _ (Below.drew (Below.refl _ _)) | exact HK.out _ (Below.drew (by assumption)) | exact HK.out _ (Below.drew (And.left (by assumption))) | exact HK.out _ (Below.trans (by first | assumption | exact And.left (by assumption) | exact Below.refl _ _ | exact Below.drew (Below.refl _ _) | exact Below.drew (by assumption) | exact Below.drew (And.left (by assumption))) (Below.mono (by assumption) (Below.size (by first | assumption | exact And.left (by assumption) | exact Below.refl _ _ | exact Below.drew (Below.refl _ _) | exact Below.drew (by assumption) | exact Below.drew (And.left (by assumption)))))))
      (first | fail)
    have HX7:=Lib.hid (hX.out.below (by first | assumption | exact And.left (by assumption) | exact Below.refl _ _ | exact Below.drew (Below.refl _ _) | exact Below.drew (by assumption) | exact Below.drew (And.left (by assumption))))
    clear hX c2 d2 s0 s1 HK
    go_wp2_with fail
    go_roundw
    case rel => exact ⟨k+1,by omega,by go_num,HX7.out⟩
    case measure => simp [intOf]; omega
   ·go_upto_region 6 with fail
    have HK : Hid (∀ W,Below wo.heap.size wo W→Below wo.heap.size wo W∧W.cell? ⟨w.heap.size,2,none⟩ = some (.slice (some ⟨bA,oA,none⟩) b.l.length a.c)∧W.cell? ⟨w.heap.size+1,2,none⟩ = some (.slice (some ⟨bB,oB,none⟩) b.l.length b.c)∧W.cell? ⟨bA,oA+k,none⟩ = some (.bool true)∧W.cell? ⟨bB,oB+k,none⟩ = some (.bool true)):=fun W hb => ⟨hb,cell_below c2 hb,cell_below d2 hb,cell_below s0 hb,cell_below s1 hb⟩
    go_region_held3 (fun w' => Below wo.heap.size wo w'∧w'.cell? ⟨w.heap.size,2,none⟩ = some (.slice (some ⟨bA,oA,none⟩) b.l.length a.c)∧w'.cell? ⟨w.heap.size+1,2,none⟩ = some (.slice (some ⟨bB,oB,none⟩) b.l.length b.c)∧w'.cell? ⟨bA,oA+k,none⟩ = some (.bool true)∧w'.cell? ⟨bB,oB+k,none⟩ = some (.bool true))
      (first | exact HK.out _ (Below.refl _ _) | exact HK.out _ (Below.drew (Below.refl _ _)) | exact HK.out _ (Below.drew (by assumption)) | exact HK.out _ (Below.drew (And.left (by assumption))) | exact HK.out _ (Below.trans (by first | assumption | exact And.left (by assumption) | exact Below.refl _ _ | exact Below.drew (Below.refl _ _) | exact Below.drew (by assumption) | exact Below.drew (And.left (by assumption))) (Below.mono (by assumption) (Below.size (by first | assumption | exact And.left (by assumption) | exact Below.refl _ _ | exact Below.drew (Below.refl _ _) | exact Below.drew (by assumption) | exact Below.drew (And.left (by assumption)))))))
      (first | fail)
    have HX7:=Lib.hid (hX.out.below (by first | assumption | exact And.left (by assumption) | exact Below.refl _ _ | exact Below.drew (Below.refl _ _) | exact Below.drew (by assumption) | exact Below.drew (And.left (by assumption))))
    clear hX c2 d2 s0 s1 HK
    go_wp2_with fail
    go_roundw
    case rel => exact ⟨k+1,by omega,by go_num,HX7.out⟩
    case measure => simp [intOf]; omega
  ·have i2 : ¬ (k : Int) < (b.l.length : Int):=by omega
   go_wp2_with fail
   go_ret
   exact ⟨rfl,hX.out.bel⟩
set_option maxRecDepth 100000 in
set_option maxHeartbeats 16000000 in
theorem few44_any (x : PbM) (w : World) (hP0 : RPb w x) (hF : x.Fit) :
  Calls Tryz.prog 7 #[x.v,.int .i64 3,.int .i64 2000] w (GuardOut True w):=by
 have hP:=Lib.hid hP0
 have hck:=fun W (h : RPb W x) => rpcheck_any x W h hF
 have hl4 : x.p.chk = 0→x.loads.length ≤ 4:=fun hc => by have h1:=Pb.loads4 (Pb.good hc); have h2:=PbM.loads_len x; omega
 have hst0:=PB.start x w
 simp only [PbM.v]
 obtain ⟨W,hW⟩ : ∃ W,W = w.alloc (.cells #[.slice x.buy.A x.buy.l.length x.buy.c,.slice x.sell.A x.sell.l.length x.sell.c,.int .i64 x.fuse,.slice x.solar.A x.solar.l.length x.solar.c,.slice x.demand.A x.demand.l.length x.demand.c,.slice x.outside.A x.outside.l.length x.outside.c,.int .i64 x.bat.cap,.int .i64 x.bat.reserve,.int .i64 x.bat.charge,.int .i64 x.bat.discharge,.int .i64 x.bat.eff,.int .i64 x.gain,.int .i64 x.loss,.int .i64 x.steps,.int .i64 x.power,.slice x.low.A x.low.l.length x.low.c,.slice x.high.A x.high.l.length x.high.c,.slice x.LA x.loads.length x.lc,.int .i64 x.level,.int .i64 x.temp] 31):=⟨_,rfl⟩
 rw [show w.alloc (.cells x.cs 31) = W from hW.symm] at hst0
 have hst:=Lib.hid hst0
 have hWH:=Lib.hid hW
 generalize x.p.chk = ck at *
 have HCK:=Lib.hid hck
 have HL4:=Lib.hid hl4
 clear hst0 hW hP0 hF hck hl4
 go_enter Tryz.func7,Tryz.ntmps7
 go_upto_region 1 with fail
 rw [← hWH.out]
 clear hWH
 go_wp2_with (refine wpList_load_problemG (by rfl) _ rfl w.heap.size rfl x hst.out.p ?_)
 refine (HCK.out _ (hst.out.pr hP.out)).mono ?_
 rintro e w1 ⟨rfl,hb1⟩
 have HX1:=Lib.hid (hst.out.below hb1)
 clear hb1 hst HCK
 have c0:=HX1.out.p.cell 0
 simp [PbM.cs] at c0
 by_cases hk : ck = 0
 ·have q0 : (ck != 0) = false:=by simp [hk]
  have HLD:=Lib.hid (HL4.out hk)
  clear hk HL4
  by_cases h1 : (3 : Int) < (x.buy.l.length : Int)
  ·go_wp2_with fail
   go_ret
   exact ⟨_,rfl,(fun _ => trivial),HX1.out.bel⟩
  ·have HB3 : Hid (x.buy.l.length ≤ 3):=by show _ ≤ _; omega
   go_upto_region 3 with fail
   clear q0 h1 c0
   go_wp2_with fail
   go_loopw [8,7] (fun s8 s7 wr => ∃ (k : Nat) (n : Int),k ≤ x.buy.l.length∧s8 = .int .i64 k∧s7 = .int .i64 n∧Hid (PB x w wr))
    (fun s8 _ _ => x.buy.l.length - (intOf s8).toNat)
   case atStart => exact ⟨0,1,by omega,rfl,rfl,HX1.out⟩
   case round =>
    clear HX1
    obtain ⟨k,n,hk,rfl,rfl,hX⟩:=hrel
    obtain ⟨wo,hwo⟩ : ∃ wo : World,wo = wr:=⟨_,rfl⟩
    subst hwo
    have c0:=hX.out.p.cell 0
    simp [PbM.cs] at c0
    by_cases hlt : (k : Int) < (x.buy.l.length : Int)
    ·have hk4 : (k : Int) ≤ 3:=by have:=HB3.out; omega
     have c8:=hX.out.p.cell 8
     have c9:=hX.out.p.cell 9
     have c13:=hX.out.p.cell 13
     simp [PbM.cs] at c8 c9 c13
     go_upto_region 7 with fail
     clear c0
     go_cut [7] (fun s7 wx => ∃ n : Int,s7 = .int .i64 n∧wo = wx)
     case first =>
      go_wp2_with fail
      go_meet
      exact ⟨_,rfl,rfl⟩
     case rest =>
      obtain ⟨n2,rfl,rfl⟩:=hcut
      clear c8 c9 c13
      by_cases h2 : (2000 : Int) < n2
      ·go_wp2_with fail
       go_ret
       exact ⟨_,rfl,(fun _ => trivial),hX.out.bel⟩
      ·go_wp2_with fail
       go_roundw
       case rel => exact ⟨k+1,n2,by omega,by go_num,rfl,hX.out⟩
       case measure => simp [intOf]; omega
    ·go_upto_region 10 with fail
     clear hlt hk c0
     go_wp2_with fail
     go_loopw [9,7] (fun s9 s7 wr => ∃ (k : Nat) (n : Int),k ≤ x.loads.length∧s9 = .int .i64 k∧s7 = .int .i64 n∧Hid (PB x w wr))
      (fun s9 _ _ => x.loads.length - (intOf s9).toNat)
     case atStart => exact ⟨0,_,by omega,rfl,rfl,hX.out⟩
     case round =>
      clear hX
      obtain ⟨k,n,hk,rfl,rfl,hX⟩:=hrel
      obtain ⟨wo,hwo⟩ : ∃ wo : World,wo = wr:=⟨_,rfl⟩
      subst hwo
      have c17:=hX.out.p.cell 17
      simp [PbM.cs] at c17
      by_cases hlt : k < x.loads.length
      ·have hk4 : (k : Int) ≤ 4:=by have:=HLD.out; omega
       obtain ⟨bL,oL,hAe,_,y0,y1,y2,y3⟩:=(hX.out.pr hP.out).loads.at' hlt
       have i1 : (0 : Int) ≤ (k : Int):=by omega
       have i2 : (k : Int) < (x.loads.length : Int):=by omega
       generalize x.loads[k] = X at *
       rw [hAe] at c17
       clear hAe
       go_upto_region 13 with fail
       clear y0
       go_cut [7] (fun s7 wx => ∃ n : Int,s7 = .int .i64 n∧Hid (PB x w wx))
       case first =>
        refine wp_region_held_drew (S:=(fun w' => w'.cell? ⟨w.heap.size,17,none⟩ = some (.slice (some ⟨bL,oL,none⟩) x.loads.length x.lc)∧w'.cell? ⟨bL,oL+k * 4+1,none⟩ = some (.slice X.A X.r.prof.length X.c)∧w'.cell? ⟨bL,oL+k * 4+2,none⟩ = some (.int .i64 X.r.early)∧w'.cell? ⟨bL,oL+k * 4+3,none⟩ = some (.int .i64 X.r.late))) (by kernel_rfl) (⟨c17,y1,y2,y3⟩) (fun hHeld => ?_)
        refine tj 0 ?_ rfl (by kernel_rfl) (fun _ _ _ h => h) (by rfl) ?_ (by assumption) ?_
        rotate_left
        ·(intro w' hSw; (try dsimp only at hSw); go_simp; try with_reducible rfl)
        (try simp only [jA,jB,Act.put,jD,jE,jF])
        refine tj 1 ?_ rfl (by kernel_rfl) (fun _ _ _ h => h) (by rfl) ?_ (by assumption) ?_
        rotate_left
        ·(intro w' hSw; (try dsimp only at hSw); go_simp; try with_reducible rfl)
        (try simp only [jA,jB,jC,Act.put,jD,jE,jF])
        refine tj 2 ?_ rfl (by kernel_rfl) (fun _ _ _ h => h) (by rfl) ?_ (by assumption) ?_
        rotate_left
        ·(intro w' hSw; (try dsimp only at hSw); go_simp; try with_reducible rfl)
        (try simp only [jA,jB,jC,Act.put,jD,jE,jF])
        refine tj 3 ?_ rfl (by kernel_rfl) (fun _ _ _ h => h) (by rfl) ?_ (by assumption) ?_
        rotate_left
        ·(intro w' hSw; (try dsimp only at hSw); go_simp; try with_reducible rfl)
        (try simp only [jA,jB,jC,Act.put,jD,jE,jF])
        refine tj 4 ?_ rfl (by kernel_rfl) (fun _ _ _ h => h) (by rfl) ?_ (by assumption) ?_
        rotate_left
        ·(intro w' hSw; (try dsimp only at hSw); go_simp; try with_reducible rfl)
        (try simp only [jA,jB,jC,Act.put,jD,jE,jF])
        refine tj 5 ?_ rfl (by kernel_rfl) (fun _ _ _ h => h) (by rfl) ?_ (by assumption) ?_
        rotate_left
        ·(intro w' hSw; (try dsimp only at hSw); go_simp; try with_reducible rfl)
        (try simp only [jA,jB,jC,Act.put,jD,jE,jF])
        refine tj 6 ?_ rfl (by kernel_rfl) (fun _ _ _ h => h) (by rfl) ?_ (by assumption) ?_
        rotate_left
        ·(intro w' hSw; (try dsimp only at hSw); go_simp; try with_reducible rfl)
        (try simp only [jA,jB,jC,Act.put,jD,jE,jF])
        refine tj 7 ?_ rfl (by kernel_rfl) (fun _ _ _ h => h) (by rfl) ?_ (by assumption) ?_
        rotate_left
        ·(intro w' hSw; (try dsimp only at hSw); go_simp; try with_reducible rfl)
        (try simp only [jA,jB,jC,Act.put,jD,jE,jF])
        refine tj 8 ?_ rfl (by kernel_rfl) (fun _ _ _ h => h) (by rfl) ?_ (by assumption) ?_
        rotate_left
        ·(intro w' hSw; (try dsimp only at hSw); go_simp; try with_reducible rfl)
        (try simp only [jA,jB,jC,Act.put,jD,jE,jF])
        refine tj 9 ?_ rfl (by kernel_rfl) (fun _ _ _ h => h) (by rfl) ?_ (by assumption) ?_
        rotate_left
        ·(intro w' hSw; (try dsimp only at hSw); go_simp; try with_reducible rfl)
        (try simp only [jA,jB,jC,Act.put,jD,jE,jF])
        refine tj 10 ?_ rfl (by kernel_rfl) (fun _ _ _ h => h) (by rfl) ?_ (by assumption) ?_
        rotate_left
        ·(intro w' hSw; (try dsimp only at hSw); go_simp; try with_reducible rfl)
        (try simp only [jA,jB,jC,Act.put,jD,jE,jF])
        refine tj 11 ?_ rfl (by kernel_rfl) (fun _ _ _ h => h) (by rfl) ?_ (by assumption) ?_
        rotate_left
        ·(intro w' hSw; (try dsimp only at hSw); go_simp; try with_reducible rfl)
        (try simp only [jA,jB,jC,Act.put,jD,jE,jF])
        refine tj 12 ?_ rfl (by kernel_rfl) (fun _ _ _ h => h) (by rfl) ?_ (by assumption) ?_
        rotate_left
        ·(intro w' hSw; (try dsimp only at hSw); go_simp; try with_reducible rfl)
        (try simp only [jA,jB,jC,Act.put,jD,jE,jF])
        refine tj 13 ?_ rfl (by kernel_rfl) (fun _ _ _ h => h) (by rfl) ?_ (by assumption) ?_
        rotate_left
        ·(intro w' hSw; (try dsimp only at hSw); go_simp; try with_reducible rfl)
        (try simp only [jA,jB,jC,Act.put,jD,jE,jF])
        refine tj 14 ?_ rfl (by kernel_rfl) (fun _ _ _ h => h) (by rfl) ?_ (by assumption) ?_
        rotate_left
        ·(intro w' hSw; (try dsimp only at hSw); go_simp; try with_reducible rfl)
        (try simp only [jA,jB,jC,Act.put,jD,jE,jF])
        refine tj 15 ?_ rfl (by kernel_rfl) (fun _ _ _ h => h) (by rfl) ?_ (by assumption) ?_
        rotate_left
        ·(intro w' hSw; (try dsimp only at hSw); go_simp; try with_reducible rfl)
        (try simp only [jA,jB,jC,Act.put,jD,jE,jF])
        refine tj 16 ?_ rfl (by kernel_rfl) (fun _ _ _ h => h) (by rfl) ?_ (by assumption) ?_
        rotate_left
        ·(intro w' hSw; (try dsimp only at hSw); go_simp; try with_reducible rfl)
        (try simp only [jA,jB,jC,Act.put,jD,jE,jF])
        refine tj 17 ?_ rfl (by kernel_rfl) (fun _ _ _ h => h) (by rfl) ?_ (by assumption) ?_
        rotate_left
        ·(intro w' hSw; (try dsimp only at hSw); go_simp; try with_reducible rfl)
        (try simp only [jA,jB,jC,Act.put,jD,jE,jF])
        refine tj 18 ?_ rfl (by kernel_rfl) (fun _ _ _ h => h) (by rfl) ?_ (by assumption) ?_
        rotate_left
        ·(intro w' hSw; (try dsimp only at hSw); go_simp; try with_reducible rfl)
        (try simp only [jA,jB,jC,Act.put,jD,jE,jF])
        refine tj 19 ?_ rfl (by kernel_rfl) (fun _ _ _ h => h) (by rfl) ?_ (by assumption) ?_
        rotate_left
        ·(intro w' hSw; (try dsimp only at hSw); go_simp; try with_reducible rfl)
        (try simp only [jA,jB,jC,Act.put,jD,jE,jF])
        refine tj 20 ?_ rfl (by kernel_rfl) (fun _ _ _ h => h) (by rfl) ?_ (by assumption) ?_
        rotate_left
        ·(intro w' hSw; (try dsimp only at hSw); go_simp; try with_reducible rfl)
        (try simp only [jA,jB,jC,Act.put,jD,jE,jF])
        refine tj 21 ?_ rfl (by kernel_rfl) (fun _ _ _ h => h) (by rfl) ?_ (by assumption) ?_
        rotate_left
        ·(intro w' hSw; (try dsimp only at hSw); go_simp; try with_reducible rfl)
        (try simp only [jA,jB,jC,Act.put,jD,jE,jF])
        refine tj 22 ?_ rfl (by kernel_rfl) (fun _ _ _ h => h) (by rfl) ?_ (by assumption) ?_
        rotate_left
        ·(intro w' hSw; (try dsimp only at hSw); go_simp; try with_reducible rfl)
        (try simp only [jA,jB,jC,Act.put,jD,jE,jF])
        refine tj 23 ?_ rfl (by kernel_rfl) (fun _ _ _ h => h) (by rfl) ?_ (by assumption) ?_
        rotate_left
        ·(intro w' hSw; (try dsimp only at hSw); go_simp; try with_reducible rfl)
        (try simp only [jA,jB,jC,Act.put,jD,jE,jF])
        refine tj 24 ?_ rfl (by kernel_rfl) (fun _ _ _ h => h) (by rfl) ?_ (by assumption) ?_
        rotate_left
        ·(intro w' hSw; (try dsimp only at hSw); go_simp; try with_reducible rfl)
        (try simp only [jA,jB,jC,Act.put,jD,jE,jF])
        refine wpAnyH_done (by kernel_rfl) ?_ _
        clear hHeld
        go_wp2_with fail
        go_meet
        exact ⟨_,rfl,hX.out.below (Below.drew (Below.refl _ _))⟩
       case rest =>
        obtain ⟨n2,rfl,hX2⟩:=hcut
        clear y1 y2 y3 c17 hX
        by_cases h2 : (2000 : Int) < n2
        ·go_wp2_with fail
         go_ret
         exact ⟨_,rfl,(fun _ => trivial),hX2.out.bel⟩
        ·go_wp2_with fail
         go_roundw
         case rel => exact ⟨k+1,n2,by omega,by go_num,rfl,hX2.out⟩
         case measure => simp [intOf]; omega
      ·have i2 : ¬ (k : Int) < (x.loads.length : Int):=by omega
       go_wp2_with fail
       go_ret
       exact ⟨_,rfl,(fun _ => trivial),hX.out.bel⟩
 ·have q0 : (ck != 0) = true:=by simp [hk]
  clear hk HL4
  go_wp2_with fail
  go_ret
  exact ⟨_,rfl,(fun _ => trivial),HX1.out.bel⟩
end Go.Proofs.YtnppngaabfhkpaaGreat
namespace Go.Proofs.YtnppngaabfhkpaaGreat
open Go.RowKit
attribute [local go_sem ↓] Go.wp_at_zero Go.wp_at_succ
theorem Pb.dec_short (p : Pb) : p.chk = 0→p.dec.starts.length ≤ 1000:=fun h => by
 have h1:=(Pb.dec_able h).len
 have h2:=Pb.loads4 (Pb.good h)
 omega
theorem Pb.dec_short2 (p : Pb) : p.dec.starts.length ≤ 1000:=by
 by_cases h : p.chk = 0
 ·exact p.dec_short h
 ·unfold Pb.dec; rw [if_pos h]; decide
set_option maxRecDepth 100000 in
set_option maxHeartbeats 64000000 in
theorem cdecides_law (x : PbM) (w : World) (hP0 : RPb w x) (hL0 : ∀ z ∈ x.loads,z.r.prof.length ≤ maxLen∧z.r.name.size ≤ maxLen ∧ -9223372036854775808 ≤ z.r.late∧z.r.late ≤ 9223372036854775807) (hc0 : x.loads.length ≤ x.lc) (hm0 : x.buy.l.length ≤ maxLen) (hC0 : x.Cap) :
  Calls Tryz.prog 3 #[x.v] w fun e w' => e = .returned (.bool true)∧Below w.heap.size w w':=by
 have hF0 : x.Fit:=⟨fun y h => (hL0 y h).2.1,fun y h => (hL0 y h).1,hc0,hm0,fun y h => (hL0 y h).2.2⟩
 have hP:=Lib.hid hP0
 have haw:=Lib.hid awake44_any
 have _:=hC0
 have hlg:=fun W (h : RPb W x) => large_any x W h
 have hck:=fun W (h : RPb W x) => rpcheck_any x W h hF0
 have hfw:=fun W (h : RPb W x) => few44_any x W h hF0
 have hde:=fun W (h : RPb W x) => decide_any x W h hF0
 have hrd:=fun W (h : RPb W x) => rdecide_any x W h hF0
 have hsm:=fun (a b : DcM) W (h1 : RBools W a.A a.l) (h2 : RBools W b.A b.l) (e1 : a.d = x.p.dec) (e2 : b.d = x.p.dec) => (by
  have h:=rsame44_true a b W h1 h2 (e1.trans e2.symm) (by have h3:=x.p.dec_short2; rw [← e1] at h3; exact h3)
  simp only [DcM.v] at h
  exact h : Calls Tryz.prog 11 #[.agg #[.int .i64 a.charge,.int .i64 a.heat,.slice a.A a.l.length a.c],.agg #[.int .i64 b.charge,.int .i64 b.heat,.slice b.A b.l.length b.c]] W (fun e w' => e = .returned (.bool true)∧Below W.heap.size W w'))
 have hls:=fun (d : DcM) W => (by
  have h:=lawsame_any d W
  simp only [DcM.v,DcM.cs] at h
  exact h : Calls Tryz.prog 12 #[.agg #[.int .i64 d.charge,.int .i64 d.heat,.slice d.A d.l.length d.c]] W (fun e w' => e = .returned (.agg #[.int .i64 d.charge,.int .i64 d.heat,.slice d.A d.l.length d.c])∧Below W.heap.size W w'))
 have hst0:=PB.start x w
 simp only [PbM.v]
 obtain ⟨W,hW⟩ : ∃ W,W = w.alloc (.cells #[.slice x.buy.A x.buy.l.length x.buy.c,.slice x.sell.A x.sell.l.length x.sell.c,.int .i64 x.fuse,.slice x.solar.A x.solar.l.length x.solar.c,.slice x.demand.A x.demand.l.length x.demand.c,.slice x.outside.A x.outside.l.length x.outside.c,.int .i64 x.bat.cap,.int .i64 x.bat.reserve,.int .i64 x.bat.charge,.int .i64 x.bat.discharge,.int .i64 x.bat.eff,.int .i64 x.gain,.int .i64 x.loss,.int .i64 x.steps,.int .i64 x.power,.slice x.low.A x.low.l.length x.low.c,.slice x.high.A x.high.l.length x.high.c,.slice x.LA x.loads.length x.lc,.int .i64 x.level,.int .i64 x.temp] 31):=⟨_,rfl⟩
 rw [show w.alloc (.cells x.cs 31) = W from hW.symm] at hst0
 have hst:=Lib.hid hst0
 have hWH:=Lib.hid hW
 clear hst0 hW hP0 hL0 hc0 hm0 hF0 hC0
 generalize x.p.chk = ck at *
 generalize x.p.bestE = be at *
 generalize x.p.dec = dc at *
 have HLG:=Lib.hid hlg
 have HCK:=Lib.hid hck
 have HFW:=Lib.hid hfw
 have HDE:=Lib.hid hde
 have HRD:=Lib.hid hrd
 have HSM:=Lib.hid hsm
 have HLS:=Lib.hid hls
 clear hlg hck hfw hde hrd hsm hls
 go_enter Tryz.func3,Tryz.ntmps3
 go_upto_region 1 with fail
 rw [← hWH.out]
 clear hWH
 go_wp2_with (first | refine wpList_load_problemG (by rfl) _ rfl w.heap.size rfl x hst.out.p ?_)
 refine (HLG.out _ (hst.out.pr hP.out)).mono ?_
 rintro e w1 ⟨g,rfl,_,hb1⟩
 have HX1:=Lib.hid (hst.out.below hb1)
 clear hb1 hst HLG
 cases g
 ·go_wp2_with (first | refine wpList_load_problemG (by rfl) _ rfl w.heap.size rfl x HX1.out.p ?_)
  refine (HCK.out _ (HX1.out.pr hP.out)).mono ?_
  rintro e w2 ⟨rfl,hb2⟩
  have HX2:=Lib.hid (HX1.out.below hb2)
  clear hb2 HX1 HCK
  by_cases hk : ck = 0
  ·have q0 : (ck == 0) = true:=by simp [hk]
   clear hk
   go_wp2_with (first | refine wpList_load_problemG (by rfl) _ rfl w.heap.size rfl x HX2.out.p ?_)
   refine (HFW.out _ (HX2.out.pr hP.out)).mono ?_
   rintro e w9 ⟨g2,rfl,_,hb9⟩
   have HX9:=Lib.hid (HX2.out.below hb9)
   clear hb9 HX2 HFW
   cases g2
   ·clear HDE HRD HSM HLS
    go_wp2_with fail
    refine (haw.out _).mono ?_
    rintro e wl ⟨rfl,hbl⟩
    go_wp2_with fail
    go_ret
    exact ⟨rfl,HX9.out.bel.trans (hbl.mono HX9.out.bel.size)⟩
   ·skip
    go_upto_region 3 with fail
    go_wp2_with (first | refine wpList_load_problemG (by rfl) _ rfl w.heap.size rfl x HX9.out.p ?_)
    refine (HDE.out _ (HX9.out.pr hP.out)).mono ?_
    rintro e w3 ⟨_,rfl,d,rfl,hd,hrd,_,_,hb3⟩
    have HX3:=Lib.hid (HX9.out.below hb3)
    have HDd:=Lib.hid hd
    have HRd:=Lib.hid hrd
    clear hb3 HX9 HDE hd hrd
    simp only [DcM.v]
    go_wp2_with (refine wpList_store_blk rfl 39 _ _ rfl w3.heap.size rfl d.cs rfl (by kernel_rfl) (DcM.cs_one _) (Blk.new w3 _ _) rfl ?_)
    intro w4 hBB hgg
    have hss : Below w3.heap.size w3 w4:=((Below.refl w3.heap.size w3).alloc (Nat.le_refl _) (.cells #[.int .i64 0,.int .i64 0,.slice none 0 0] 39)).grown hgg (by simp) (fun k e => by injection e with e; omega)
    obtain ⟨t3,ht⟩ : ∃ t,t = w3.heap.size:=⟨_,rfl⟩
    have HX4:=Lib.hid (HX3.out.below hss)
    have HK4 : Hid (Blk w4 t3 39 d.cs):=by show Blk _ _ _ _; rw [ht]; exact hBB
    have HR4:=Lib.hid (HRd.out.below hss)
    have HT:=Lib.hid ht
    clear hss hgg hBB ht HX3 HRd
    go_upto_region 4 with fail
    rw [← HT.out]
    clear HT
    go_wp2_with (first | refine wpList_load_problemG (by rfl) _ rfl w.heap.size rfl x HX4.out.p ?_)
    refine (HRD.out _ (HX4.out.pr hP.out)).mono ?_
    rintro e w5 ⟨_,rfl,b,rfl,hd,hrd,_,_,hb5⟩
    have HX5:=Lib.hid (HX4.out.below hb5)
    have HK5:=Lib.hid (HK4.out.below hb5 HK4.out.lt)
    have HR5:=Lib.hid (HR4.out.below hb5)
    have HDb:=Lib.hid hd
    have HRb:=Lib.hid hrd
    clear hb5 HX4 HK4 HR4 HRD hd hrd
    simp only [DcM.v]
    go_wp2_with (refine wpList_store_blk rfl 42 _ _ rfl w5.heap.size rfl b.cs rfl (by kernel_rfl) (DcM.cs_one _) (Blk.new w5 _ _) rfl ?_)
    intro w6 hBB hgg
    have hss : Below w5.heap.size w5 w6:=((Below.refl w5.heap.size w5).alloc (Nat.le_refl _) (.cells #[.int .i64 0,.int .i64 0,.slice none 0 0] 42)).grown hgg (by simp) (fun k e => by injection e with e; omega)
    obtain ⟨t5,ht⟩ : ∃ t,t = w5.heap.size:=⟨_,rfl⟩
    have HX6:=Lib.hid (HX5.out.below hss)
    have HK6:=Lib.hid (HK5.out.below hss HK5.out.lt)
    have HR6:=Lib.hid (HR5.out.below hss)
    have HJ6 : Hid (Blk w6 t5 42 b.cs):=by show Blk _ _ _ _; rw [ht]; exact hBB
    have HS6:=Lib.hid (HRb.out.below hss)
    have HT:=Lib.hid ht
    clear hss hgg hBB ht HX5 HK5 HR5 HRb
    go_upto_region 5 with fail
    rw [← HT.out]
    clear HT
    have k0:=HK6.out.cell 0
    have k1:=HK6.out.cell 1
    have k2:=HK6.out.cell 2
    have j0:=HJ6.out.cell 0
    have j1:=HJ6.out.cell 1
    have j2:=HJ6.out.cell 2
    simp [DcM.cs] at k0 k1 k2 j0 j1 j2
    have q9 : (be == be) = true:=by simp
    refine wp_region_held_drew (S:=(fun w' => w'.cell? ⟨t3,0,none⟩ = some (.int .i64 d.charge)∧w'.cell? ⟨t3,1,none⟩ = some (.int .i64 d.heat)∧w'.cell? ⟨t3,2,none⟩ = some (.slice d.A d.l.length d.c)∧w'.cell? ⟨t5,0,none⟩ = some (.int .i64 b.charge)∧w'.cell? ⟨t5,1,none⟩ = some (.int .i64 b.heat)∧w'.cell? ⟨t5,2,none⟩ = some (.slice b.A b.l.length b.c))) (by kernel_rfl) (⟨k0,k1,k2,j0,j1,j2⟩) (fun hHeld => ?_)
    refine tj 0 ?_ rfl (by kernel_rfl) (fun _ _ _ h => h) (by rfl) ?_ (by assumption) ?_
    rotate_left
    ·(intro w' hSw; (try dsimp only at hSw); go_simp; try with_reducible rfl)
    (try simp only [jA,jB,Act.put,jD,jE,jF])
    refine tj 2 ?_ rfl (by kernel_rfl) (fun _ _ _ h => h) (by rfl) ?_ (by assumption) ?_
    rotate_left
    ·(intro w' hSw; (try dsimp only at hSw); go_simp; try with_reducible rfl)
    (try simp only [jA,jB,jC,Act.put,jD,jE,jF])
    refine wpAnyH_ready (rs := [1]) (by kernel_rfl) (by simp) ?_
    refine (AllReadyH.cons rfl (fun K hK => ?_) AllReadyH.nil)
    have HKK:=Lib.hid hK
    clear hK
    go_simp
    refine (HLS.out d _).mono ?_
    rintro e' yw1 ⟨rfl,hb1⟩
    have hq1 : Below w6.heap.size w6 yw1:=below_tr (Below.drew (Below.refl w6.heap.size w6)) hb1
    have HB_yw1:=Lib.hid ((HX6.out.bel).trans (hq1.mono (Below.size (HX6.out.bel))))
    have HS_yw1 : Hid (w6.heap.size ≤ yw1.heap.size):=Nat.le_trans ((Nat.le_refl w6.heap.size)) hq1.size
    have ra_yw1:=Lib.hid (HR6.out.below hq1)
    have rb_yw1:=Lib.hid (HS6.out.below hq1)
    clear hb1
    go_wp2_with fail
    refine HKK.out _ _ (⟨(cell_below k0 hq1),(cell_below k1 hq1),(cell_below k2 hq1),(cell_below j0 hq1),(cell_below j1 hq1),(cell_below j2 hq1)⟩) (fun hH2 => ?_)
    clear HKK K
    replace hHeld:=hH2
    clear hH2
    (try simp only [jA,jB,jC,Act.put,jD,jE,jF])
    refine wpAnyH_ready (rs := [3]) (by kernel_rfl) (by simp) ?_
    refine (AllReadyH.cons rfl (fun K hK => ?_) AllReadyH.nil)
    have HKK:=Lib.hid hK
    clear hK
    go_simp
    refine (HSM.out d b _ ra_yw1.out rb_yw1.out HDd.out HDb.out).mono ?_
    rintro e' yw2 ⟨rfl,hb2⟩
    have hq2 : Below yw1.heap.size yw1 yw2:=hb2
    have HB_yw2:=Lib.hid ((HB_yw1.out).trans (hq2.mono (Below.size (HB_yw1.out))))
    have HS_yw2 : Hid (w6.heap.size ≤ yw2.heap.size):=Nat.le_trans (HS_yw1.out) hq2.size
    have ra_yw2:=Lib.hid (ra_yw1.out.below hq2)
    have rb_yw2:=Lib.hid (rb_yw1.out.below hq2)
    clear hb2
    go_wp2_with fail
    refine HKK.out _ _ (⟨(cell_below (cell_below k0 hq1) hq2),(cell_below (cell_below k1 hq1) hq2),(cell_below (cell_below k2 hq1) hq2),(cell_below (cell_below j0 hq1) hq2),(cell_below (cell_below j1 hq1) hq2),(cell_below (cell_below j2 hq1) hq2)⟩) (fun hH2 => ?_)
    clear HKK K
    replace hHeld:=hH2
    clear hH2
    (try simp only [jA,jB,jC,Act.put,jD,jE,jF])
    refine tj 4 ?_ rfl (by kernel_rfl) (fun _ _ _ h => h) (by rfl) ?_ (by assumption) ?_
    rotate_left
    ·(intro w' hSw; (try dsimp only at hSw); go_simp; try with_reducible rfl)
    (try simp only [jA,jB,jC,Act.put,jD,jE,jF])
    refine tj 5 ?_ rfl (by kernel_rfl) (fun _ _ _ h => h) (by rfl) ?_ (by assumption) ?_
    rotate_left
    ·(intro w' hSw; (try dsimp only at hSw); go_simp; try with_reducible rfl)
    (try simp only [jA,jB,jC,Act.put,jD,jE,jF])
    refine tj 6 ?_ rfl (by kernel_rfl) (fun _ _ _ h => h) (by rfl) ?_ (by assumption) ?_
    rotate_left
    ·(intro w' hSw; (try dsimp only at hSw); go_simp; try with_reducible rfl)
    (try simp only [jA,jB,jC,Act.put,jD,jE,jF])
    refine tj 7 ?_ rfl (by kernel_rfl) (fun _ _ _ h => h) (by rfl) ?_ (by assumption) ?_
    rotate_left
    ·(intro w' hSw; (try dsimp only at hSw); go_simp; try with_reducible rfl)
    (try simp only [jA,jB,jC,Act.put,jD,jE,jF])
    refine tj 8 ?_ rfl (by kernel_rfl) (fun _ _ _ h => h) (by rfl) ?_ (by assumption) ?_
    rotate_left
    ·(intro w' hSw; (try dsimp only at hSw); go_simp; try with_reducible rfl)
    (try simp only [jA,jB,jC,Act.put,jD,jE,jF])
    refine tj 9 ?_ rfl (by kernel_rfl) (fun _ _ _ h => h) (by rfl) ?_ (by assumption) ?_
    rotate_left
    ·(intro w' hSw; (try dsimp only at hSw); go_simp; try with_reducible rfl)
    (try simp only [jA,jB,jC,Act.put,jD,jE,jF])
    refine wpAnyH_ready (rs := [10]) (by kernel_rfl) (by simp) ?_
    refine (AllReadyH.cons rfl (fun K hK => ?_) AllReadyH.nil)
    have HKK:=Lib.hid hK
    clear hK
    go_simp
    refine (haw.out _).mono ?_
    rintro e' yw3 ⟨rfl,hb3⟩
    have hq3 : Below yw2.heap.size yw2 yw3:=hb3
    have HB_yw3:=Lib.hid ((HB_yw2.out).trans (hq3.mono (Below.size (HB_yw2.out))))
    have HS_yw3 : Hid (w6.heap.size ≤ yw3.heap.size):=Nat.le_trans (HS_yw2.out) hq3.size
    have ra_yw3:=Lib.hid (ra_yw2.out.below hq3)
    have rb_yw3:=Lib.hid (rb_yw2.out.below hq3)
    clear hb3
    go_wp2_with fail
    refine HKK.out _ _ (⟨(cell_below (cell_below (cell_below k0 hq1) hq2) hq3),(cell_below (cell_below (cell_below k1 hq1) hq2) hq3),(cell_below (cell_below (cell_below k2 hq1) hq2) hq3),(cell_below (cell_below (cell_below j0 hq1) hq2) hq3),(cell_below (cell_below (cell_below j1 hq1) hq2) hq3),(cell_below (cell_below (cell_below j2 hq1) hq2) hq3)⟩) (fun hH2 => ?_)
    clear HKK K
    replace hHeld:=hH2
    clear hH2
    (try simp only [jA,jB,jC,Act.put,jD,jE,jF])
    refine tj 11 ?_ rfl (by kernel_rfl) (fun _ _ _ h => h) (by rfl) ?_ (by assumption) ?_
    rotate_left
    ·(intro w' hSw; (try dsimp only at hSw); go_simp; try with_reducible rfl)
    (try simp only [jA,jB,jC,Act.put,jD,jE,jF])
    refine tj 12 ?_ rfl (by kernel_rfl) (fun _ _ _ h => h) (by rfl) ?_ (by assumption) ?_
    rotate_left
    ·(intro w' hSw; (try dsimp only at hSw); go_simp; try with_reducible rfl)
    (try simp only [jA,jB,jC,Act.put,jD,jE,jF])
    refine wpAnyH_done (by kernel_rfl) ?_ _
    have HBF:=Lib.hid (HB_yw3.out)
    clear hHeld
    go_wp2_with fail
    go_ret
    exact ⟨rfl,HBF.out⟩
  ·have q0 : (ck == 0) = false:=by simp [hk]
   clear hk HFW
   go_upto_region 3 with fail
   go_wp2_with (first | refine wpList_load_problemG (by rfl) _ rfl w.heap.size rfl x HX2.out.p ?_)
   refine (HDE.out _ (HX2.out.pr hP.out)).mono ?_
   rintro e w3 ⟨_,rfl,d,rfl,hd,hrd,_,_,hb3⟩
   have HX3:=Lib.hid (HX2.out.below hb3)
   have HDd:=Lib.hid hd
   have HRd:=Lib.hid hrd
   clear hb3 HX2 HDE hd hrd
   simp only [DcM.v]
   go_wp2_with (refine wpList_store_blk rfl 39 _ _ rfl w3.heap.size rfl d.cs rfl (by kernel_rfl) (DcM.cs_one _) (Blk.new w3 _ _) rfl ?_)
   intro w4 hBB hgg
   have hss : Below w3.heap.size w3 w4:=((Below.refl w3.heap.size w3).alloc (Nat.le_refl _) (.cells #[.int .i64 0,.int .i64 0,.slice none 0 0] 39)).grown hgg (by simp) (fun k e => by injection e with e; omega)
   obtain ⟨t3,ht⟩ : ∃ t,t = w3.heap.size:=⟨_,rfl⟩
   have HX4:=Lib.hid (HX3.out.below hss)
   have HK4 : Hid (Blk w4 t3 39 d.cs):=by show Blk _ _ _ _; rw [ht]; exact hBB
   have HR4:=Lib.hid (HRd.out.below hss)
   have HT:=Lib.hid ht
   clear hss hgg hBB ht HX3 HRd
   go_upto_region 4 with fail
   rw [← HT.out]
   clear HT
   go_wp2_with (first | refine wpList_load_problemG (by rfl) _ rfl w.heap.size rfl x HX4.out.p ?_)
   refine (HRD.out _ (HX4.out.pr hP.out)).mono ?_
   rintro e w5 ⟨_,rfl,b,rfl,hd,hrd,_,_,hb5⟩
   have HX5:=Lib.hid (HX4.out.below hb5)
   have HK5:=Lib.hid (HK4.out.below hb5 HK4.out.lt)
   have HR5:=Lib.hid (HR4.out.below hb5)
   have HDb:=Lib.hid hd
   have HRb:=Lib.hid hrd
   clear hb5 HX4 HK4 HR4 HRD hd hrd
   simp only [DcM.v]
   go_wp2_with (refine wpList_store_blk rfl 42 _ _ rfl w5.heap.size rfl b.cs rfl (by kernel_rfl) (DcM.cs_one _) (Blk.new w5 _ _) rfl ?_)
   intro w6 hBB hgg
   have hss : Below w5.heap.size w5 w6:=((Below.refl w5.heap.size w5).alloc (Nat.le_refl _) (.cells #[.int .i64 0,.int .i64 0,.slice none 0 0] 42)).grown hgg (by simp) (fun k e => by injection e with e; omega)
   obtain ⟨t5,ht⟩ : ∃ t,t = w5.heap.size:=⟨_,rfl⟩
   have HX6:=Lib.hid (HX5.out.below hss)
   have HK6:=Lib.hid (HK5.out.below hss HK5.out.lt)
   have HR6:=Lib.hid (HR5.out.below hss)
   have HJ6 : Hid (Blk w6 t5 42 b.cs):=by show Blk _ _ _ _; rw [ht]; exact hBB
   have HS6:=Lib.hid (HRb.out.below hss)
   have HT:=Lib.hid ht
   clear hss hgg hBB ht HX5 HK5 HR5 HRb
   go_upto_region 5 with fail
   rw [← HT.out]
   clear HT
   have k0:=HK6.out.cell 0
   have k1:=HK6.out.cell 1
   have k2:=HK6.out.cell 2
   have j0:=HJ6.out.cell 0
   have j1:=HJ6.out.cell 1
   have j2:=HJ6.out.cell 2
   simp [DcM.cs] at k0 k1 k2 j0 j1 j2
   have q9 : (be == be) = true:=by simp
   refine wp_region_held_drew (S:=(fun w' => w'.cell? ⟨t3,0,none⟩ = some (.int .i64 d.charge)∧w'.cell? ⟨t3,1,none⟩ = some (.int .i64 d.heat)∧w'.cell? ⟨t3,2,none⟩ = some (.slice d.A d.l.length d.c)∧w'.cell? ⟨t5,0,none⟩ = some (.int .i64 b.charge)∧w'.cell? ⟨t5,1,none⟩ = some (.int .i64 b.heat)∧w'.cell? ⟨t5,2,none⟩ = some (.slice b.A b.l.length b.c))) (by kernel_rfl) (⟨k0,k1,k2,j0,j1,j2⟩) (fun hHeld => ?_)
   refine tj 0 ?_ rfl (by kernel_rfl) (fun _ _ _ h => h) (by rfl) ?_ (by assumption) ?_
   rotate_left
   ·(intro w' hSw; (try dsimp only at hSw); go_simp; try with_reducible rfl)
   (try simp only [jA,jB,Act.put,jD,jE,jF])
   refine tj 2 ?_ rfl (by kernel_rfl) (fun _ _ _ h => h) (by rfl) ?_ (by assumption) ?_
   rotate_left
   ·(intro w' hSw; (try dsimp only at hSw); go_simp; try with_reducible rfl)
   (try simp only [jA,jB,jC,Act.put,jD,jE,jF])
   refine wpAnyH_ready (rs := [1]) (by kernel_rfl) (by simp) ?_
   refine (AllReadyH.cons rfl (fun K hK => ?_) AllReadyH.nil)
   have HKK:=Lib.hid hK
   clear hK
   go_simp
   refine (HLS.out d _).mono ?_
   rintro e' yw1 ⟨rfl,hb1⟩
   have hq1 : Below w6.heap.size w6 yw1:=below_tr (Below.drew (Below.refl w6.heap.size w6)) hb1
   have HB_yw1:=Lib.hid ((HX6.out.bel).trans (hq1.mono (Below.size (HX6.out.bel))))
   have HS_yw1 : Hid (w6.heap.size ≤ yw1.heap.size):=Nat.le_trans ((Nat.le_refl w6.heap.size)) hq1.size
   have ra_yw1:=Lib.hid (HR6.out.below hq1)
   have rb_yw1:=Lib.hid (HS6.out.below hq1)
   clear hb1
   go_wp2_with fail
   refine HKK.out _ _ (⟨(cell_below k0 hq1),(cell_below k1 hq1),(cell_below k2 hq1),(cell_below j0 hq1),(cell_below j1 hq1),(cell_below j2 hq1)⟩) (fun hH2 => ?_)
   clear HKK K
   replace hHeld:=hH2
   clear hH2
   (try simp only [jA,jB,jC,Act.put,jD,jE,jF])
   refine wpAnyH_ready (rs := [3]) (by kernel_rfl) (by simp) ?_
   refine (AllReadyH.cons rfl (fun K hK => ?_) AllReadyH.nil)
   have HKK:=Lib.hid hK
   clear hK
   go_simp
   refine (HSM.out d b _ ra_yw1.out rb_yw1.out HDd.out HDb.out).mono ?_
   rintro e' yw2 ⟨rfl,hb2⟩
   have hq2 : Below yw1.heap.size yw1 yw2:=hb2
   have HB_yw2:=Lib.hid ((HB_yw1.out).trans (hq2.mono (Below.size (HB_yw1.out))))
   have HS_yw2 : Hid (w6.heap.size ≤ yw2.heap.size):=Nat.le_trans (HS_yw1.out) hq2.size
   have ra_yw2:=Lib.hid (ra_yw1.out.below hq2)
   have rb_yw2:=Lib.hid (rb_yw1.out.below hq2)
   clear hb2
   go_wp2_with fail
   refine HKK.out _ _ (⟨(cell_below (cell_below k0 hq1) hq2),(cell_below (cell_below k1 hq1) hq2),(cell_below (cell_below k2 hq1) hq2),(cell_below (cell_below j0 hq1) hq2),(cell_below (cell_below j1 hq1) hq2),(cell_below (cell_below j2 hq1) hq2)⟩) (fun hH2 => ?_)
   clear HKK K
   replace hHeld:=hH2
   clear hH2
   (try simp only [jA,jB,jC,Act.put,jD,jE,jF])
   refine tj 4 ?_ rfl (by kernel_rfl) (fun _ _ _ h => h) (by rfl) ?_ (by assumption) ?_
   rotate_left
   ·(intro w' hSw; (try dsimp only at hSw); go_simp; try with_reducible rfl)
   (try simp only [jA,jB,jC,Act.put,jD,jE,jF])
   refine tj 5 ?_ rfl (by kernel_rfl) (fun _ _ _ h => h) (by rfl) ?_ (by assumption) ?_
   rotate_left
   ·(intro w' hSw; (try dsimp only at hSw); go_simp; try with_reducible rfl)
   (try simp only [jA,jB,jC,Act.put,jD,jE,jF])
   refine tj 6 ?_ rfl (by kernel_rfl) (fun _ _ _ h => h) (by rfl) ?_ (by assumption) ?_
   rotate_left
   ·(intro w' hSw; (try dsimp only at hSw); go_simp; try with_reducible rfl)
   (try simp only [jA,jB,jC,Act.put,jD,jE,jF])
   refine tj 7 ?_ rfl (by kernel_rfl) (fun _ _ _ h => h) (by rfl) ?_ (by assumption) ?_
   rotate_left
   ·(intro w' hSw; (try dsimp only at hSw); go_simp; try with_reducible rfl)
   (try simp only [jA,jB,jC,Act.put,jD,jE,jF])
   refine tj 8 ?_ rfl (by kernel_rfl) (fun _ _ _ h => h) (by rfl) ?_ (by assumption) ?_
   rotate_left
   ·(intro w' hSw; (try dsimp only at hSw); go_simp; try with_reducible rfl)
   (try simp only [jA,jB,jC,Act.put,jD,jE,jF])
   refine tj 9 ?_ rfl (by kernel_rfl) (fun _ _ _ h => h) (by rfl) ?_ (by assumption) ?_
   rotate_left
   ·(intro w' hSw; (try dsimp only at hSw); go_simp; try with_reducible rfl)
   (try simp only [jA,jB,jC,Act.put,jD,jE,jF])
   refine wpAnyH_ready (rs := [10]) (by kernel_rfl) (by simp) ?_
   refine (AllReadyH.cons rfl (fun K hK => ?_) AllReadyH.nil)
   have HKK:=Lib.hid hK
   clear hK
   go_simp
   refine (haw.out _).mono ?_
   rintro e' yw3 ⟨rfl,hb3⟩
   have hq3 : Below yw2.heap.size yw2 yw3:=hb3
   have HB_yw3:=Lib.hid ((HB_yw2.out).trans (hq3.mono (Below.size (HB_yw2.out))))
   have HS_yw3 : Hid (w6.heap.size ≤ yw3.heap.size):=Nat.le_trans (HS_yw2.out) hq3.size
   have ra_yw3:=Lib.hid (ra_yw2.out.below hq3)
   have rb_yw3:=Lib.hid (rb_yw2.out.below hq3)
   clear hb3
   go_wp2_with fail
   refine HKK.out _ _ (⟨(cell_below (cell_below (cell_below k0 hq1) hq2) hq3),(cell_below (cell_below (cell_below k1 hq1) hq2) hq3),(cell_below (cell_below (cell_below k2 hq1) hq2) hq3),(cell_below (cell_below (cell_below j0 hq1) hq2) hq3),(cell_below (cell_below (cell_below j1 hq1) hq2) hq3),(cell_below (cell_below (cell_below j2 hq1) hq2) hq3)⟩) (fun hH2 => ?_)
   clear HKK K
   replace hHeld:=hH2
   clear hH2
   (try simp only [jA,jB,jC,Act.put,jD,jE,jF])
   refine tj 11 ?_ rfl (by kernel_rfl) (fun _ _ _ h => h) (by rfl) ?_ (by assumption) ?_
   rotate_left
   ·(intro w' hSw; (try dsimp only at hSw); go_simp; try with_reducible rfl)
   (try simp only [jA,jB,jC,Act.put,jD,jE,jF])
   refine tj 12 ?_ rfl (by kernel_rfl) (fun _ _ _ h => h) (by rfl) ?_ (by assumption) ?_
   rotate_left
   ·(intro w' hSw; (try dsimp only at hSw); go_simp; try with_reducible rfl)
   (try simp only [jA,jB,jC,Act.put,jD,jE,jF])
   refine wpAnyH_done (by kernel_rfl) ?_ _
   have HBF:=Lib.hid (HB_yw3.out)
   clear hHeld
   go_wp2_with fail
   go_ret
   exact ⟨rfl,HBF.out⟩
 ·clear HCK HFW HDE HRD HSM HLS
  go_wp2_with fail
  refine (haw.out _).mono ?_
  rintro e wl ⟨rfl,hbl⟩
  go_wp2_with fail
  go_ret
  exact ⟨rfl,HX1.out.bel.trans (hbl.mono HX1.out.bel.size)⟩
end Go.Proofs.YtnppngaabfhkpaaGreat
