/-
  The walks of layer 42 (plan), part 2: Check of the program and of the reference.
-/
import Derived.Test.YtnppngaabfhkpaaGreatEPM
import Derived.Test.YtnppngaabfhkpaaGreatEB1
import Derived.Test.YtnppngaabfhkpaaGreatEBR1
import Derived.Test.YtnppngaabfhkpaaGreatETR1
import Derived.Test.YtnppngaabfhkpaaGreatEL20
namespace Go.Proofs.YtnppngaabfhkpaaGreat
open Go.RowKit
attribute [local go_sem ↓] Go.wp_at_zero Go.wp_at_succ
set_option maxRecDepth 100000 in
set_option maxHeartbeats 64000000 in
theorem pcheck_any (x:PbM) (w:World) (hP:RPb w x) (hF:x.Fit) :
  Calls Tryz.prog 23 #[x.v] w fun e w' => e = .returned (.int .i64 x.p.chk)∧Below w.heap.size w w':=by
 have hT0:∀ W,RPb W x→Calls Tryz.prog 38 #[.agg #[.slice x.buy.A x.buy.l.length x.buy.c,.slice x.sell.A x.sell.l.length x.sell.c,.int .i64 x.fuse]] W (fun e w' => e = .returned (.int .i64 x.p.t.chk)∧Below W.heap.size W w'):=fun W h => tfcheck_any x.t x.buy.A x.sell.A x.buy.c x.sell.c W h.buy h.sell
 have hmx:=hF.max
 have hl1:x.p.t.chk=0→1 ≤ x.p.n∧x.p.n ≤ 96:=fun h => ⟨(Tf.good h).n0,(Tf.good h).n1⟩
 have hS0:x.solar.l.length < 9223372036854775807→∀ W,RPb W x→Calls Tryz.prog 39 #[.slice x.solar.A x.solar.l.length x.solar.c,.int .i64 0,.int .i64 1000] W (fun e w' => e = .returned (.bool (allB x.p.solar 0 1000))∧Below W.heap.size W w'):=fun hl W h => pwithin_any x.solar.A x.solar.c x.solar.l 0 1000 W h.solar hl
 have hD0:x.demand.l.length < 9223372036854775807→∀ W,RPb W x→Calls Tryz.prog 39 #[.slice x.demand.A x.demand.l.length x.demand.c,.int .i64 0,.int .i64 1000] W (fun e w' => e = .returned (.bool (allB x.p.demand 0 1000))∧Below W.heap.size W w'):=fun hl W h => pwithin_any x.demand.A x.demand.c x.demand.l 0 1000 W h.demand hl
 have hO0:x.outside.l.length < 9223372036854775807→∀ W,RPb W x→Calls Tryz.prog 39 #[.slice x.outside.A x.outside.l.length x.outside.c,.int .i64 (-1000),.int .i64 1000] W (fun e w' => e = .returned (.bool (allB x.p.outside (-1000) 1000))∧Below W.heap.size W w'):=fun hl W h => pwithin_any x.outside.A x.outside.c x.outside.l (-1000) 1000 W h.outside hl
 have hB0:∀ W,RPb W x→Calls Tryz.prog 40 #[.agg #[.int .i64 x.bat.cap,.int .i64 x.bat.reserve,.int .i64 x.bat.charge,.int .i64 x.bat.discharge,.int .i64 x.bat.eff]] W (fun e w' => e = .returned (.int .i64 x.p.bat.chk)∧Below W.heap.size W w'):=fun W h => check_any x.bat W
 have hR0:∀ W,RPb W x→Calls Tryz.prog 41 #[.agg #[.int .i64 x.gain,.int .i64 x.loss,.int .i64 x.steps,.int .i64 x.power,.slice x.low.A x.low.l.length x.low.c,.slice x.high.A x.high.l.length x.high.c],.int .i64 x.buy.l.length] W (fun e w' => e = .returned (.int .i64 (x.p.room.chk x.p.n))∧Below W.heap.size W w'):=fun W h => tcheck_any x.room x.low.A x.high.A x.low.c x.high.c x.buy.l.length W h.low h.high
 have hL0:∀ W,RPb W x→Calls Tryz.prog 42 #[.slice x.LA x.loads.length x.lc,.int .i64 x.buy.l.length] W (fun e w' => e = .returned (.int .i64 (allChk x.p.loads x.p.n))∧Below W.heap.size W w'):=fun W h => lall_any x.LA x.lc x.loads x.buy.l.length W h.loads hF.names hF.profs hF.lc
 have HP:=Lib.hid hP
 have hn:x.p.n=x.buy.l.length:=rfl
 have e1:x.p.solar=x.solar.l:=rfl
 have e2:x.p.demand=x.demand.l:=rfl
 have e3:x.p.outside=x.outside.l:=rfl
 simp only [PbM.v]
 by_cases q1:x.p.t.chk=0
 ·have hnb:=hl1 q1
  cases q2:x.p.lens
  ·have hfin:=Lib.hid (Pb.chk_lens q1 q2)
   have hcs:=Pb.lens_cases q2
   rw [q1] at hT0
   have hT:=Lib.hid hT0
   rw [hn,e1,e2,e3] at hcs
   rw [hn] at hnb
   clear hT0 hS0 hD0 hO0 hB0 hR0 hL0 q1 q2 hl1 hn e1 e2 e3 hP hF
   rcases hcs with g | ⟨g,g2⟩ | ⟨g,g2,g3⟩
   ·have g':((x.solar.l.length:Int) != (x.buy.l.length:Int))=true:=by rw [bne_iff_ne]; exact g
    clear g
    go_enter Tryz.func23,Tryz.ntmps23
    go_wp2_with fail
    have hbA:Below w.heap.size w (w.alloc (.cells (PbM.cs x) 31)):=(Below.refl _ _).alloc (Nat.le_refl _) _
    refine (hT.out _ (HP.out.below hbA)).mono ?_
    rintro e w1 ⟨rfl,hb1⟩
    have hb1':Below (w.alloc (.cells (PbM.cs x) 31)).heap.size (w.alloc (.cells (PbM.cs x) 31)) w1:=hb1
    obtain ⟨k1,k2,k3⟩:=one_box hb1'
    have HB1:=Lib.hid k3
    have HC1:=Lib.hid (PbC.of_blk k1)
    obtain ⟨u0,u1,u2,u3,u4,u5,u6,u7,u8,u9,u10,u11,u12,u13,u14,u15,u16,u17,u18,u19⟩:=HC1.out
    clear hb1 hb1' hbA k1 k3
    go_wp2_with fail
    go_ret
    exact ⟨ret_int hfin.out.symm,HB1.out⟩
   ·have g':((x.solar.l.length:Int) != (x.buy.l.length:Int))=false:=by rw [bne_eq_false_iff_eq]; exact g
    have g2':((x.demand.l.length:Int) != (x.buy.l.length:Int))=true:=by rw [bne_iff_ne]; exact g2
    clear g g2
    go_enter Tryz.func23,Tryz.ntmps23
    go_wp2_with fail
    have hbA:Below w.heap.size w (w.alloc (.cells (PbM.cs x) 31)):=(Below.refl _ _).alloc (Nat.le_refl _) _
    refine (hT.out _ (HP.out.below hbA)).mono ?_
    rintro e w1 ⟨rfl,hb1⟩
    have hb1':Below (w.alloc (.cells (PbM.cs x) 31)).heap.size (w.alloc (.cells (PbM.cs x) 31)) w1:=hb1
    obtain ⟨k1,k2,k3⟩:=one_box hb1'
    have HB1:=Lib.hid k3
    have HC1:=Lib.hid (PbC.of_blk k1)
    obtain ⟨u0,u1,u2,u3,u4,u5,u6,u7,u8,u9,u10,u11,u12,u13,u14,u15,u16,u17,u18,u19⟩:=HC1.out
    clear hb1 hb1' hbA k1 k3
    go_wp2_with fail
    go_ret
    exact ⟨ret_int hfin.out.symm,HB1.out⟩
   ·have g':((x.solar.l.length:Int) != (x.buy.l.length:Int))=false:=by rw [bne_eq_false_iff_eq]; exact g
    have g2':((x.demand.l.length:Int) != (x.buy.l.length:Int))=false:=by rw [bne_eq_false_iff_eq]; exact g2
    have g3':((x.outside.l.length:Int) != (x.buy.l.length:Int))=true:=by rw [bne_iff_ne]; exact g3
    clear g g2 g3
    go_enter Tryz.func23,Tryz.ntmps23
    go_wp2_with fail
    have hbA:Below w.heap.size w (w.alloc (.cells (PbM.cs x) 31)):=(Below.refl _ _).alloc (Nat.le_refl _) _
    refine (hT.out _ (HP.out.below hbA)).mono ?_
    rintro e w1 ⟨rfl,hb1⟩
    have hb1':Below (w.alloc (.cells (PbM.cs x) 31)).heap.size (w.alloc (.cells (PbM.cs x) 31)) w1:=hb1
    obtain ⟨k1,k2,k3⟩:=one_box hb1'
    have HB1:=Lib.hid k3
    have HC1:=Lib.hid (PbC.of_blk k1)
    obtain ⟨u0,u1,u2,u3,u4,u5,u6,u7,u8,u9,u10,u11,u12,u13,u14,u15,u16,u17,u18,u19⟩:=HC1.out
    clear hb1 hb1' hbA k1 k3
    go_wp2_with fail
    go_ret
    exact ⟨ret_int hfin.out.symm,HB1.out⟩
  ·obtain ⟨g,g2,g3⟩:=Pb.lens_yes q2
   rw [hn,e1] at g
   rw [hn,e2] at g2
   rw [hn,e3] at g3
   have hS1:=hS0 (by omega)
   have hD1:=hD0 (by omega)
   have hO1:=hO0 (by omega)
   have g':((x.solar.l.length:Int) != (x.buy.l.length:Int))=false:=by rw [bne_eq_false_iff_eq]; exact g
   have g2':((x.demand.l.length:Int) != (x.buy.l.length:Int))=false:=by rw [bne_eq_false_iff_eq]; exact g2
   have g3':((x.outside.l.length:Int) != (x.buy.l.length:Int))=false:=by rw [bne_eq_false_iff_eq]; exact g3
   have hT1:=hT0
   rw [q1] at hT1
   have hT:=Lib.hid hT1
   clear hT0 hT1 hS0 hD0 hO0 g g2 g3 hl1 hF
   cases q3:x.p.nums
   ·have hfin:=Lib.hid (Pb.chk_nums q1 q2 q3)
    have hcs:=Pb.nums_cases q3
    clear q1 q2 q3 hB0 hR0 hL0 hP
    rcases hcs with e | ⟨e,e'⟩ | ⟨e,e',e''⟩
    ·rw [e] at hS1
     have hS:=Lib.hid hS1
     clear hS1 hD1 hO1 e hn e1 e2 e3
     go_enter Tryz.func23,Tryz.ntmps23
     go_wp2_with fail
     have hbA:Below w.heap.size w (w.alloc (.cells (PbM.cs x) 31)):=(Below.refl _ _).alloc (Nat.le_refl _) _
     refine (hT.out _ (HP.out.below hbA)).mono ?_
     rintro e w1 ⟨rfl,hb1⟩
     have hb1':Below (w.alloc (.cells (PbM.cs x) 31)).heap.size (w.alloc (.cells (PbM.cs x) 31)) w1:=hb1
     obtain ⟨k1,k2,k3⟩:=one_box hb1'
     have HB1:=Lib.hid k3
     have HC1:=Lib.hid (PbC.of_blk k1)
     obtain ⟨u0,u1,u2,u3,u4,u5,u6,u7,u8,u9,u10,u11,u12,u13,u14,u15,u16,u17,u18,u19⟩:=HC1.out
     clear hb1 hb1' hbA k1 k3
     go_wp2_with fail
     refine (hS.out _ (HP.out.below HB1.out)).mono ?_
     rintro e w2 ⟨rfl,hb2⟩
     have HB2:=Lib.hid (HB1.out.trans (hb2.mono HB1.out.size))
     have HC2:=Lib.hid (HC1.out.below hb2)
     clear u0 u1 u2 u3 u4 u5 u6 u7 u8 u9 u10 u11 u12 u13 u14 u15 u16 u17 u18 u19 hb2
     obtain ⟨u0,u1,u2,u3,u4,u5,u6,u7,u8,u9,u10,u11,u12,u13,u14,u15,u16,u17,u18,u19⟩:=HC2.out
     go_wp2_with fail
     go_ret
     exact ⟨ret_int hfin.out.symm,HB2.out⟩
    ·rw [e] at hS1
     rw [e'] at hD1
     have hS:=Lib.hid hS1
     have hD:=Lib.hid hD1
     clear hS1 hD1 hO1 e e' hn e1 e2 e3
     go_enter Tryz.func23,Tryz.ntmps23
     go_wp2_with fail
     have hbA:Below w.heap.size w (w.alloc (.cells (PbM.cs x) 31)):=(Below.refl _ _).alloc (Nat.le_refl _) _
     refine (hT.out _ (HP.out.below hbA)).mono ?_
     rintro e w1 ⟨rfl,hb1⟩
     have hb1':Below (w.alloc (.cells (PbM.cs x) 31)).heap.size (w.alloc (.cells (PbM.cs x) 31)) w1:=hb1
     obtain ⟨k1,k2,k3⟩:=one_box hb1'
     have HB1:=Lib.hid k3
     have HC1:=Lib.hid (PbC.of_blk k1)
     obtain ⟨u0,u1,u2,u3,u4,u5,u6,u7,u8,u9,u10,u11,u12,u13,u14,u15,u16,u17,u18,u19⟩:=HC1.out
     clear hb1 hb1' hbA k1 k3
     go_wp2_with fail
     refine (hS.out _ (HP.out.below HB1.out)).mono ?_
     rintro e w2 ⟨rfl,hb2⟩
     have HB2:=Lib.hid (HB1.out.trans (hb2.mono HB1.out.size))
     have HC2:=Lib.hid (HC1.out.below hb2)
     clear u0 u1 u2 u3 u4 u5 u6 u7 u8 u9 u10 u11 u12 u13 u14 u15 u16 u17 u18 u19 hb2
     obtain ⟨u0,u1,u2,u3,u4,u5,u6,u7,u8,u9,u10,u11,u12,u13,u14,u15,u16,u17,u18,u19⟩:=HC2.out
     go_wp2_with fail
     refine (hD.out _ (HP.out.below HB2.out)).mono ?_
     rintro e w3 ⟨rfl,hb3⟩
     have HB3:=Lib.hid (HB2.out.trans (hb3.mono HB2.out.size))
     have HC3:=Lib.hid (HC2.out.below hb3)
     clear u0 u1 u2 u3 u4 u5 u6 u7 u8 u9 u10 u11 u12 u13 u14 u15 u16 u17 u18 u19 hb3
     obtain ⟨u0,u1,u2,u3,u4,u5,u6,u7,u8,u9,u10,u11,u12,u13,u14,u15,u16,u17,u18,u19⟩:=HC3.out
     go_wp2_with fail
     go_ret
     exact ⟨ret_int hfin.out.symm,HB3.out⟩
    ·rw [e] at hS1
     rw [e'] at hD1
     rw [e''] at hO1
     have hS:=Lib.hid hS1
     have hD:=Lib.hid hD1
     have hO:=Lib.hid hO1
     clear hS1 hD1 hO1 e e' e'' hn e1 e2 e3
     go_enter Tryz.func23,Tryz.ntmps23
     go_wp2_with fail
     have hbA:Below w.heap.size w (w.alloc (.cells (PbM.cs x) 31)):=(Below.refl _ _).alloc (Nat.le_refl _) _
     refine (hT.out _ (HP.out.below hbA)).mono ?_
     rintro e w1 ⟨rfl,hb1⟩
     have hb1':Below (w.alloc (.cells (PbM.cs x) 31)).heap.size (w.alloc (.cells (PbM.cs x) 31)) w1:=hb1
     obtain ⟨k1,k2,k3⟩:=one_box hb1'
     have HB1:=Lib.hid k3
     have HC1:=Lib.hid (PbC.of_blk k1)
     obtain ⟨u0,u1,u2,u3,u4,u5,u6,u7,u8,u9,u10,u11,u12,u13,u14,u15,u16,u17,u18,u19⟩:=HC1.out
     clear hb1 hb1' hbA k1 k3
     go_wp2_with fail
     refine (hS.out _ (HP.out.below HB1.out)).mono ?_
     rintro e w2 ⟨rfl,hb2⟩
     have HB2:=Lib.hid (HB1.out.trans (hb2.mono HB1.out.size))
     have HC2:=Lib.hid (HC1.out.below hb2)
     clear u0 u1 u2 u3 u4 u5 u6 u7 u8 u9 u10 u11 u12 u13 u14 u15 u16 u17 u18 u19 hb2
     obtain ⟨u0,u1,u2,u3,u4,u5,u6,u7,u8,u9,u10,u11,u12,u13,u14,u15,u16,u17,u18,u19⟩:=HC2.out
     go_wp2_with fail
     refine (hD.out _ (HP.out.below HB2.out)).mono ?_
     rintro e w3 ⟨rfl,hb3⟩
     have HB3:=Lib.hid (HB2.out.trans (hb3.mono HB2.out.size))
     have HC3:=Lib.hid (HC2.out.below hb3)
     clear u0 u1 u2 u3 u4 u5 u6 u7 u8 u9 u10 u11 u12 u13 u14 u15 u16 u17 u18 u19 hb3
     obtain ⟨u0,u1,u2,u3,u4,u5,u6,u7,u8,u9,u10,u11,u12,u13,u14,u15,u16,u17,u18,u19⟩:=HC3.out
     go_wp2_with fail
     refine (hO.out _ (HP.out.below HB3.out)).mono ?_
     rintro e w4 ⟨rfl,hb4⟩
     have HB4:=Lib.hid (HB3.out.trans (hb4.mono HB3.out.size))
     have HC4:=Lib.hid (HC3.out.below hb4)
     clear u0 u1 u2 u3 u4 u5 u6 u7 u8 u9 u10 u11 u12 u13 u14 u15 u16 u17 u18 u19 hb4
     obtain ⟨u0,u1,u2,u3,u4,u5,u6,u7,u8,u9,u10,u11,u12,u13,u14,u15,u16,u17,u18,u19⟩:=HC4.out
     go_wp2_with fail
     go_ret
     exact ⟨ret_int hfin.out.symm,HB4.out⟩
   ·obtain ⟨e,e',e''⟩:=Pb.nums_yes q3
    rw [e] at hS1
    rw [e'] at hD1
    rw [e''] at hO1
    have hS:=Lib.hid hS1
    have hD:=Lib.hid hD1
    have hO:=Lib.hid hO1
    clear hS1 hD1 hO1 e e' e'' e1 e2 e3 hP
    by_cases q4:x.p.bat.chk=0
    ·rw [q4] at hB0
     have hB:=Lib.hid hB0
     clear hB0
     by_cases q5:x.p.room.chk x.p.n=0
     ·rw [q5] at hR0
      have hR:=Lib.hid hR0
      clear hR0
      by_cases q6:allChk x.p.loads x.p.n=0
      ·rw [q6] at hL0
       have hL:=Lib.hid hL0
       clear hL0
       have hcs:=Pb.first_cases x.p
       have hff:=Lib.hid (fun h => Pb.chk_first q1 q2 q3 q4 q5 q6 h)
       have hft:=Lib.hid (fun h => Pb.chk_ok q1 q2 q3 q4 q5 q6 h)
       clear q1 q2 q3 q4 q5 q6 hn
       have hcs:(x.level < 0∧x.p.first=false) ∨ (¬ x.level < 0∧x.bat.cap < x.level∧x.p.first=false) ∨ (¬ x.level < 0∧¬ x.bat.cap < x.level∧x.temp < -1000∧x.p.first=false) ∨
        (¬ x.level < 0∧¬ x.bat.cap < x.level∧¬ x.temp < -1000∧2000 < x.temp∧x.p.first=false) ∨ (¬ x.level < 0∧¬ x.bat.cap < x.level∧¬ x.temp < -1000∧¬ 2000 < x.temp∧x.p.first=true):=hcs
       rcases hcs with ⟨g1,e⟩ | ⟨g1,g2,e⟩ | ⟨g1,g2,g3,e⟩ | ⟨g1,g2,g3,g4,e⟩ | ⟨g1,g2,g3,g4,e⟩
       ·have hfin:=Lib.hid (hff.out e)
        clear e hff hft
        go_enter Tryz.func23,Tryz.ntmps23
        go_wp2_with fail
        have hbA:Below w.heap.size w (w.alloc (.cells (PbM.cs x) 31)):=(Below.refl _ _).alloc (Nat.le_refl _) _
        refine (hT.out _ (HP.out.below hbA)).mono ?_
        rintro e w1 ⟨rfl,hb1⟩
        have hb1':Below (w.alloc (.cells (PbM.cs x) 31)).heap.size (w.alloc (.cells (PbM.cs x) 31)) w1:=hb1
        obtain ⟨k1,k2,k3⟩:=one_box hb1'
        have HB1:=Lib.hid k3
        have HC1:=Lib.hid (PbC.of_blk k1)
        obtain ⟨u0,u1,u2,u3,u4,u5,u6,u7,u8,u9,u10,u11,u12,u13,u14,u15,u16,u17,u18,u19⟩:=HC1.out
        clear hb1 hb1' hbA k1 k3
        go_wp2_with fail
        refine (hS.out _ (HP.out.below HB1.out)).mono ?_
        rintro e w2 ⟨rfl,hb2⟩
        have HB2:=Lib.hid (HB1.out.trans (hb2.mono HB1.out.size))
        have HC2:=Lib.hid (HC1.out.below hb2)
        clear u0 u1 u2 u3 u4 u5 u6 u7 u8 u9 u10 u11 u12 u13 u14 u15 u16 u17 u18 u19 hb2
        obtain ⟨u0,u1,u2,u3,u4,u5,u6,u7,u8,u9,u10,u11,u12,u13,u14,u15,u16,u17,u18,u19⟩:=HC2.out
        go_wp2_with fail
        refine (hD.out _ (HP.out.below HB2.out)).mono ?_
        rintro e w3 ⟨rfl,hb3⟩
        have HB3:=Lib.hid (HB2.out.trans (hb3.mono HB2.out.size))
        have HC3:=Lib.hid (HC2.out.below hb3)
        clear u0 u1 u2 u3 u4 u5 u6 u7 u8 u9 u10 u11 u12 u13 u14 u15 u16 u17 u18 u19 hb3
        obtain ⟨u0,u1,u2,u3,u4,u5,u6,u7,u8,u9,u10,u11,u12,u13,u14,u15,u16,u17,u18,u19⟩:=HC3.out
        go_wp2_with fail
        refine (hO.out _ (HP.out.below HB3.out)).mono ?_
        rintro e w4 ⟨rfl,hb4⟩
        have HB4:=Lib.hid (HB3.out.trans (hb4.mono HB3.out.size))
        have HC4:=Lib.hid (HC3.out.below hb4)
        clear u0 u1 u2 u3 u4 u5 u6 u7 u8 u9 u10 u11 u12 u13 u14 u15 u16 u17 u18 u19 hb4
        obtain ⟨u0,u1,u2,u3,u4,u5,u6,u7,u8,u9,u10,u11,u12,u13,u14,u15,u16,u17,u18,u19⟩:=HC4.out
        go_wp2_with fail
        refine (hB.out _ (HP.out.below HB4.out)).mono ?_
        rintro e w5 ⟨rfl,hb5⟩
        have HB5:=Lib.hid (HB4.out.trans (hb5.mono HB4.out.size))
        have HC5:=Lib.hid (HC4.out.below hb5)
        clear u0 u1 u2 u3 u4 u5 u6 u7 u8 u9 u10 u11 u12 u13 u14 u15 u16 u17 u18 u19 hb5
        obtain ⟨u0,u1,u2,u3,u4,u5,u6,u7,u8,u9,u10,u11,u12,u13,u14,u15,u16,u17,u18,u19⟩:=HC5.out
        go_wp2_with fail
        refine (hR.out _ (HP.out.below HB5.out)).mono ?_
        rintro e w6 ⟨rfl,hb6⟩
        have HB6:=Lib.hid (HB5.out.trans (hb6.mono HB5.out.size))
        have HC6:=Lib.hid (HC5.out.below hb6)
        clear u0 u1 u2 u3 u4 u5 u6 u7 u8 u9 u10 u11 u12 u13 u14 u15 u16 u17 u18 u19 hb6
        obtain ⟨u0,u1,u2,u3,u4,u5,u6,u7,u8,u9,u10,u11,u12,u13,u14,u15,u16,u17,u18,u19⟩:=HC6.out
        go_wp2_with fail
        refine (hL.out _ (HP.out.below HB6.out)).mono ?_
        rintro e w7 ⟨rfl,hb7⟩
        have HB7:=Lib.hid (HB6.out.trans (hb7.mono HB6.out.size))
        have HC7:=Lib.hid (HC6.out.below hb7)
        clear u0 u1 u2 u3 u4 u5 u6 u7 u8 u9 u10 u11 u12 u13 u14 u15 u16 u17 u18 u19 hb7
        obtain ⟨u0,u1,u2,u3,u4,u5,u6,u7,u8,u9,u10,u11,u12,u13,u14,u15,u16,u17,u18,u19⟩:=HC7.out
        go_wp2_with fail
        go_ret
        exact ⟨ret_int hfin.out.symm,HB7.out⟩
       ·have hfin:=Lib.hid (hff.out e)
        clear e hff hft
        go_enter Tryz.func23,Tryz.ntmps23
        go_wp2_with fail
        have hbA:Below w.heap.size w (w.alloc (.cells (PbM.cs x) 31)):=(Below.refl _ _).alloc (Nat.le_refl _) _
        refine (hT.out _ (HP.out.below hbA)).mono ?_
        rintro e w1 ⟨rfl,hb1⟩
        have hb1':Below (w.alloc (.cells (PbM.cs x) 31)).heap.size (w.alloc (.cells (PbM.cs x) 31)) w1:=hb1
        obtain ⟨k1,k2,k3⟩:=one_box hb1'
        have HB1:=Lib.hid k3
        have HC1:=Lib.hid (PbC.of_blk k1)
        obtain ⟨u0,u1,u2,u3,u4,u5,u6,u7,u8,u9,u10,u11,u12,u13,u14,u15,u16,u17,u18,u19⟩:=HC1.out
        clear hb1 hb1' hbA k1 k3
        go_wp2_with fail
        refine (hS.out _ (HP.out.below HB1.out)).mono ?_
        rintro e w2 ⟨rfl,hb2⟩
        have HB2:=Lib.hid (HB1.out.trans (hb2.mono HB1.out.size))
        have HC2:=Lib.hid (HC1.out.below hb2)
        clear u0 u1 u2 u3 u4 u5 u6 u7 u8 u9 u10 u11 u12 u13 u14 u15 u16 u17 u18 u19 hb2
        obtain ⟨u0,u1,u2,u3,u4,u5,u6,u7,u8,u9,u10,u11,u12,u13,u14,u15,u16,u17,u18,u19⟩:=HC2.out
        go_wp2_with fail
        refine (hD.out _ (HP.out.below HB2.out)).mono ?_
        rintro e w3 ⟨rfl,hb3⟩
        have HB3:=Lib.hid (HB2.out.trans (hb3.mono HB2.out.size))
        have HC3:=Lib.hid (HC2.out.below hb3)
        clear u0 u1 u2 u3 u4 u5 u6 u7 u8 u9 u10 u11 u12 u13 u14 u15 u16 u17 u18 u19 hb3
        obtain ⟨u0,u1,u2,u3,u4,u5,u6,u7,u8,u9,u10,u11,u12,u13,u14,u15,u16,u17,u18,u19⟩:=HC3.out
        go_wp2_with fail
        refine (hO.out _ (HP.out.below HB3.out)).mono ?_
        rintro e w4 ⟨rfl,hb4⟩
        have HB4:=Lib.hid (HB3.out.trans (hb4.mono HB3.out.size))
        have HC4:=Lib.hid (HC3.out.below hb4)
        clear u0 u1 u2 u3 u4 u5 u6 u7 u8 u9 u10 u11 u12 u13 u14 u15 u16 u17 u18 u19 hb4
        obtain ⟨u0,u1,u2,u3,u4,u5,u6,u7,u8,u9,u10,u11,u12,u13,u14,u15,u16,u17,u18,u19⟩:=HC4.out
        go_wp2_with fail
        refine (hB.out _ (HP.out.below HB4.out)).mono ?_
        rintro e w5 ⟨rfl,hb5⟩
        have HB5:=Lib.hid (HB4.out.trans (hb5.mono HB4.out.size))
        have HC5:=Lib.hid (HC4.out.below hb5)
        clear u0 u1 u2 u3 u4 u5 u6 u7 u8 u9 u10 u11 u12 u13 u14 u15 u16 u17 u18 u19 hb5
        obtain ⟨u0,u1,u2,u3,u4,u5,u6,u7,u8,u9,u10,u11,u12,u13,u14,u15,u16,u17,u18,u19⟩:=HC5.out
        go_wp2_with fail
        refine (hR.out _ (HP.out.below HB5.out)).mono ?_
        rintro e w6 ⟨rfl,hb6⟩
        have HB6:=Lib.hid (HB5.out.trans (hb6.mono HB5.out.size))
        have HC6:=Lib.hid (HC5.out.below hb6)
        clear u0 u1 u2 u3 u4 u5 u6 u7 u8 u9 u10 u11 u12 u13 u14 u15 u16 u17 u18 u19 hb6
        obtain ⟨u0,u1,u2,u3,u4,u5,u6,u7,u8,u9,u10,u11,u12,u13,u14,u15,u16,u17,u18,u19⟩:=HC6.out
        go_wp2_with fail
        refine (hL.out _ (HP.out.below HB6.out)).mono ?_
        rintro e w7 ⟨rfl,hb7⟩
        have HB7:=Lib.hid (HB6.out.trans (hb7.mono HB6.out.size))
        have HC7:=Lib.hid (HC6.out.below hb7)
        clear u0 u1 u2 u3 u4 u5 u6 u7 u8 u9 u10 u11 u12 u13 u14 u15 u16 u17 u18 u19 hb7
        obtain ⟨u0,u1,u2,u3,u4,u5,u6,u7,u8,u9,u10,u11,u12,u13,u14,u15,u16,u17,u18,u19⟩:=HC7.out
        go_wp2_with fail
        go_ret
        exact ⟨ret_int hfin.out.symm,HB7.out⟩
       ·have hfin:=Lib.hid (hff.out e)
        clear e hff hft
        go_enter Tryz.func23,Tryz.ntmps23
        go_wp2_with fail
        have hbA:Below w.heap.size w (w.alloc (.cells (PbM.cs x) 31)):=(Below.refl _ _).alloc (Nat.le_refl _) _
        refine (hT.out _ (HP.out.below hbA)).mono ?_
        rintro e w1 ⟨rfl,hb1⟩
        have hb1':Below (w.alloc (.cells (PbM.cs x) 31)).heap.size (w.alloc (.cells (PbM.cs x) 31)) w1:=hb1
        obtain ⟨k1,k2,k3⟩:=one_box hb1'
        have HB1:=Lib.hid k3
        have HC1:=Lib.hid (PbC.of_blk k1)
        obtain ⟨u0,u1,u2,u3,u4,u5,u6,u7,u8,u9,u10,u11,u12,u13,u14,u15,u16,u17,u18,u19⟩:=HC1.out
        clear hb1 hb1' hbA k1 k3
        go_wp2_with fail
        refine (hS.out _ (HP.out.below HB1.out)).mono ?_
        rintro e w2 ⟨rfl,hb2⟩
        have HB2:=Lib.hid (HB1.out.trans (hb2.mono HB1.out.size))
        have HC2:=Lib.hid (HC1.out.below hb2)
        clear u0 u1 u2 u3 u4 u5 u6 u7 u8 u9 u10 u11 u12 u13 u14 u15 u16 u17 u18 u19 hb2
        obtain ⟨u0,u1,u2,u3,u4,u5,u6,u7,u8,u9,u10,u11,u12,u13,u14,u15,u16,u17,u18,u19⟩:=HC2.out
        go_wp2_with fail
        refine (hD.out _ (HP.out.below HB2.out)).mono ?_
        rintro e w3 ⟨rfl,hb3⟩
        have HB3:=Lib.hid (HB2.out.trans (hb3.mono HB2.out.size))
        have HC3:=Lib.hid (HC2.out.below hb3)
        clear u0 u1 u2 u3 u4 u5 u6 u7 u8 u9 u10 u11 u12 u13 u14 u15 u16 u17 u18 u19 hb3
        obtain ⟨u0,u1,u2,u3,u4,u5,u6,u7,u8,u9,u10,u11,u12,u13,u14,u15,u16,u17,u18,u19⟩:=HC3.out
        go_wp2_with fail
        refine (hO.out _ (HP.out.below HB3.out)).mono ?_
        rintro e w4 ⟨rfl,hb4⟩
        have HB4:=Lib.hid (HB3.out.trans (hb4.mono HB3.out.size))
        have HC4:=Lib.hid (HC3.out.below hb4)
        clear u0 u1 u2 u3 u4 u5 u6 u7 u8 u9 u10 u11 u12 u13 u14 u15 u16 u17 u18 u19 hb4
        obtain ⟨u0,u1,u2,u3,u4,u5,u6,u7,u8,u9,u10,u11,u12,u13,u14,u15,u16,u17,u18,u19⟩:=HC4.out
        go_wp2_with fail
        refine (hB.out _ (HP.out.below HB4.out)).mono ?_
        rintro e w5 ⟨rfl,hb5⟩
        have HB5:=Lib.hid (HB4.out.trans (hb5.mono HB4.out.size))
        have HC5:=Lib.hid (HC4.out.below hb5)
        clear u0 u1 u2 u3 u4 u5 u6 u7 u8 u9 u10 u11 u12 u13 u14 u15 u16 u17 u18 u19 hb5
        obtain ⟨u0,u1,u2,u3,u4,u5,u6,u7,u8,u9,u10,u11,u12,u13,u14,u15,u16,u17,u18,u19⟩:=HC5.out
        go_wp2_with fail
        refine (hR.out _ (HP.out.below HB5.out)).mono ?_
        rintro e w6 ⟨rfl,hb6⟩
        have HB6:=Lib.hid (HB5.out.trans (hb6.mono HB5.out.size))
        have HC6:=Lib.hid (HC5.out.below hb6)
        clear u0 u1 u2 u3 u4 u5 u6 u7 u8 u9 u10 u11 u12 u13 u14 u15 u16 u17 u18 u19 hb6
        obtain ⟨u0,u1,u2,u3,u4,u5,u6,u7,u8,u9,u10,u11,u12,u13,u14,u15,u16,u17,u18,u19⟩:=HC6.out
        go_wp2_with fail
        refine (hL.out _ (HP.out.below HB6.out)).mono ?_
        rintro e w7 ⟨rfl,hb7⟩
        have HB7:=Lib.hid (HB6.out.trans (hb7.mono HB6.out.size))
        have HC7:=Lib.hid (HC6.out.below hb7)
        clear u0 u1 u2 u3 u4 u5 u6 u7 u8 u9 u10 u11 u12 u13 u14 u15 u16 u17 u18 u19 hb7
        obtain ⟨u0,u1,u2,u3,u4,u5,u6,u7,u8,u9,u10,u11,u12,u13,u14,u15,u16,u17,u18,u19⟩:=HC7.out
        go_wp2_with fail
        go_ret
        exact ⟨ret_int hfin.out.symm,HB7.out⟩
       ·have hfin:=Lib.hid (hff.out e)
        clear e hff hft
        go_enter Tryz.func23,Tryz.ntmps23
        go_wp2_with fail
        have hbA:Below w.heap.size w (w.alloc (.cells (PbM.cs x) 31)):=(Below.refl _ _).alloc (Nat.le_refl _) _
        refine (hT.out _ (HP.out.below hbA)).mono ?_
        rintro e w1 ⟨rfl,hb1⟩
        have hb1':Below (w.alloc (.cells (PbM.cs x) 31)).heap.size (w.alloc (.cells (PbM.cs x) 31)) w1:=hb1
        obtain ⟨k1,k2,k3⟩:=one_box hb1'
        have HB1:=Lib.hid k3
        have HC1:=Lib.hid (PbC.of_blk k1)
        obtain ⟨u0,u1,u2,u3,u4,u5,u6,u7,u8,u9,u10,u11,u12,u13,u14,u15,u16,u17,u18,u19⟩:=HC1.out
        clear hb1 hb1' hbA k1 k3
        go_wp2_with fail
        refine (hS.out _ (HP.out.below HB1.out)).mono ?_
        rintro e w2 ⟨rfl,hb2⟩
        have HB2:=Lib.hid (HB1.out.trans (hb2.mono HB1.out.size))
        have HC2:=Lib.hid (HC1.out.below hb2)
        clear u0 u1 u2 u3 u4 u5 u6 u7 u8 u9 u10 u11 u12 u13 u14 u15 u16 u17 u18 u19 hb2
        obtain ⟨u0,u1,u2,u3,u4,u5,u6,u7,u8,u9,u10,u11,u12,u13,u14,u15,u16,u17,u18,u19⟩:=HC2.out
        go_wp2_with fail
        refine (hD.out _ (HP.out.below HB2.out)).mono ?_
        rintro e w3 ⟨rfl,hb3⟩
        have HB3:=Lib.hid (HB2.out.trans (hb3.mono HB2.out.size))
        have HC3:=Lib.hid (HC2.out.below hb3)
        clear u0 u1 u2 u3 u4 u5 u6 u7 u8 u9 u10 u11 u12 u13 u14 u15 u16 u17 u18 u19 hb3
        obtain ⟨u0,u1,u2,u3,u4,u5,u6,u7,u8,u9,u10,u11,u12,u13,u14,u15,u16,u17,u18,u19⟩:=HC3.out
        go_wp2_with fail
        refine (hO.out _ (HP.out.below HB3.out)).mono ?_
        rintro e w4 ⟨rfl,hb4⟩
        have HB4:=Lib.hid (HB3.out.trans (hb4.mono HB3.out.size))
        have HC4:=Lib.hid (HC3.out.below hb4)
        clear u0 u1 u2 u3 u4 u5 u6 u7 u8 u9 u10 u11 u12 u13 u14 u15 u16 u17 u18 u19 hb4
        obtain ⟨u0,u1,u2,u3,u4,u5,u6,u7,u8,u9,u10,u11,u12,u13,u14,u15,u16,u17,u18,u19⟩:=HC4.out
        go_wp2_with fail
        refine (hB.out _ (HP.out.below HB4.out)).mono ?_
        rintro e w5 ⟨rfl,hb5⟩
        have HB5:=Lib.hid (HB4.out.trans (hb5.mono HB4.out.size))
        have HC5:=Lib.hid (HC4.out.below hb5)
        clear u0 u1 u2 u3 u4 u5 u6 u7 u8 u9 u10 u11 u12 u13 u14 u15 u16 u17 u18 u19 hb5
        obtain ⟨u0,u1,u2,u3,u4,u5,u6,u7,u8,u9,u10,u11,u12,u13,u14,u15,u16,u17,u18,u19⟩:=HC5.out
        go_wp2_with fail
        refine (hR.out _ (HP.out.below HB5.out)).mono ?_
        rintro e w6 ⟨rfl,hb6⟩
        have HB6:=Lib.hid (HB5.out.trans (hb6.mono HB5.out.size))
        have HC6:=Lib.hid (HC5.out.below hb6)
        clear u0 u1 u2 u3 u4 u5 u6 u7 u8 u9 u10 u11 u12 u13 u14 u15 u16 u17 u18 u19 hb6
        obtain ⟨u0,u1,u2,u3,u4,u5,u6,u7,u8,u9,u10,u11,u12,u13,u14,u15,u16,u17,u18,u19⟩:=HC6.out
        go_wp2_with fail
        refine (hL.out _ (HP.out.below HB6.out)).mono ?_
        rintro e w7 ⟨rfl,hb7⟩
        have HB7:=Lib.hid (HB6.out.trans (hb7.mono HB6.out.size))
        have HC7:=Lib.hid (HC6.out.below hb7)
        clear u0 u1 u2 u3 u4 u5 u6 u7 u8 u9 u10 u11 u12 u13 u14 u15 u16 u17 u18 u19 hb7
        obtain ⟨u0,u1,u2,u3,u4,u5,u6,u7,u8,u9,u10,u11,u12,u13,u14,u15,u16,u17,u18,u19⟩:=HC7.out
        go_wp2_with fail
        go_ret
        exact ⟨ret_int hfin.out.symm,HB7.out⟩
       ·have hfin:=Lib.hid (hft.out e)
        clear e hff hft
        go_enter Tryz.func23,Tryz.ntmps23
        go_wp2_with fail
        have hbA:Below w.heap.size w (w.alloc (.cells (PbM.cs x) 31)):=(Below.refl _ _).alloc (Nat.le_refl _) _
        refine (hT.out _ (HP.out.below hbA)).mono ?_
        rintro e w1 ⟨rfl,hb1⟩
        have hb1':Below (w.alloc (.cells (PbM.cs x) 31)).heap.size (w.alloc (.cells (PbM.cs x) 31)) w1:=hb1
        obtain ⟨k1,k2,k3⟩:=one_box hb1'
        have HB1:=Lib.hid k3
        have HC1:=Lib.hid (PbC.of_blk k1)
        obtain ⟨u0,u1,u2,u3,u4,u5,u6,u7,u8,u9,u10,u11,u12,u13,u14,u15,u16,u17,u18,u19⟩:=HC1.out
        clear hb1 hb1' hbA k1 k3
        go_wp2_with fail
        refine (hS.out _ (HP.out.below HB1.out)).mono ?_
        rintro e w2 ⟨rfl,hb2⟩
        have HB2:=Lib.hid (HB1.out.trans (hb2.mono HB1.out.size))
        have HC2:=Lib.hid (HC1.out.below hb2)
        clear u0 u1 u2 u3 u4 u5 u6 u7 u8 u9 u10 u11 u12 u13 u14 u15 u16 u17 u18 u19 hb2
        obtain ⟨u0,u1,u2,u3,u4,u5,u6,u7,u8,u9,u10,u11,u12,u13,u14,u15,u16,u17,u18,u19⟩:=HC2.out
        go_wp2_with fail
        refine (hD.out _ (HP.out.below HB2.out)).mono ?_
        rintro e w3 ⟨rfl,hb3⟩
        have HB3:=Lib.hid (HB2.out.trans (hb3.mono HB2.out.size))
        have HC3:=Lib.hid (HC2.out.below hb3)
        clear u0 u1 u2 u3 u4 u5 u6 u7 u8 u9 u10 u11 u12 u13 u14 u15 u16 u17 u18 u19 hb3
        obtain ⟨u0,u1,u2,u3,u4,u5,u6,u7,u8,u9,u10,u11,u12,u13,u14,u15,u16,u17,u18,u19⟩:=HC3.out
        go_wp2_with fail
        refine (hO.out _ (HP.out.below HB3.out)).mono ?_
        rintro e w4 ⟨rfl,hb4⟩
        have HB4:=Lib.hid (HB3.out.trans (hb4.mono HB3.out.size))
        have HC4:=Lib.hid (HC3.out.below hb4)
        clear u0 u1 u2 u3 u4 u5 u6 u7 u8 u9 u10 u11 u12 u13 u14 u15 u16 u17 u18 u19 hb4
        obtain ⟨u0,u1,u2,u3,u4,u5,u6,u7,u8,u9,u10,u11,u12,u13,u14,u15,u16,u17,u18,u19⟩:=HC4.out
        go_wp2_with fail
        refine (hB.out _ (HP.out.below HB4.out)).mono ?_
        rintro e w5 ⟨rfl,hb5⟩
        have HB5:=Lib.hid (HB4.out.trans (hb5.mono HB4.out.size))
        have HC5:=Lib.hid (HC4.out.below hb5)
        clear u0 u1 u2 u3 u4 u5 u6 u7 u8 u9 u10 u11 u12 u13 u14 u15 u16 u17 u18 u19 hb5
        obtain ⟨u0,u1,u2,u3,u4,u5,u6,u7,u8,u9,u10,u11,u12,u13,u14,u15,u16,u17,u18,u19⟩:=HC5.out
        go_wp2_with fail
        refine (hR.out _ (HP.out.below HB5.out)).mono ?_
        rintro e w6 ⟨rfl,hb6⟩
        have HB6:=Lib.hid (HB5.out.trans (hb6.mono HB5.out.size))
        have HC6:=Lib.hid (HC5.out.below hb6)
        clear u0 u1 u2 u3 u4 u5 u6 u7 u8 u9 u10 u11 u12 u13 u14 u15 u16 u17 u18 u19 hb6
        obtain ⟨u0,u1,u2,u3,u4,u5,u6,u7,u8,u9,u10,u11,u12,u13,u14,u15,u16,u17,u18,u19⟩:=HC6.out
        go_wp2_with fail
        refine (hL.out _ (HP.out.below HB6.out)).mono ?_
        rintro e w7 ⟨rfl,hb7⟩
        have HB7:=Lib.hid (HB6.out.trans (hb7.mono HB6.out.size))
        have HC7:=Lib.hid (HC6.out.below hb7)
        clear u0 u1 u2 u3 u4 u5 u6 u7 u8 u9 u10 u11 u12 u13 u14 u15 u16 u17 u18 u19 hb7
        obtain ⟨u0,u1,u2,u3,u4,u5,u6,u7,u8,u9,u10,u11,u12,u13,u14,u15,u16,u17,u18,u19⟩:=HC7.out
        go_wp2_with fail
        go_ret
        exact ⟨ret_int hfin.out.symm,HB7.out⟩
      ·have hfin:=Lib.hid (Pb.chk_loads q1 q2 q3 q4 q5 q6)
       have hL:=Lib.hid hL0
       have hne:(allChk x.p.loads x.p.n != 0)=true:=by simpa using q6
       clear hL0 q1 q2 q3 q4 q5 q6 hn
       generalize allChk x.p.loads x.p.n=ck at *
       go_enter Tryz.func23,Tryz.ntmps23
       go_wp2_with fail
       have hbA:Below w.heap.size w (w.alloc (.cells (PbM.cs x) 31)):=(Below.refl _ _).alloc (Nat.le_refl _) _
       refine (hT.out _ (HP.out.below hbA)).mono ?_
       rintro e w1 ⟨rfl,hb1⟩
       have hb1':Below (w.alloc (.cells (PbM.cs x) 31)).heap.size (w.alloc (.cells (PbM.cs x) 31)) w1:=hb1
       obtain ⟨k1,k2,k3⟩:=one_box hb1'
       have HB1:=Lib.hid k3
       have HC1:=Lib.hid (PbC.of_blk k1)
       obtain ⟨u0,u1,u2,u3,u4,u5,u6,u7,u8,u9,u10,u11,u12,u13,u14,u15,u16,u17,u18,u19⟩:=HC1.out
       clear hb1 hb1' hbA k1 k3
       go_wp2_with fail
       refine (hS.out _ (HP.out.below HB1.out)).mono ?_
       rintro e w2 ⟨rfl,hb2⟩
       have HB2:=Lib.hid (HB1.out.trans (hb2.mono HB1.out.size))
       have HC2:=Lib.hid (HC1.out.below hb2)
       clear u0 u1 u2 u3 u4 u5 u6 u7 u8 u9 u10 u11 u12 u13 u14 u15 u16 u17 u18 u19 hb2
       obtain ⟨u0,u1,u2,u3,u4,u5,u6,u7,u8,u9,u10,u11,u12,u13,u14,u15,u16,u17,u18,u19⟩:=HC2.out
       go_wp2_with fail
       refine (hD.out _ (HP.out.below HB2.out)).mono ?_
       rintro e w3 ⟨rfl,hb3⟩
       have HB3:=Lib.hid (HB2.out.trans (hb3.mono HB2.out.size))
       have HC3:=Lib.hid (HC2.out.below hb3)
       clear u0 u1 u2 u3 u4 u5 u6 u7 u8 u9 u10 u11 u12 u13 u14 u15 u16 u17 u18 u19 hb3
       obtain ⟨u0,u1,u2,u3,u4,u5,u6,u7,u8,u9,u10,u11,u12,u13,u14,u15,u16,u17,u18,u19⟩:=HC3.out
       go_wp2_with fail
       refine (hO.out _ (HP.out.below HB3.out)).mono ?_
       rintro e w4 ⟨rfl,hb4⟩
       have HB4:=Lib.hid (HB3.out.trans (hb4.mono HB3.out.size))
       have HC4:=Lib.hid (HC3.out.below hb4)
       clear u0 u1 u2 u3 u4 u5 u6 u7 u8 u9 u10 u11 u12 u13 u14 u15 u16 u17 u18 u19 hb4
       obtain ⟨u0,u1,u2,u3,u4,u5,u6,u7,u8,u9,u10,u11,u12,u13,u14,u15,u16,u17,u18,u19⟩:=HC4.out
       go_wp2_with fail
       refine (hB.out _ (HP.out.below HB4.out)).mono ?_
       rintro e w5 ⟨rfl,hb5⟩
       have HB5:=Lib.hid (HB4.out.trans (hb5.mono HB4.out.size))
       have HC5:=Lib.hid (HC4.out.below hb5)
       clear u0 u1 u2 u3 u4 u5 u6 u7 u8 u9 u10 u11 u12 u13 u14 u15 u16 u17 u18 u19 hb5
       obtain ⟨u0,u1,u2,u3,u4,u5,u6,u7,u8,u9,u10,u11,u12,u13,u14,u15,u16,u17,u18,u19⟩:=HC5.out
       go_wp2_with fail
       refine (hR.out _ (HP.out.below HB5.out)).mono ?_
       rintro e w6 ⟨rfl,hb6⟩
       have HB6:=Lib.hid (HB5.out.trans (hb6.mono HB5.out.size))
       have HC6:=Lib.hid (HC5.out.below hb6)
       clear u0 u1 u2 u3 u4 u5 u6 u7 u8 u9 u10 u11 u12 u13 u14 u15 u16 u17 u18 u19 hb6
       obtain ⟨u0,u1,u2,u3,u4,u5,u6,u7,u8,u9,u10,u11,u12,u13,u14,u15,u16,u17,u18,u19⟩:=HC6.out
       go_wp2_with fail
       refine (hL.out _ (HP.out.below HB6.out)).mono ?_
       rintro e w7 ⟨rfl,hb7⟩
       have HB7:=Lib.hid (HB6.out.trans (hb7.mono HB6.out.size))
       have HC7:=Lib.hid (HC6.out.below hb7)
       clear u0 u1 u2 u3 u4 u5 u6 u7 u8 u9 u10 u11 u12 u13 u14 u15 u16 u17 u18 u19 hb7
       obtain ⟨u0,u1,u2,u3,u4,u5,u6,u7,u8,u9,u10,u11,u12,u13,u14,u15,u16,u17,u18,u19⟩:=HC7.out
       go_wp2_with fail
       go_ret
       exact ⟨ret_int hfin.out.symm,HB7.out⟩
     ·have hfin:=Lib.hid (Pb.chk_room q1 q2 q3 q4 q5)
      have hR:=Lib.hid hR0
      have hne:(x.p.room.chk x.p.n != 0)=true:=by simpa using q5
      clear hR0 q1 q2 q3 q4 q5 hn hL0
      generalize x.p.room.chk x.p.n=ck at *
      go_enter Tryz.func23,Tryz.ntmps23
      go_wp2_with fail
      have hbA:Below w.heap.size w (w.alloc (.cells (PbM.cs x) 31)):=(Below.refl _ _).alloc (Nat.le_refl _) _
      refine (hT.out _ (HP.out.below hbA)).mono ?_
      rintro e w1 ⟨rfl,hb1⟩
      have hb1':Below (w.alloc (.cells (PbM.cs x) 31)).heap.size (w.alloc (.cells (PbM.cs x) 31)) w1:=hb1
      obtain ⟨k1,k2,k3⟩:=one_box hb1'
      have HB1:=Lib.hid k3
      have HC1:=Lib.hid (PbC.of_blk k1)
      obtain ⟨u0,u1,u2,u3,u4,u5,u6,u7,u8,u9,u10,u11,u12,u13,u14,u15,u16,u17,u18,u19⟩:=HC1.out
      clear hb1 hb1' hbA k1 k3
      go_wp2_with fail
      refine (hS.out _ (HP.out.below HB1.out)).mono ?_
      rintro e w2 ⟨rfl,hb2⟩
      have HB2:=Lib.hid (HB1.out.trans (hb2.mono HB1.out.size))
      have HC2:=Lib.hid (HC1.out.below hb2)
      clear u0 u1 u2 u3 u4 u5 u6 u7 u8 u9 u10 u11 u12 u13 u14 u15 u16 u17 u18 u19 hb2
      obtain ⟨u0,u1,u2,u3,u4,u5,u6,u7,u8,u9,u10,u11,u12,u13,u14,u15,u16,u17,u18,u19⟩:=HC2.out
      go_wp2_with fail
      refine (hD.out _ (HP.out.below HB2.out)).mono ?_
      rintro e w3 ⟨rfl,hb3⟩
      have HB3:=Lib.hid (HB2.out.trans (hb3.mono HB2.out.size))
      have HC3:=Lib.hid (HC2.out.below hb3)
      clear u0 u1 u2 u3 u4 u5 u6 u7 u8 u9 u10 u11 u12 u13 u14 u15 u16 u17 u18 u19 hb3
      obtain ⟨u0,u1,u2,u3,u4,u5,u6,u7,u8,u9,u10,u11,u12,u13,u14,u15,u16,u17,u18,u19⟩:=HC3.out
      go_wp2_with fail
      refine (hO.out _ (HP.out.below HB3.out)).mono ?_
      rintro e w4 ⟨rfl,hb4⟩
      have HB4:=Lib.hid (HB3.out.trans (hb4.mono HB3.out.size))
      have HC4:=Lib.hid (HC3.out.below hb4)
      clear u0 u1 u2 u3 u4 u5 u6 u7 u8 u9 u10 u11 u12 u13 u14 u15 u16 u17 u18 u19 hb4
      obtain ⟨u0,u1,u2,u3,u4,u5,u6,u7,u8,u9,u10,u11,u12,u13,u14,u15,u16,u17,u18,u19⟩:=HC4.out
      go_wp2_with fail
      refine (hB.out _ (HP.out.below HB4.out)).mono ?_
      rintro e w5 ⟨rfl,hb5⟩
      have HB5:=Lib.hid (HB4.out.trans (hb5.mono HB4.out.size))
      have HC5:=Lib.hid (HC4.out.below hb5)
      clear u0 u1 u2 u3 u4 u5 u6 u7 u8 u9 u10 u11 u12 u13 u14 u15 u16 u17 u18 u19 hb5
      obtain ⟨u0,u1,u2,u3,u4,u5,u6,u7,u8,u9,u10,u11,u12,u13,u14,u15,u16,u17,u18,u19⟩:=HC5.out
      go_wp2_with fail
      refine (hR.out _ (HP.out.below HB5.out)).mono ?_
      rintro e w6 ⟨rfl,hb6⟩
      have HB6:=Lib.hid (HB5.out.trans (hb6.mono HB5.out.size))
      have HC6:=Lib.hid (HC5.out.below hb6)
      clear u0 u1 u2 u3 u4 u5 u6 u7 u8 u9 u10 u11 u12 u13 u14 u15 u16 u17 u18 u19 hb6
      obtain ⟨u0,u1,u2,u3,u4,u5,u6,u7,u8,u9,u10,u11,u12,u13,u14,u15,u16,u17,u18,u19⟩:=HC6.out
      go_wp2_with fail
      go_ret
      exact ⟨ret_int hfin.out.symm,HB6.out⟩
    ·have hfin:=Lib.hid (Pb.chk_bat q1 q2 q3 q4)
     have hB:=Lib.hid hB0
     have hne:(x.p.bat.chk != 0)=true:=by simpa using q4
     clear hB0 q1 q2 q3 q4 hn hL0 hR0
     generalize x.p.bat.chk=ck at *
     go_enter Tryz.func23,Tryz.ntmps23
     go_wp2_with fail
     have hbA:Below w.heap.size w (w.alloc (.cells (PbM.cs x) 31)):=(Below.refl _ _).alloc (Nat.le_refl _) _
     refine (hT.out _ (HP.out.below hbA)).mono ?_
     rintro e w1 ⟨rfl,hb1⟩
     have hb1':Below (w.alloc (.cells (PbM.cs x) 31)).heap.size (w.alloc (.cells (PbM.cs x) 31)) w1:=hb1
     obtain ⟨k1,k2,k3⟩:=one_box hb1'
     have HB1:=Lib.hid k3
     have HC1:=Lib.hid (PbC.of_blk k1)
     obtain ⟨u0,u1,u2,u3,u4,u5,u6,u7,u8,u9,u10,u11,u12,u13,u14,u15,u16,u17,u18,u19⟩:=HC1.out
     clear hb1 hb1' hbA k1 k3
     go_wp2_with fail
     refine (hS.out _ (HP.out.below HB1.out)).mono ?_
     rintro e w2 ⟨rfl,hb2⟩
     have HB2:=Lib.hid (HB1.out.trans (hb2.mono HB1.out.size))
     have HC2:=Lib.hid (HC1.out.below hb2)
     clear u0 u1 u2 u3 u4 u5 u6 u7 u8 u9 u10 u11 u12 u13 u14 u15 u16 u17 u18 u19 hb2
     obtain ⟨u0,u1,u2,u3,u4,u5,u6,u7,u8,u9,u10,u11,u12,u13,u14,u15,u16,u17,u18,u19⟩:=HC2.out
     go_wp2_with fail
     refine (hD.out _ (HP.out.below HB2.out)).mono ?_
     rintro e w3 ⟨rfl,hb3⟩
     have HB3:=Lib.hid (HB2.out.trans (hb3.mono HB2.out.size))
     have HC3:=Lib.hid (HC2.out.below hb3)
     clear u0 u1 u2 u3 u4 u5 u6 u7 u8 u9 u10 u11 u12 u13 u14 u15 u16 u17 u18 u19 hb3
     obtain ⟨u0,u1,u2,u3,u4,u5,u6,u7,u8,u9,u10,u11,u12,u13,u14,u15,u16,u17,u18,u19⟩:=HC3.out
     go_wp2_with fail
     refine (hO.out _ (HP.out.below HB3.out)).mono ?_
     rintro e w4 ⟨rfl,hb4⟩
     have HB4:=Lib.hid (HB3.out.trans (hb4.mono HB3.out.size))
     have HC4:=Lib.hid (HC3.out.below hb4)
     clear u0 u1 u2 u3 u4 u5 u6 u7 u8 u9 u10 u11 u12 u13 u14 u15 u16 u17 u18 u19 hb4
     obtain ⟨u0,u1,u2,u3,u4,u5,u6,u7,u8,u9,u10,u11,u12,u13,u14,u15,u16,u17,u18,u19⟩:=HC4.out
     go_wp2_with fail
     refine (hB.out _ (HP.out.below HB4.out)).mono ?_
     rintro e w5 ⟨rfl,hb5⟩
     have HB5:=Lib.hid (HB4.out.trans (hb5.mono HB4.out.size))
     have HC5:=Lib.hid (HC4.out.below hb5)
     clear u0 u1 u2 u3 u4 u5 u6 u7 u8 u9 u10 u11 u12 u13 u14 u15 u16 u17 u18 u19 hb5
     obtain ⟨u0,u1,u2,u3,u4,u5,u6,u7,u8,u9,u10,u11,u12,u13,u14,u15,u16,u17,u18,u19⟩:=HC5.out
     go_wp2_with fail
     go_ret
     exact ⟨ret_int hfin.out.symm,HB5.out⟩
 ·have hfin:=Lib.hid (Pb.chk_t q1)
  have hT:=Lib.hid hT0
  have hne:(x.p.t.chk != 0)=true:=by simpa using q1
  clear hT0 q1 hn hL0 hR0 hB0 hS0 hD0 hO0 hP hF hl1 e1 e2 e3
  generalize x.p.t.chk=ck at *
  go_enter Tryz.func23,Tryz.ntmps23
  go_wp2_with fail
  have hbA:Below w.heap.size w (w.alloc (.cells (PbM.cs x) 31)):=(Below.refl _ _).alloc (Nat.le_refl _) _
  refine (hT.out _ (HP.out.below hbA)).mono ?_
  rintro e w1 ⟨rfl,hb1⟩
  have hb1':Below (w.alloc (.cells (PbM.cs x) 31)).heap.size (w.alloc (.cells (PbM.cs x) 31)) w1:=hb1
  obtain ⟨k1,k2,k3⟩:=one_box hb1'
  have HB1:=Lib.hid k3
  have HC1:=Lib.hid (PbC.of_blk k1)
  obtain ⟨u0,u1,u2,u3,u4,u5,u6,u7,u8,u9,u10,u11,u12,u13,u14,u15,u16,u17,u18,u19⟩:=HC1.out
  clear hb1 hb1' hbA k1 k3
  go_wp2_with fail
  go_ret
  exact ⟨ret_int hfin.out.symm,HB1.out⟩
set_option maxRecDepth 100000 in
set_option maxHeartbeats 64000000 in
theorem rpcheck_any (x:PbM) (w:World) (hP:RPb w x) (hF:x.Fit) :
  Calls Tryz.prog 6 #[x.v] w fun e w' => e = .returned (.int .i64 x.p.chk)∧Below w.heap.size w w':=by
 have hT0:∀ W,RPb W x→Calls Tryz.prog 16 #[.agg #[.slice x.buy.A x.buy.l.length x.buy.c,.slice x.sell.A x.sell.l.length x.sell.c,.int .i64 x.fuse]] W (fun e w' => e = .returned (.int .i64 x.p.t.chk)∧Below W.heap.size W w'):=fun W h => rtfcheck_any x.t x.buy.A x.sell.A x.buy.c x.sell.c W h.buy h.sell
 have hmx:=hF.max
 have hl1:x.p.t.chk=0→1 ≤ x.p.n∧x.p.n ≤ 96:=fun h => ⟨(Tf.good h).n0,(Tf.good h).n1⟩
 have hS0:x.solar.l.length < 9223372036854775807→∀ W,RPb W x→Calls Tryz.prog 17 #[.slice x.solar.A x.solar.l.length x.solar.c,.int .i64 0,.int .i64 1000] W (fun e w' => e = .returned (.bool (allB x.p.solar 0 1000))∧Below W.heap.size W w'):=fun hl W h => rAll_any x.solar.A x.solar.c x.solar.l 0 1000 W h.solar hl
 have hD0:x.demand.l.length < 9223372036854775807→∀ W,RPb W x→Calls Tryz.prog 17 #[.slice x.demand.A x.demand.l.length x.demand.c,.int .i64 0,.int .i64 1000] W (fun e w' => e = .returned (.bool (allB x.p.demand 0 1000))∧Below W.heap.size W w'):=fun hl W h => rAll_any x.demand.A x.demand.c x.demand.l 0 1000 W h.demand hl
 have hO0:x.outside.l.length < 9223372036854775807→∀ W,RPb W x→Calls Tryz.prog 17 #[.slice x.outside.A x.outside.l.length x.outside.c,.int .i64 (-1000),.int .i64 1000] W (fun e w' => e = .returned (.bool (allB x.p.outside (-1000) 1000))∧Below W.heap.size W w'):=fun hl W h => rAll_any x.outside.A x.outside.c x.outside.l (-1000) 1000 W h.outside hl
 have hB0:∀ W,RPb W x→Calls Tryz.prog 18 #[.agg #[.int .i64 x.bat.cap,.int .i64 x.bat.reserve,.int .i64 x.bat.charge,.int .i64 x.bat.discharge,.int .i64 x.bat.eff]] W (fun e w' => e = .returned (.int .i64 x.p.bat.chk)∧Below W.heap.size W w'):=fun W h => rcheck_any x.bat W
 have hR0:∀ W,RPb W x→Calls Tryz.prog 19 #[.agg #[.int .i64 x.gain,.int .i64 x.loss,.int .i64 x.steps,.int .i64 x.power,.slice x.low.A x.low.l.length x.low.c,.slice x.high.A x.high.l.length x.high.c],.int .i64 x.buy.l.length] W (fun e w' => e = .returned (.int .i64 (x.p.room.chk x.p.n))∧Below W.heap.size W w'):=fun W h => rtcheck_any x.room x.low.A x.high.A x.low.c x.high.c x.buy.l.length W h.low h.high
 have hL0:∀ W,RPb W x→Calls Tryz.prog 20 #[.slice x.LA x.loads.length x.lc,.int .i64 x.buy.l.length] W (fun e w' => e = .returned (.int .i64 (allChk x.p.loads x.p.n))∧Below W.heap.size W w'):=fun W h => rlall_any x.LA x.lc x.loads x.buy.l.length W h.loads hF.names
 have HP:=Lib.hid hP
 have hn:x.p.n=x.buy.l.length:=rfl
 have e1:x.p.solar=x.solar.l:=rfl
 have e2:x.p.demand=x.demand.l:=rfl
 have e3:x.p.outside=x.outside.l:=rfl
 simp only [PbM.v]
 by_cases q1:x.p.t.chk=0
 ·have hnb:=hl1 q1
  cases q2:x.p.lens
  ·have hfin:=Lib.hid (Pb.chk_lens q1 q2)
   have hcs:=Pb.lens_cases q2
   rw [q1] at hT0
   have hT:=Lib.hid hT0
   rw [hn,e1,e2,e3] at hcs
   rw [hn] at hnb
   clear hT0 hS0 hD0 hO0 hB0 hR0 hL0 q1 q2 hl1 hn e1 e2 e3 hP hF
   rcases hcs with g | ⟨g,g2⟩ | ⟨g,g2,g3⟩
   ·have g':((x.solar.l.length:Int) != (x.buy.l.length:Int))=true:=by rw [bne_iff_ne]; exact g
    clear g
    go_enter Tryz.func6,Tryz.ntmps6
    go_wp2_with fail
    have hbA:Below w.heap.size w (w.alloc (.cells (PbM.cs x) 31)):=(Below.refl _ _).alloc (Nat.le_refl _) _
    refine (hT.out _ (HP.out.below hbA)).mono ?_
    rintro e w1 ⟨rfl,hb1⟩
    have hb1':Below (w.alloc (.cells (PbM.cs x) 31)).heap.size (w.alloc (.cells (PbM.cs x) 31)) w1:=hb1
    obtain ⟨k1,k2,k3⟩:=one_box hb1'
    have HB1:=Lib.hid k3
    have HC1:=Lib.hid (PbC.of_blk k1)
    obtain ⟨u0,u1,u2,u3,u4,u5,u6,u7,u8,u9,u10,u11,u12,u13,u14,u15,u16,u17,u18,u19⟩:=HC1.out
    clear hb1 hb1' hbA k1 k3
    go_wp2_with fail
    go_ret
    exact ⟨ret_int hfin.out.symm,HB1.out⟩
   ·have g':((x.solar.l.length:Int) != (x.buy.l.length:Int))=false:=by rw [bne_eq_false_iff_eq]; exact g
    have g2':((x.demand.l.length:Int) != (x.buy.l.length:Int))=true:=by rw [bne_iff_ne]; exact g2
    clear g g2
    go_enter Tryz.func6,Tryz.ntmps6
    go_wp2_with fail
    have hbA:Below w.heap.size w (w.alloc (.cells (PbM.cs x) 31)):=(Below.refl _ _).alloc (Nat.le_refl _) _
    refine (hT.out _ (HP.out.below hbA)).mono ?_
    rintro e w1 ⟨rfl,hb1⟩
    have hb1':Below (w.alloc (.cells (PbM.cs x) 31)).heap.size (w.alloc (.cells (PbM.cs x) 31)) w1:=hb1
    obtain ⟨k1,k2,k3⟩:=one_box hb1'
    have HB1:=Lib.hid k3
    have HC1:=Lib.hid (PbC.of_blk k1)
    obtain ⟨u0,u1,u2,u3,u4,u5,u6,u7,u8,u9,u10,u11,u12,u13,u14,u15,u16,u17,u18,u19⟩:=HC1.out
    clear hb1 hb1' hbA k1 k3
    go_wp2_with fail
    go_ret
    exact ⟨ret_int hfin.out.symm,HB1.out⟩
   ·have g':((x.solar.l.length:Int) != (x.buy.l.length:Int))=false:=by rw [bne_eq_false_iff_eq]; exact g
    have g2':((x.demand.l.length:Int) != (x.buy.l.length:Int))=false:=by rw [bne_eq_false_iff_eq]; exact g2
    have g3':((x.outside.l.length:Int) != (x.buy.l.length:Int))=true:=by rw [bne_iff_ne]; exact g3
    clear g g2 g3
    go_enter Tryz.func6,Tryz.ntmps6
    go_wp2_with fail
    have hbA:Below w.heap.size w (w.alloc (.cells (PbM.cs x) 31)):=(Below.refl _ _).alloc (Nat.le_refl _) _
    refine (hT.out _ (HP.out.below hbA)).mono ?_
    rintro e w1 ⟨rfl,hb1⟩
    have hb1':Below (w.alloc (.cells (PbM.cs x) 31)).heap.size (w.alloc (.cells (PbM.cs x) 31)) w1:=hb1
    obtain ⟨k1,k2,k3⟩:=one_box hb1'
    have HB1:=Lib.hid k3
    have HC1:=Lib.hid (PbC.of_blk k1)
    obtain ⟨u0,u1,u2,u3,u4,u5,u6,u7,u8,u9,u10,u11,u12,u13,u14,u15,u16,u17,u18,u19⟩:=HC1.out
    clear hb1 hb1' hbA k1 k3
    go_wp2_with fail
    go_ret
    exact ⟨ret_int hfin.out.symm,HB1.out⟩
  ·obtain ⟨g,g2,g3⟩:=Pb.lens_yes q2
   rw [hn,e1] at g
   rw [hn,e2] at g2
   rw [hn,e3] at g3
   have hS1:=hS0 (by omega)
   have hD1:=hD0 (by omega)
   have hO1:=hO0 (by omega)
   have g':((x.solar.l.length:Int) != (x.buy.l.length:Int))=false:=by rw [bne_eq_false_iff_eq]; exact g
   have g2':((x.demand.l.length:Int) != (x.buy.l.length:Int))=false:=by rw [bne_eq_false_iff_eq]; exact g2
   have g3':((x.outside.l.length:Int) != (x.buy.l.length:Int))=false:=by rw [bne_eq_false_iff_eq]; exact g3
   have hT1:=hT0
   rw [q1] at hT1
   have hT:=Lib.hid hT1
   clear hT0 hT1 hS0 hD0 hO0 g g2 g3 hl1 hF
   cases q3:x.p.nums
   ·have hfin:=Lib.hid (Pb.chk_nums q1 q2 q3)
    have hcs:=Pb.nums_cases q3
    clear q1 q2 q3 hB0 hR0 hL0 hP
    rcases hcs with e | ⟨e,e'⟩ | ⟨e,e',e''⟩
    ·rw [e] at hS1
     have hS:=Lib.hid hS1
     clear hS1 hD1 hO1 e hn e1 e2 e3
     go_enter Tryz.func6,Tryz.ntmps6
     go_wp2_with fail
     have hbA:Below w.heap.size w (w.alloc (.cells (PbM.cs x) 31)):=(Below.refl _ _).alloc (Nat.le_refl _) _
     refine (hT.out _ (HP.out.below hbA)).mono ?_
     rintro e w1 ⟨rfl,hb1⟩
     have hb1':Below (w.alloc (.cells (PbM.cs x) 31)).heap.size (w.alloc (.cells (PbM.cs x) 31)) w1:=hb1
     obtain ⟨k1,k2,k3⟩:=one_box hb1'
     have HB1:=Lib.hid k3
     have HC1:=Lib.hid (PbC.of_blk k1)
     obtain ⟨u0,u1,u2,u3,u4,u5,u6,u7,u8,u9,u10,u11,u12,u13,u14,u15,u16,u17,u18,u19⟩:=HC1.out
     clear hb1 hb1' hbA k1 k3
     go_wp2_with fail
     refine (hS.out _ (HP.out.below HB1.out)).mono ?_
     rintro e w2 ⟨rfl,hb2⟩
     have HB2:=Lib.hid (HB1.out.trans (hb2.mono HB1.out.size))
     have HC2:=Lib.hid (HC1.out.below hb2)
     clear u0 u1 u2 u3 u4 u5 u6 u7 u8 u9 u10 u11 u12 u13 u14 u15 u16 u17 u18 u19 hb2
     obtain ⟨u0,u1,u2,u3,u4,u5,u6,u7,u8,u9,u10,u11,u12,u13,u14,u15,u16,u17,u18,u19⟩:=HC2.out
     go_wp2_with fail
     go_ret
     exact ⟨ret_int hfin.out.symm,HB2.out⟩
    ·rw [e] at hS1
     rw [e'] at hD1
     have hS:=Lib.hid hS1
     have hD:=Lib.hid hD1
     clear hS1 hD1 hO1 e e' hn e1 e2 e3
     go_enter Tryz.func6,Tryz.ntmps6
     go_wp2_with fail
     have hbA:Below w.heap.size w (w.alloc (.cells (PbM.cs x) 31)):=(Below.refl _ _).alloc (Nat.le_refl _) _
     refine (hT.out _ (HP.out.below hbA)).mono ?_
     rintro e w1 ⟨rfl,hb1⟩
     have hb1':Below (w.alloc (.cells (PbM.cs x) 31)).heap.size (w.alloc (.cells (PbM.cs x) 31)) w1:=hb1
     obtain ⟨k1,k2,k3⟩:=one_box hb1'
     have HB1:=Lib.hid k3
     have HC1:=Lib.hid (PbC.of_blk k1)
     obtain ⟨u0,u1,u2,u3,u4,u5,u6,u7,u8,u9,u10,u11,u12,u13,u14,u15,u16,u17,u18,u19⟩:=HC1.out
     clear hb1 hb1' hbA k1 k3
     go_wp2_with fail
     refine (hS.out _ (HP.out.below HB1.out)).mono ?_
     rintro e w2 ⟨rfl,hb2⟩
     have HB2:=Lib.hid (HB1.out.trans (hb2.mono HB1.out.size))
     have HC2:=Lib.hid (HC1.out.below hb2)
     clear u0 u1 u2 u3 u4 u5 u6 u7 u8 u9 u10 u11 u12 u13 u14 u15 u16 u17 u18 u19 hb2
     obtain ⟨u0,u1,u2,u3,u4,u5,u6,u7,u8,u9,u10,u11,u12,u13,u14,u15,u16,u17,u18,u19⟩:=HC2.out
     go_wp2_with fail
     refine (hD.out _ (HP.out.below HB2.out)).mono ?_
     rintro e w3 ⟨rfl,hb3⟩
     have HB3:=Lib.hid (HB2.out.trans (hb3.mono HB2.out.size))
     have HC3:=Lib.hid (HC2.out.below hb3)
     clear u0 u1 u2 u3 u4 u5 u6 u7 u8 u9 u10 u11 u12 u13 u14 u15 u16 u17 u18 u19 hb3
     obtain ⟨u0,u1,u2,u3,u4,u5,u6,u7,u8,u9,u10,u11,u12,u13,u14,u15,u16,u17,u18,u19⟩:=HC3.out
     go_wp2_with fail
     go_ret
     exact ⟨ret_int hfin.out.symm,HB3.out⟩
    ·rw [e] at hS1
     rw [e'] at hD1
     rw [e''] at hO1
     have hS:=Lib.hid hS1
     have hD:=Lib.hid hD1
     have hO:=Lib.hid hO1
     clear hS1 hD1 hO1 e e' e'' hn e1 e2 e3
     go_enter Tryz.func6,Tryz.ntmps6
     go_wp2_with fail
     have hbA:Below w.heap.size w (w.alloc (.cells (PbM.cs x) 31)):=(Below.refl _ _).alloc (Nat.le_refl _) _
     refine (hT.out _ (HP.out.below hbA)).mono ?_
     rintro e w1 ⟨rfl,hb1⟩
     have hb1':Below (w.alloc (.cells (PbM.cs x) 31)).heap.size (w.alloc (.cells (PbM.cs x) 31)) w1:=hb1
     obtain ⟨k1,k2,k3⟩:=one_box hb1'
     have HB1:=Lib.hid k3
     have HC1:=Lib.hid (PbC.of_blk k1)
     obtain ⟨u0,u1,u2,u3,u4,u5,u6,u7,u8,u9,u10,u11,u12,u13,u14,u15,u16,u17,u18,u19⟩:=HC1.out
     clear hb1 hb1' hbA k1 k3
     go_wp2_with fail
     refine (hS.out _ (HP.out.below HB1.out)).mono ?_
     rintro e w2 ⟨rfl,hb2⟩
     have HB2:=Lib.hid (HB1.out.trans (hb2.mono HB1.out.size))
     have HC2:=Lib.hid (HC1.out.below hb2)
     clear u0 u1 u2 u3 u4 u5 u6 u7 u8 u9 u10 u11 u12 u13 u14 u15 u16 u17 u18 u19 hb2
     obtain ⟨u0,u1,u2,u3,u4,u5,u6,u7,u8,u9,u10,u11,u12,u13,u14,u15,u16,u17,u18,u19⟩:=HC2.out
     go_wp2_with fail
     refine (hD.out _ (HP.out.below HB2.out)).mono ?_
     rintro e w3 ⟨rfl,hb3⟩
     have HB3:=Lib.hid (HB2.out.trans (hb3.mono HB2.out.size))
     have HC3:=Lib.hid (HC2.out.below hb3)
     clear u0 u1 u2 u3 u4 u5 u6 u7 u8 u9 u10 u11 u12 u13 u14 u15 u16 u17 u18 u19 hb3
     obtain ⟨u0,u1,u2,u3,u4,u5,u6,u7,u8,u9,u10,u11,u12,u13,u14,u15,u16,u17,u18,u19⟩:=HC3.out
     go_wp2_with fail
     refine (hO.out _ (HP.out.below HB3.out)).mono ?_
     rintro e w4 ⟨rfl,hb4⟩
     have HB4:=Lib.hid (HB3.out.trans (hb4.mono HB3.out.size))
     have HC4:=Lib.hid (HC3.out.below hb4)
     clear u0 u1 u2 u3 u4 u5 u6 u7 u8 u9 u10 u11 u12 u13 u14 u15 u16 u17 u18 u19 hb4
     obtain ⟨u0,u1,u2,u3,u4,u5,u6,u7,u8,u9,u10,u11,u12,u13,u14,u15,u16,u17,u18,u19⟩:=HC4.out
     go_wp2_with fail
     go_ret
     exact ⟨ret_int hfin.out.symm,HB4.out⟩
   ·obtain ⟨e,e',e''⟩:=Pb.nums_yes q3
    rw [e] at hS1
    rw [e'] at hD1
    rw [e''] at hO1
    have hS:=Lib.hid hS1
    have hD:=Lib.hid hD1
    have hO:=Lib.hid hO1
    clear hS1 hD1 hO1 e e' e'' e1 e2 e3 hP
    by_cases q4:x.p.bat.chk=0
    ·rw [q4] at hB0
     have hB:=Lib.hid hB0
     clear hB0
     by_cases q5:x.p.room.chk x.p.n=0
     ·rw [q5] at hR0
      have hR:=Lib.hid hR0
      clear hR0
      by_cases q6:allChk x.p.loads x.p.n=0
      ·rw [q6] at hL0
       have hL:=Lib.hid hL0
       clear hL0
       have hcs:=Pb.first_cases x.p
       have hff:=Lib.hid (fun h => Pb.chk_first q1 q2 q3 q4 q5 q6 h)
       have hft:=Lib.hid (fun h => Pb.chk_ok q1 q2 q3 q4 q5 q6 h)
       clear q1 q2 q3 q4 q5 q6 hn
       have hcs:(x.level < 0∧x.p.first=false) ∨ (¬ x.level < 0∧x.bat.cap < x.level∧x.p.first=false) ∨ (¬ x.level < 0∧¬ x.bat.cap < x.level∧x.temp < -1000∧x.p.first=false) ∨
        (¬ x.level < 0∧¬ x.bat.cap < x.level∧¬ x.temp < -1000∧2000 < x.temp∧x.p.first=false) ∨ (¬ x.level < 0∧¬ x.bat.cap < x.level∧¬ x.temp < -1000∧¬ 2000 < x.temp∧x.p.first=true):=hcs
       rcases hcs with ⟨g1,e⟩ | ⟨g1,g2,e⟩ | ⟨g1,g2,g3,e⟩ | ⟨g1,g2,g3,g4,e⟩ | ⟨g1,g2,g3,g4,e⟩
       ·have hfin:=Lib.hid (hff.out e)
        clear e hff hft
        go_enter Tryz.func6,Tryz.ntmps6
        go_wp2_with fail
        have hbA:Below w.heap.size w (w.alloc (.cells (PbM.cs x) 31)):=(Below.refl _ _).alloc (Nat.le_refl _) _
        refine (hT.out _ (HP.out.below hbA)).mono ?_
        rintro e w1 ⟨rfl,hb1⟩
        have hb1':Below (w.alloc (.cells (PbM.cs x) 31)).heap.size (w.alloc (.cells (PbM.cs x) 31)) w1:=hb1
        obtain ⟨k1,k2,k3⟩:=one_box hb1'
        have HB1:=Lib.hid k3
        have HC1:=Lib.hid (PbC.of_blk k1)
        obtain ⟨u0,u1,u2,u3,u4,u5,u6,u7,u8,u9,u10,u11,u12,u13,u14,u15,u16,u17,u18,u19⟩:=HC1.out
        clear hb1 hb1' hbA k1 k3
        go_wp2_with fail
        refine (hS.out _ (HP.out.below HB1.out)).mono ?_
        rintro e w2 ⟨rfl,hb2⟩
        have HB2:=Lib.hid (HB1.out.trans (hb2.mono HB1.out.size))
        have HC2:=Lib.hid (HC1.out.below hb2)
        clear u0 u1 u2 u3 u4 u5 u6 u7 u8 u9 u10 u11 u12 u13 u14 u15 u16 u17 u18 u19 hb2
        obtain ⟨u0,u1,u2,u3,u4,u5,u6,u7,u8,u9,u10,u11,u12,u13,u14,u15,u16,u17,u18,u19⟩:=HC2.out
        go_wp2_with fail
        refine (hD.out _ (HP.out.below HB2.out)).mono ?_
        rintro e w3 ⟨rfl,hb3⟩
        have HB3:=Lib.hid (HB2.out.trans (hb3.mono HB2.out.size))
        have HC3:=Lib.hid (HC2.out.below hb3)
        clear u0 u1 u2 u3 u4 u5 u6 u7 u8 u9 u10 u11 u12 u13 u14 u15 u16 u17 u18 u19 hb3
        obtain ⟨u0,u1,u2,u3,u4,u5,u6,u7,u8,u9,u10,u11,u12,u13,u14,u15,u16,u17,u18,u19⟩:=HC3.out
        go_wp2_with fail
        refine (hO.out _ (HP.out.below HB3.out)).mono ?_
        rintro e w4 ⟨rfl,hb4⟩
        have HB4:=Lib.hid (HB3.out.trans (hb4.mono HB3.out.size))
        have HC4:=Lib.hid (HC3.out.below hb4)
        clear u0 u1 u2 u3 u4 u5 u6 u7 u8 u9 u10 u11 u12 u13 u14 u15 u16 u17 u18 u19 hb4
        obtain ⟨u0,u1,u2,u3,u4,u5,u6,u7,u8,u9,u10,u11,u12,u13,u14,u15,u16,u17,u18,u19⟩:=HC4.out
        go_wp2_with fail
        refine (hB.out _ (HP.out.below HB4.out)).mono ?_
        rintro e w5 ⟨rfl,hb5⟩
        have HB5:=Lib.hid (HB4.out.trans (hb5.mono HB4.out.size))
        have HC5:=Lib.hid (HC4.out.below hb5)
        clear u0 u1 u2 u3 u4 u5 u6 u7 u8 u9 u10 u11 u12 u13 u14 u15 u16 u17 u18 u19 hb5
        obtain ⟨u0,u1,u2,u3,u4,u5,u6,u7,u8,u9,u10,u11,u12,u13,u14,u15,u16,u17,u18,u19⟩:=HC5.out
        go_wp2_with fail
        refine (hR.out _ (HP.out.below HB5.out)).mono ?_
        rintro e w6 ⟨rfl,hb6⟩
        have HB6:=Lib.hid (HB5.out.trans (hb6.mono HB5.out.size))
        have HC6:=Lib.hid (HC5.out.below hb6)
        clear u0 u1 u2 u3 u4 u5 u6 u7 u8 u9 u10 u11 u12 u13 u14 u15 u16 u17 u18 u19 hb6
        obtain ⟨u0,u1,u2,u3,u4,u5,u6,u7,u8,u9,u10,u11,u12,u13,u14,u15,u16,u17,u18,u19⟩:=HC6.out
        go_wp2_with fail
        refine (hL.out _ (HP.out.below HB6.out)).mono ?_
        rintro e w7 ⟨rfl,hb7⟩
        have HB7:=Lib.hid (HB6.out.trans (hb7.mono HB6.out.size))
        have HC7:=Lib.hid (HC6.out.below hb7)
        clear u0 u1 u2 u3 u4 u5 u6 u7 u8 u9 u10 u11 u12 u13 u14 u15 u16 u17 u18 u19 hb7
        obtain ⟨u0,u1,u2,u3,u4,u5,u6,u7,u8,u9,u10,u11,u12,u13,u14,u15,u16,u17,u18,u19⟩:=HC7.out
        go_wp2_with fail
        go_ret
        exact ⟨ret_int hfin.out.symm,HB7.out⟩
       ·have hfin:=Lib.hid (hff.out e)
        clear e hff hft
        go_enter Tryz.func6,Tryz.ntmps6
        go_wp2_with fail
        have hbA:Below w.heap.size w (w.alloc (.cells (PbM.cs x) 31)):=(Below.refl _ _).alloc (Nat.le_refl _) _
        refine (hT.out _ (HP.out.below hbA)).mono ?_
        rintro e w1 ⟨rfl,hb1⟩
        have hb1':Below (w.alloc (.cells (PbM.cs x) 31)).heap.size (w.alloc (.cells (PbM.cs x) 31)) w1:=hb1
        obtain ⟨k1,k2,k3⟩:=one_box hb1'
        have HB1:=Lib.hid k3
        have HC1:=Lib.hid (PbC.of_blk k1)
        obtain ⟨u0,u1,u2,u3,u4,u5,u6,u7,u8,u9,u10,u11,u12,u13,u14,u15,u16,u17,u18,u19⟩:=HC1.out
        clear hb1 hb1' hbA k1 k3
        go_wp2_with fail
        refine (hS.out _ (HP.out.below HB1.out)).mono ?_
        rintro e w2 ⟨rfl,hb2⟩
        have HB2:=Lib.hid (HB1.out.trans (hb2.mono HB1.out.size))
        have HC2:=Lib.hid (HC1.out.below hb2)
        clear u0 u1 u2 u3 u4 u5 u6 u7 u8 u9 u10 u11 u12 u13 u14 u15 u16 u17 u18 u19 hb2
        obtain ⟨u0,u1,u2,u3,u4,u5,u6,u7,u8,u9,u10,u11,u12,u13,u14,u15,u16,u17,u18,u19⟩:=HC2.out
        go_wp2_with fail
        refine (hD.out _ (HP.out.below HB2.out)).mono ?_
        rintro e w3 ⟨rfl,hb3⟩
        have HB3:=Lib.hid (HB2.out.trans (hb3.mono HB2.out.size))
        have HC3:=Lib.hid (HC2.out.below hb3)
        clear u0 u1 u2 u3 u4 u5 u6 u7 u8 u9 u10 u11 u12 u13 u14 u15 u16 u17 u18 u19 hb3
        obtain ⟨u0,u1,u2,u3,u4,u5,u6,u7,u8,u9,u10,u11,u12,u13,u14,u15,u16,u17,u18,u19⟩:=HC3.out
        go_wp2_with fail
        refine (hO.out _ (HP.out.below HB3.out)).mono ?_
        rintro e w4 ⟨rfl,hb4⟩
        have HB4:=Lib.hid (HB3.out.trans (hb4.mono HB3.out.size))
        have HC4:=Lib.hid (HC3.out.below hb4)
        clear u0 u1 u2 u3 u4 u5 u6 u7 u8 u9 u10 u11 u12 u13 u14 u15 u16 u17 u18 u19 hb4
        obtain ⟨u0,u1,u2,u3,u4,u5,u6,u7,u8,u9,u10,u11,u12,u13,u14,u15,u16,u17,u18,u19⟩:=HC4.out
        go_wp2_with fail
        refine (hB.out _ (HP.out.below HB4.out)).mono ?_
        rintro e w5 ⟨rfl,hb5⟩
        have HB5:=Lib.hid (HB4.out.trans (hb5.mono HB4.out.size))
        have HC5:=Lib.hid (HC4.out.below hb5)
        clear u0 u1 u2 u3 u4 u5 u6 u7 u8 u9 u10 u11 u12 u13 u14 u15 u16 u17 u18 u19 hb5
        obtain ⟨u0,u1,u2,u3,u4,u5,u6,u7,u8,u9,u10,u11,u12,u13,u14,u15,u16,u17,u18,u19⟩:=HC5.out
        go_wp2_with fail
        refine (hR.out _ (HP.out.below HB5.out)).mono ?_
        rintro e w6 ⟨rfl,hb6⟩
        have HB6:=Lib.hid (HB5.out.trans (hb6.mono HB5.out.size))
        have HC6:=Lib.hid (HC5.out.below hb6)
        clear u0 u1 u2 u3 u4 u5 u6 u7 u8 u9 u10 u11 u12 u13 u14 u15 u16 u17 u18 u19 hb6
        obtain ⟨u0,u1,u2,u3,u4,u5,u6,u7,u8,u9,u10,u11,u12,u13,u14,u15,u16,u17,u18,u19⟩:=HC6.out
        go_wp2_with fail
        refine (hL.out _ (HP.out.below HB6.out)).mono ?_
        rintro e w7 ⟨rfl,hb7⟩
        have HB7:=Lib.hid (HB6.out.trans (hb7.mono HB6.out.size))
        have HC7:=Lib.hid (HC6.out.below hb7)
        clear u0 u1 u2 u3 u4 u5 u6 u7 u8 u9 u10 u11 u12 u13 u14 u15 u16 u17 u18 u19 hb7
        obtain ⟨u0,u1,u2,u3,u4,u5,u6,u7,u8,u9,u10,u11,u12,u13,u14,u15,u16,u17,u18,u19⟩:=HC7.out
        go_wp2_with fail
        go_ret
        exact ⟨ret_int hfin.out.symm,HB7.out⟩
       ·have hfin:=Lib.hid (hff.out e)
        clear e hff hft
        go_enter Tryz.func6,Tryz.ntmps6
        go_wp2_with fail
        have hbA:Below w.heap.size w (w.alloc (.cells (PbM.cs x) 31)):=(Below.refl _ _).alloc (Nat.le_refl _) _
        refine (hT.out _ (HP.out.below hbA)).mono ?_
        rintro e w1 ⟨rfl,hb1⟩
        have hb1':Below (w.alloc (.cells (PbM.cs x) 31)).heap.size (w.alloc (.cells (PbM.cs x) 31)) w1:=hb1
        obtain ⟨k1,k2,k3⟩:=one_box hb1'
        have HB1:=Lib.hid k3
        have HC1:=Lib.hid (PbC.of_blk k1)
        obtain ⟨u0,u1,u2,u3,u4,u5,u6,u7,u8,u9,u10,u11,u12,u13,u14,u15,u16,u17,u18,u19⟩:=HC1.out
        clear hb1 hb1' hbA k1 k3
        go_wp2_with fail
        refine (hS.out _ (HP.out.below HB1.out)).mono ?_
        rintro e w2 ⟨rfl,hb2⟩
        have HB2:=Lib.hid (HB1.out.trans (hb2.mono HB1.out.size))
        have HC2:=Lib.hid (HC1.out.below hb2)
        clear u0 u1 u2 u3 u4 u5 u6 u7 u8 u9 u10 u11 u12 u13 u14 u15 u16 u17 u18 u19 hb2
        obtain ⟨u0,u1,u2,u3,u4,u5,u6,u7,u8,u9,u10,u11,u12,u13,u14,u15,u16,u17,u18,u19⟩:=HC2.out
        go_wp2_with fail
        refine (hD.out _ (HP.out.below HB2.out)).mono ?_
        rintro e w3 ⟨rfl,hb3⟩
        have HB3:=Lib.hid (HB2.out.trans (hb3.mono HB2.out.size))
        have HC3:=Lib.hid (HC2.out.below hb3)
        clear u0 u1 u2 u3 u4 u5 u6 u7 u8 u9 u10 u11 u12 u13 u14 u15 u16 u17 u18 u19 hb3
        obtain ⟨u0,u1,u2,u3,u4,u5,u6,u7,u8,u9,u10,u11,u12,u13,u14,u15,u16,u17,u18,u19⟩:=HC3.out
        go_wp2_with fail
        refine (hO.out _ (HP.out.below HB3.out)).mono ?_
        rintro e w4 ⟨rfl,hb4⟩
        have HB4:=Lib.hid (HB3.out.trans (hb4.mono HB3.out.size))
        have HC4:=Lib.hid (HC3.out.below hb4)
        clear u0 u1 u2 u3 u4 u5 u6 u7 u8 u9 u10 u11 u12 u13 u14 u15 u16 u17 u18 u19 hb4
        obtain ⟨u0,u1,u2,u3,u4,u5,u6,u7,u8,u9,u10,u11,u12,u13,u14,u15,u16,u17,u18,u19⟩:=HC4.out
        go_wp2_with fail
        refine (hB.out _ (HP.out.below HB4.out)).mono ?_
        rintro e w5 ⟨rfl,hb5⟩
        have HB5:=Lib.hid (HB4.out.trans (hb5.mono HB4.out.size))
        have HC5:=Lib.hid (HC4.out.below hb5)
        clear u0 u1 u2 u3 u4 u5 u6 u7 u8 u9 u10 u11 u12 u13 u14 u15 u16 u17 u18 u19 hb5
        obtain ⟨u0,u1,u2,u3,u4,u5,u6,u7,u8,u9,u10,u11,u12,u13,u14,u15,u16,u17,u18,u19⟩:=HC5.out
        go_wp2_with fail
        refine (hR.out _ (HP.out.below HB5.out)).mono ?_
        rintro e w6 ⟨rfl,hb6⟩
        have HB6:=Lib.hid (HB5.out.trans (hb6.mono HB5.out.size))
        have HC6:=Lib.hid (HC5.out.below hb6)
        clear u0 u1 u2 u3 u4 u5 u6 u7 u8 u9 u10 u11 u12 u13 u14 u15 u16 u17 u18 u19 hb6
        obtain ⟨u0,u1,u2,u3,u4,u5,u6,u7,u8,u9,u10,u11,u12,u13,u14,u15,u16,u17,u18,u19⟩:=HC6.out
        go_wp2_with fail
        refine (hL.out _ (HP.out.below HB6.out)).mono ?_
        rintro e w7 ⟨rfl,hb7⟩
        have HB7:=Lib.hid (HB6.out.trans (hb7.mono HB6.out.size))
        have HC7:=Lib.hid (HC6.out.below hb7)
        clear u0 u1 u2 u3 u4 u5 u6 u7 u8 u9 u10 u11 u12 u13 u14 u15 u16 u17 u18 u19 hb7
        obtain ⟨u0,u1,u2,u3,u4,u5,u6,u7,u8,u9,u10,u11,u12,u13,u14,u15,u16,u17,u18,u19⟩:=HC7.out
        go_wp2_with fail
        go_ret
        exact ⟨ret_int hfin.out.symm,HB7.out⟩
       ·have hfin:=Lib.hid (hff.out e)
        clear e hff hft
        go_enter Tryz.func6,Tryz.ntmps6
        go_wp2_with fail
        have hbA:Below w.heap.size w (w.alloc (.cells (PbM.cs x) 31)):=(Below.refl _ _).alloc (Nat.le_refl _) _
        refine (hT.out _ (HP.out.below hbA)).mono ?_
        rintro e w1 ⟨rfl,hb1⟩
        have hb1':Below (w.alloc (.cells (PbM.cs x) 31)).heap.size (w.alloc (.cells (PbM.cs x) 31)) w1:=hb1
        obtain ⟨k1,k2,k3⟩:=one_box hb1'
        have HB1:=Lib.hid k3
        have HC1:=Lib.hid (PbC.of_blk k1)
        obtain ⟨u0,u1,u2,u3,u4,u5,u6,u7,u8,u9,u10,u11,u12,u13,u14,u15,u16,u17,u18,u19⟩:=HC1.out
        clear hb1 hb1' hbA k1 k3
        go_wp2_with fail
        refine (hS.out _ (HP.out.below HB1.out)).mono ?_
        rintro e w2 ⟨rfl,hb2⟩
        have HB2:=Lib.hid (HB1.out.trans (hb2.mono HB1.out.size))
        have HC2:=Lib.hid (HC1.out.below hb2)
        clear u0 u1 u2 u3 u4 u5 u6 u7 u8 u9 u10 u11 u12 u13 u14 u15 u16 u17 u18 u19 hb2
        obtain ⟨u0,u1,u2,u3,u4,u5,u6,u7,u8,u9,u10,u11,u12,u13,u14,u15,u16,u17,u18,u19⟩:=HC2.out
        go_wp2_with fail
        refine (hD.out _ (HP.out.below HB2.out)).mono ?_
        rintro e w3 ⟨rfl,hb3⟩
        have HB3:=Lib.hid (HB2.out.trans (hb3.mono HB2.out.size))
        have HC3:=Lib.hid (HC2.out.below hb3)
        clear u0 u1 u2 u3 u4 u5 u6 u7 u8 u9 u10 u11 u12 u13 u14 u15 u16 u17 u18 u19 hb3
        obtain ⟨u0,u1,u2,u3,u4,u5,u6,u7,u8,u9,u10,u11,u12,u13,u14,u15,u16,u17,u18,u19⟩:=HC3.out
        go_wp2_with fail
        refine (hO.out _ (HP.out.below HB3.out)).mono ?_
        rintro e w4 ⟨rfl,hb4⟩
        have HB4:=Lib.hid (HB3.out.trans (hb4.mono HB3.out.size))
        have HC4:=Lib.hid (HC3.out.below hb4)
        clear u0 u1 u2 u3 u4 u5 u6 u7 u8 u9 u10 u11 u12 u13 u14 u15 u16 u17 u18 u19 hb4
        obtain ⟨u0,u1,u2,u3,u4,u5,u6,u7,u8,u9,u10,u11,u12,u13,u14,u15,u16,u17,u18,u19⟩:=HC4.out
        go_wp2_with fail
        refine (hB.out _ (HP.out.below HB4.out)).mono ?_
        rintro e w5 ⟨rfl,hb5⟩
        have HB5:=Lib.hid (HB4.out.trans (hb5.mono HB4.out.size))
        have HC5:=Lib.hid (HC4.out.below hb5)
        clear u0 u1 u2 u3 u4 u5 u6 u7 u8 u9 u10 u11 u12 u13 u14 u15 u16 u17 u18 u19 hb5
        obtain ⟨u0,u1,u2,u3,u4,u5,u6,u7,u8,u9,u10,u11,u12,u13,u14,u15,u16,u17,u18,u19⟩:=HC5.out
        go_wp2_with fail
        refine (hR.out _ (HP.out.below HB5.out)).mono ?_
        rintro e w6 ⟨rfl,hb6⟩
        have HB6:=Lib.hid (HB5.out.trans (hb6.mono HB5.out.size))
        have HC6:=Lib.hid (HC5.out.below hb6)
        clear u0 u1 u2 u3 u4 u5 u6 u7 u8 u9 u10 u11 u12 u13 u14 u15 u16 u17 u18 u19 hb6
        obtain ⟨u0,u1,u2,u3,u4,u5,u6,u7,u8,u9,u10,u11,u12,u13,u14,u15,u16,u17,u18,u19⟩:=HC6.out
        go_wp2_with fail
        refine (hL.out _ (HP.out.below HB6.out)).mono ?_
        rintro e w7 ⟨rfl,hb7⟩
        have HB7:=Lib.hid (HB6.out.trans (hb7.mono HB6.out.size))
        have HC7:=Lib.hid (HC6.out.below hb7)
        clear u0 u1 u2 u3 u4 u5 u6 u7 u8 u9 u10 u11 u12 u13 u14 u15 u16 u17 u18 u19 hb7
        obtain ⟨u0,u1,u2,u3,u4,u5,u6,u7,u8,u9,u10,u11,u12,u13,u14,u15,u16,u17,u18,u19⟩:=HC7.out
        go_wp2_with fail
        go_ret
        exact ⟨ret_int hfin.out.symm,HB7.out⟩
       ·have hfin:=Lib.hid (hft.out e)
        clear e hff hft
        go_enter Tryz.func6,Tryz.ntmps6
        go_wp2_with fail
        have hbA:Below w.heap.size w (w.alloc (.cells (PbM.cs x) 31)):=(Below.refl _ _).alloc (Nat.le_refl _) _
        refine (hT.out _ (HP.out.below hbA)).mono ?_
        rintro e w1 ⟨rfl,hb1⟩
        have hb1':Below (w.alloc (.cells (PbM.cs x) 31)).heap.size (w.alloc (.cells (PbM.cs x) 31)) w1:=hb1
        obtain ⟨k1,k2,k3⟩:=one_box hb1'
        have HB1:=Lib.hid k3
        have HC1:=Lib.hid (PbC.of_blk k1)
        obtain ⟨u0,u1,u2,u3,u4,u5,u6,u7,u8,u9,u10,u11,u12,u13,u14,u15,u16,u17,u18,u19⟩:=HC1.out
        clear hb1 hb1' hbA k1 k3
        go_wp2_with fail
        refine (hS.out _ (HP.out.below HB1.out)).mono ?_
        rintro e w2 ⟨rfl,hb2⟩
        have HB2:=Lib.hid (HB1.out.trans (hb2.mono HB1.out.size))
        have HC2:=Lib.hid (HC1.out.below hb2)
        clear u0 u1 u2 u3 u4 u5 u6 u7 u8 u9 u10 u11 u12 u13 u14 u15 u16 u17 u18 u19 hb2
        obtain ⟨u0,u1,u2,u3,u4,u5,u6,u7,u8,u9,u10,u11,u12,u13,u14,u15,u16,u17,u18,u19⟩:=HC2.out
        go_wp2_with fail
        refine (hD.out _ (HP.out.below HB2.out)).mono ?_
        rintro e w3 ⟨rfl,hb3⟩
        have HB3:=Lib.hid (HB2.out.trans (hb3.mono HB2.out.size))
        have HC3:=Lib.hid (HC2.out.below hb3)
        clear u0 u1 u2 u3 u4 u5 u6 u7 u8 u9 u10 u11 u12 u13 u14 u15 u16 u17 u18 u19 hb3
        obtain ⟨u0,u1,u2,u3,u4,u5,u6,u7,u8,u9,u10,u11,u12,u13,u14,u15,u16,u17,u18,u19⟩:=HC3.out
        go_wp2_with fail
        refine (hO.out _ (HP.out.below HB3.out)).mono ?_
        rintro e w4 ⟨rfl,hb4⟩
        have HB4:=Lib.hid (HB3.out.trans (hb4.mono HB3.out.size))
        have HC4:=Lib.hid (HC3.out.below hb4)
        clear u0 u1 u2 u3 u4 u5 u6 u7 u8 u9 u10 u11 u12 u13 u14 u15 u16 u17 u18 u19 hb4
        obtain ⟨u0,u1,u2,u3,u4,u5,u6,u7,u8,u9,u10,u11,u12,u13,u14,u15,u16,u17,u18,u19⟩:=HC4.out
        go_wp2_with fail
        refine (hB.out _ (HP.out.below HB4.out)).mono ?_
        rintro e w5 ⟨rfl,hb5⟩
        have HB5:=Lib.hid (HB4.out.trans (hb5.mono HB4.out.size))
        have HC5:=Lib.hid (HC4.out.below hb5)
        clear u0 u1 u2 u3 u4 u5 u6 u7 u8 u9 u10 u11 u12 u13 u14 u15 u16 u17 u18 u19 hb5
        obtain ⟨u0,u1,u2,u3,u4,u5,u6,u7,u8,u9,u10,u11,u12,u13,u14,u15,u16,u17,u18,u19⟩:=HC5.out
        go_wp2_with fail
        refine (hR.out _ (HP.out.below HB5.out)).mono ?_
        rintro e w6 ⟨rfl,hb6⟩
        have HB6:=Lib.hid (HB5.out.trans (hb6.mono HB5.out.size))
        have HC6:=Lib.hid (HC5.out.below hb6)
        clear u0 u1 u2 u3 u4 u5 u6 u7 u8 u9 u10 u11 u12 u13 u14 u15 u16 u17 u18 u19 hb6
        obtain ⟨u0,u1,u2,u3,u4,u5,u6,u7,u8,u9,u10,u11,u12,u13,u14,u15,u16,u17,u18,u19⟩:=HC6.out
        go_wp2_with fail
        refine (hL.out _ (HP.out.below HB6.out)).mono ?_
        rintro e w7 ⟨rfl,hb7⟩
        have HB7:=Lib.hid (HB6.out.trans (hb7.mono HB6.out.size))
        have HC7:=Lib.hid (HC6.out.below hb7)
        clear u0 u1 u2 u3 u4 u5 u6 u7 u8 u9 u10 u11 u12 u13 u14 u15 u16 u17 u18 u19 hb7
        obtain ⟨u0,u1,u2,u3,u4,u5,u6,u7,u8,u9,u10,u11,u12,u13,u14,u15,u16,u17,u18,u19⟩:=HC7.out
        go_wp2_with fail
        go_ret
        exact ⟨ret_int hfin.out.symm,HB7.out⟩
      ·have hfin:=Lib.hid (Pb.chk_loads q1 q2 q3 q4 q5 q6)
       have hL:=Lib.hid hL0
       have hne:(allChk x.p.loads x.p.n != 0)=true:=by simpa using q6
       clear hL0 q1 q2 q3 q4 q5 q6 hn
       generalize allChk x.p.loads x.p.n=ck at *
       go_enter Tryz.func6,Tryz.ntmps6
       go_wp2_with fail
       have hbA:Below w.heap.size w (w.alloc (.cells (PbM.cs x) 31)):=(Below.refl _ _).alloc (Nat.le_refl _) _
       refine (hT.out _ (HP.out.below hbA)).mono ?_
       rintro e w1 ⟨rfl,hb1⟩
       have hb1':Below (w.alloc (.cells (PbM.cs x) 31)).heap.size (w.alloc (.cells (PbM.cs x) 31)) w1:=hb1
       obtain ⟨k1,k2,k3⟩:=one_box hb1'
       have HB1:=Lib.hid k3
       have HC1:=Lib.hid (PbC.of_blk k1)
       obtain ⟨u0,u1,u2,u3,u4,u5,u6,u7,u8,u9,u10,u11,u12,u13,u14,u15,u16,u17,u18,u19⟩:=HC1.out
       clear hb1 hb1' hbA k1 k3
       go_wp2_with fail
       refine (hS.out _ (HP.out.below HB1.out)).mono ?_
       rintro e w2 ⟨rfl,hb2⟩
       have HB2:=Lib.hid (HB1.out.trans (hb2.mono HB1.out.size))
       have HC2:=Lib.hid (HC1.out.below hb2)
       clear u0 u1 u2 u3 u4 u5 u6 u7 u8 u9 u10 u11 u12 u13 u14 u15 u16 u17 u18 u19 hb2
       obtain ⟨u0,u1,u2,u3,u4,u5,u6,u7,u8,u9,u10,u11,u12,u13,u14,u15,u16,u17,u18,u19⟩:=HC2.out
       go_wp2_with fail
       refine (hD.out _ (HP.out.below HB2.out)).mono ?_
       rintro e w3 ⟨rfl,hb3⟩
       have HB3:=Lib.hid (HB2.out.trans (hb3.mono HB2.out.size))
       have HC3:=Lib.hid (HC2.out.below hb3)
       clear u0 u1 u2 u3 u4 u5 u6 u7 u8 u9 u10 u11 u12 u13 u14 u15 u16 u17 u18 u19 hb3
       obtain ⟨u0,u1,u2,u3,u4,u5,u6,u7,u8,u9,u10,u11,u12,u13,u14,u15,u16,u17,u18,u19⟩:=HC3.out
       go_wp2_with fail
       refine (hO.out _ (HP.out.below HB3.out)).mono ?_
       rintro e w4 ⟨rfl,hb4⟩
       have HB4:=Lib.hid (HB3.out.trans (hb4.mono HB3.out.size))
       have HC4:=Lib.hid (HC3.out.below hb4)
       clear u0 u1 u2 u3 u4 u5 u6 u7 u8 u9 u10 u11 u12 u13 u14 u15 u16 u17 u18 u19 hb4
       obtain ⟨u0,u1,u2,u3,u4,u5,u6,u7,u8,u9,u10,u11,u12,u13,u14,u15,u16,u17,u18,u19⟩:=HC4.out
       go_wp2_with fail
       refine (hB.out _ (HP.out.below HB4.out)).mono ?_
       rintro e w5 ⟨rfl,hb5⟩
       have HB5:=Lib.hid (HB4.out.trans (hb5.mono HB4.out.size))
       have HC5:=Lib.hid (HC4.out.below hb5)
       clear u0 u1 u2 u3 u4 u5 u6 u7 u8 u9 u10 u11 u12 u13 u14 u15 u16 u17 u18 u19 hb5
       obtain ⟨u0,u1,u2,u3,u4,u5,u6,u7,u8,u9,u10,u11,u12,u13,u14,u15,u16,u17,u18,u19⟩:=HC5.out
       go_wp2_with fail
       refine (hR.out _ (HP.out.below HB5.out)).mono ?_
       rintro e w6 ⟨rfl,hb6⟩
       have HB6:=Lib.hid (HB5.out.trans (hb6.mono HB5.out.size))
       have HC6:=Lib.hid (HC5.out.below hb6)
       clear u0 u1 u2 u3 u4 u5 u6 u7 u8 u9 u10 u11 u12 u13 u14 u15 u16 u17 u18 u19 hb6
       obtain ⟨u0,u1,u2,u3,u4,u5,u6,u7,u8,u9,u10,u11,u12,u13,u14,u15,u16,u17,u18,u19⟩:=HC6.out
       go_wp2_with fail
       refine (hL.out _ (HP.out.below HB6.out)).mono ?_
       rintro e w7 ⟨rfl,hb7⟩
       have HB7:=Lib.hid (HB6.out.trans (hb7.mono HB6.out.size))
       have HC7:=Lib.hid (HC6.out.below hb7)
       clear u0 u1 u2 u3 u4 u5 u6 u7 u8 u9 u10 u11 u12 u13 u14 u15 u16 u17 u18 u19 hb7
       obtain ⟨u0,u1,u2,u3,u4,u5,u6,u7,u8,u9,u10,u11,u12,u13,u14,u15,u16,u17,u18,u19⟩:=HC7.out
       go_wp2_with fail
       go_ret
       exact ⟨ret_int hfin.out.symm,HB7.out⟩
     ·have hfin:=Lib.hid (Pb.chk_room q1 q2 q3 q4 q5)
      have hR:=Lib.hid hR0
      have hne:(x.p.room.chk x.p.n != 0)=true:=by simpa using q5
      clear hR0 q1 q2 q3 q4 q5 hn hL0
      generalize x.p.room.chk x.p.n=ck at *
      go_enter Tryz.func6,Tryz.ntmps6
      go_wp2_with fail
      have hbA:Below w.heap.size w (w.alloc (.cells (PbM.cs x) 31)):=(Below.refl _ _).alloc (Nat.le_refl _) _
      refine (hT.out _ (HP.out.below hbA)).mono ?_
      rintro e w1 ⟨rfl,hb1⟩
      have hb1':Below (w.alloc (.cells (PbM.cs x) 31)).heap.size (w.alloc (.cells (PbM.cs x) 31)) w1:=hb1
      obtain ⟨k1,k2,k3⟩:=one_box hb1'
      have HB1:=Lib.hid k3
      have HC1:=Lib.hid (PbC.of_blk k1)
      obtain ⟨u0,u1,u2,u3,u4,u5,u6,u7,u8,u9,u10,u11,u12,u13,u14,u15,u16,u17,u18,u19⟩:=HC1.out
      clear hb1 hb1' hbA k1 k3
      go_wp2_with fail
      refine (hS.out _ (HP.out.below HB1.out)).mono ?_
      rintro e w2 ⟨rfl,hb2⟩
      have HB2:=Lib.hid (HB1.out.trans (hb2.mono HB1.out.size))
      have HC2:=Lib.hid (HC1.out.below hb2)
      clear u0 u1 u2 u3 u4 u5 u6 u7 u8 u9 u10 u11 u12 u13 u14 u15 u16 u17 u18 u19 hb2
      obtain ⟨u0,u1,u2,u3,u4,u5,u6,u7,u8,u9,u10,u11,u12,u13,u14,u15,u16,u17,u18,u19⟩:=HC2.out
      go_wp2_with fail
      refine (hD.out _ (HP.out.below HB2.out)).mono ?_
      rintro e w3 ⟨rfl,hb3⟩
      have HB3:=Lib.hid (HB2.out.trans (hb3.mono HB2.out.size))
      have HC3:=Lib.hid (HC2.out.below hb3)
      clear u0 u1 u2 u3 u4 u5 u6 u7 u8 u9 u10 u11 u12 u13 u14 u15 u16 u17 u18 u19 hb3
      obtain ⟨u0,u1,u2,u3,u4,u5,u6,u7,u8,u9,u10,u11,u12,u13,u14,u15,u16,u17,u18,u19⟩:=HC3.out
      go_wp2_with fail
      refine (hO.out _ (HP.out.below HB3.out)).mono ?_
      rintro e w4 ⟨rfl,hb4⟩
      have HB4:=Lib.hid (HB3.out.trans (hb4.mono HB3.out.size))
      have HC4:=Lib.hid (HC3.out.below hb4)
      clear u0 u1 u2 u3 u4 u5 u6 u7 u8 u9 u10 u11 u12 u13 u14 u15 u16 u17 u18 u19 hb4
      obtain ⟨u0,u1,u2,u3,u4,u5,u6,u7,u8,u9,u10,u11,u12,u13,u14,u15,u16,u17,u18,u19⟩:=HC4.out
      go_wp2_with fail
      refine (hB.out _ (HP.out.below HB4.out)).mono ?_
      rintro e w5 ⟨rfl,hb5⟩
      have HB5:=Lib.hid (HB4.out.trans (hb5.mono HB4.out.size))
      have HC5:=Lib.hid (HC4.out.below hb5)
      clear u0 u1 u2 u3 u4 u5 u6 u7 u8 u9 u10 u11 u12 u13 u14 u15 u16 u17 u18 u19 hb5
      obtain ⟨u0,u1,u2,u3,u4,u5,u6,u7,u8,u9,u10,u11,u12,u13,u14,u15,u16,u17,u18,u19⟩:=HC5.out
      go_wp2_with fail
      refine (hR.out _ (HP.out.below HB5.out)).mono ?_
      rintro e w6 ⟨rfl,hb6⟩
      have HB6:=Lib.hid (HB5.out.trans (hb6.mono HB5.out.size))
      have HC6:=Lib.hid (HC5.out.below hb6)
      clear u0 u1 u2 u3 u4 u5 u6 u7 u8 u9 u10 u11 u12 u13 u14 u15 u16 u17 u18 u19 hb6
      obtain ⟨u0,u1,u2,u3,u4,u5,u6,u7,u8,u9,u10,u11,u12,u13,u14,u15,u16,u17,u18,u19⟩:=HC6.out
      go_wp2_with fail
      go_ret
      exact ⟨ret_int hfin.out.symm,HB6.out⟩
    ·have hfin:=Lib.hid (Pb.chk_bat q1 q2 q3 q4)
     have hB:=Lib.hid hB0
     have hne:(x.p.bat.chk != 0)=true:=by simpa using q4
     clear hB0 q1 q2 q3 q4 hn hL0 hR0
     generalize x.p.bat.chk=ck at *
     go_enter Tryz.func6,Tryz.ntmps6
     go_wp2_with fail
     have hbA:Below w.heap.size w (w.alloc (.cells (PbM.cs x) 31)):=(Below.refl _ _).alloc (Nat.le_refl _) _
     refine (hT.out _ (HP.out.below hbA)).mono ?_
     rintro e w1 ⟨rfl,hb1⟩
     have hb1':Below (w.alloc (.cells (PbM.cs x) 31)).heap.size (w.alloc (.cells (PbM.cs x) 31)) w1:=hb1
     obtain ⟨k1,k2,k3⟩:=one_box hb1'
     have HB1:=Lib.hid k3
     have HC1:=Lib.hid (PbC.of_blk k1)
     obtain ⟨u0,u1,u2,u3,u4,u5,u6,u7,u8,u9,u10,u11,u12,u13,u14,u15,u16,u17,u18,u19⟩:=HC1.out
     clear hb1 hb1' hbA k1 k3
     go_wp2_with fail
     refine (hS.out _ (HP.out.below HB1.out)).mono ?_
     rintro e w2 ⟨rfl,hb2⟩
     have HB2:=Lib.hid (HB1.out.trans (hb2.mono HB1.out.size))
     have HC2:=Lib.hid (HC1.out.below hb2)
     clear u0 u1 u2 u3 u4 u5 u6 u7 u8 u9 u10 u11 u12 u13 u14 u15 u16 u17 u18 u19 hb2
     obtain ⟨u0,u1,u2,u3,u4,u5,u6,u7,u8,u9,u10,u11,u12,u13,u14,u15,u16,u17,u18,u19⟩:=HC2.out
     go_wp2_with fail
     refine (hD.out _ (HP.out.below HB2.out)).mono ?_
     rintro e w3 ⟨rfl,hb3⟩
     have HB3:=Lib.hid (HB2.out.trans (hb3.mono HB2.out.size))
     have HC3:=Lib.hid (HC2.out.below hb3)
     clear u0 u1 u2 u3 u4 u5 u6 u7 u8 u9 u10 u11 u12 u13 u14 u15 u16 u17 u18 u19 hb3
     obtain ⟨u0,u1,u2,u3,u4,u5,u6,u7,u8,u9,u10,u11,u12,u13,u14,u15,u16,u17,u18,u19⟩:=HC3.out
     go_wp2_with fail
     refine (hO.out _ (HP.out.below HB3.out)).mono ?_
     rintro e w4 ⟨rfl,hb4⟩
     have HB4:=Lib.hid (HB3.out.trans (hb4.mono HB3.out.size))
     have HC4:=Lib.hid (HC3.out.below hb4)
     clear u0 u1 u2 u3 u4 u5 u6 u7 u8 u9 u10 u11 u12 u13 u14 u15 u16 u17 u18 u19 hb4
     obtain ⟨u0,u1,u2,u3,u4,u5,u6,u7,u8,u9,u10,u11,u12,u13,u14,u15,u16,u17,u18,u19⟩:=HC4.out
     go_wp2_with fail
     refine (hB.out _ (HP.out.below HB4.out)).mono ?_
     rintro e w5 ⟨rfl,hb5⟩
     have HB5:=Lib.hid (HB4.out.trans (hb5.mono HB4.out.size))
     have HC5:=Lib.hid (HC4.out.below hb5)
     clear u0 u1 u2 u3 u4 u5 u6 u7 u8 u9 u10 u11 u12 u13 u14 u15 u16 u17 u18 u19 hb5
     obtain ⟨u0,u1,u2,u3,u4,u5,u6,u7,u8,u9,u10,u11,u12,u13,u14,u15,u16,u17,u18,u19⟩:=HC5.out
     go_wp2_with fail
     go_ret
     exact ⟨ret_int hfin.out.symm,HB5.out⟩
 ·have hfin:=Lib.hid (Pb.chk_t q1)
  have hT:=Lib.hid hT0
  have hne:(x.p.t.chk != 0)=true:=by simpa using q1
  clear hT0 q1 hn hL0 hR0 hB0 hS0 hD0 hO0 hP hF hl1 e1 e2 e3
  generalize x.p.t.chk=ck at *
  go_enter Tryz.func6,Tryz.ntmps6
  go_wp2_with fail
  have hbA:Below w.heap.size w (w.alloc (.cells (PbM.cs x) 31)):=(Below.refl _ _).alloc (Nat.le_refl _) _
  refine (hT.out _ (HP.out.below hbA)).mono ?_
  rintro e w1 ⟨rfl,hb1⟩
  have hb1':Below (w.alloc (.cells (PbM.cs x) 31)).heap.size (w.alloc (.cells (PbM.cs x) 31)) w1:=hb1
  obtain ⟨k1,k2,k3⟩:=one_box hb1'
  have HB1:=Lib.hid k3
  have HC1:=Lib.hid (PbC.of_blk k1)
  obtain ⟨u0,u1,u2,u3,u4,u5,u6,u7,u8,u9,u10,u11,u12,u13,u14,u15,u16,u17,u18,u19⟩:=HC1.out
  clear hb1 hb1' hbA k1 k3
  go_wp2_with fail
  go_ret
  exact ⟨ret_int hfin.out.symm,HB1.out⟩
end Go.Proofs.YtnppngaabfhkpaaGreat
