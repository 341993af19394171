/-
  The walks of layer 42 (plan), part 3: shaped of the program and Form of the reference.
-/
import Derived.Test.YtnppngaabfhkpaaGreatECS0
import Derived.Test.YtnppngaabfhkpaaGreatEP6
import Derived.Test.YtnppngaabfhkpaaGreatEL8
import Derived.Defers
import Derived.BigQuiet
import Derived.Laws.Rows
import Derived.Test.YtnppngaabfhkpaaGreatEPP1
namespace Go.Proofs.YtnppngaabfhkpaaGreat
open Go.RowKit
attribute [local go_sem ↓] Go.wp_at_zero Go.wp_at_succ
def PnM.cs (y:PnM):Array Value:=#[.slice y.charge.A y.charge.l.length y.charge.c,.slice y.heat.A y.heat.l.length y.heat.c,.slice y.start.A y.start.l.length y.start.c]
def PnC (W:World) (g:Nat) (y:PnM):Prop:=W.cell? ⟨g,0,none⟩=some (.slice y.charge.A y.charge.l.length y.charge.c)∧W.cell? ⟨g,1,none⟩=some (.slice y.heat.A y.heat.l.length y.heat.c)∧W.cell? ⟨g,2,none⟩=some (.slice y.start.A y.start.l.length y.start.c)
theorem PnC.of_blk {W:World} {g:Nat} {t:TypeId} {y:PnM} (h:Blk W g t y.cs):PnC W g y:=by
 refine ⟨?_,?_,?_⟩ <;> (rw [h.cell]; rfl)
structure PX (x:PbM) (y:PnM) (w wr:World):Prop where
 p:Blk wr w.heap.size 31 x.cs
 q:Blk wr (w.heap.size+1) 48 y.cs
 bel:Below w.heap.size w wr
theorem PX.start (x:PbM) (y:PnM) (w:World):PX x y w ((w.alloc (.cells x.cs 31)).alloc (.cells y.cs 48)):=by
 obtain ⟨h1,h2,_,h3⟩:=two_boxes (w:=w) (cs:=x.cs) (t:=31) (cs2:=y.cs) (t2:=48) (Below.refl _ _)
 exact ⟨h1,h2,h3⟩
theorem PX.lt {x:PbM} {y:PnM} {w wr:World} (h:PX x y w wr):w.heap.size+2 ≤ wr.heap.size:=h.q.lt
theorem PX.above {x:PbM} {y:PnM} {w wr w1:World} {B:Nat} (h:PX x y w wr) (hb:Below B wr w1) (hB:w.heap.size+2 ≤ B):PX x y w w1 :=
 ⟨h.p.below hb (by omega),h.q.below hb (by omega),h.bel.trans (hb.mono (by omega))⟩
theorem PX.below {x:PbM} {y:PnM} {w wr w1:World} (h:PX x y w wr) (hb:Below wr.heap.size wr w1):PX x y w w1:=h.above hb h.lt
theorem PX.alloc {x:PbM} {y:PnM} {w wr:World} (h:PX x y w wr) (o:Obj):PX x y w (wr.alloc o):=h.below ((Below.refl _ _).alloc (Nat.le_refl _) _)
theorem PX.drewN {x:PbM} {y:PnM} {w wr:World} (h:PX x y w wr) (n:Nat):PX x y w (wr.drewN n):=h.below (below_drewN (Below.refl _ _) n)
theorem PX.pc {x:PbM} {y:PnM} {w wr:World} (h:PX x y w wr):PbC wr w.heap.size x:=PbC.of_blk h.p
theorem PX.qc {x:PbM} {y:PnM} {w wr:World} (h:PX x y w wr):PnC wr (w.heap.size+1) y:=PnC.of_blk h.q
theorem PX.pr {x:PbM} {y:PnM} {w wr:World} (h:PX x y w wr) (hP:RPb w x):RPb wr x:=hP.below h.bel
theorem PX.qr {x:PbM} {y:PnM} {w wr:World} (h:PX x y w wr) (hQ:RPn w y):RPn wr y:=hQ.below h.bel
theorem Pb.form_sized {p:Pb} {x:Pn} (h:p.sized x=false):p.form x=3:=by unfold Pb.form; rw [if_pos h]
theorem Pb.form_fits {p:Pb} {x:Pn} (h:p.sized x=true) (h2:p.fitsTo x p.loads.length=false):p.form x=2:=by unfold Pb.form; rw [if_neg (by simp [h]),if_pos h2]
theorem Pb.form_heat {p:Pb} {x:Pn} (h:p.sized x=true) (h2:p.fitsTo x p.loads.length=true) (h3:allB x.heat 0 p.room.steps=false):p.form x=2:=by unfold Pb.form; rw [if_neg (by simp [h]),if_neg (by simp [h2]),if_pos h3]
theorem Pb.form_ok {p:Pb} {x:Pn} (h:p.sized x=true) (h2:p.fitsTo x p.loads.length=true) (h3:allB x.heat 0 p.room.steps=true):p.form x=0:=by unfold Pb.form; rw [if_neg (by simp [h]),if_neg (by simp [h2]),if_neg (by simp [h3])]
theorem Pb.sized_cases {p:Pb} {x:Pn} (h:p.sized x=false):((x.charge.length:Int) ≠ p.n) ∨ ((x.charge.length:Int)=p.n∧(x.heat.length:Int) ≠ p.n) ∨ ((x.charge.length:Int)=p.n∧(x.heat.length:Int)=p.n∧(x.start.length:Int) ≠ p.loads.length):=by
 simp only [Pb.sized,decide_eq_false_iff_not] at h
 omega
theorem Pb.sized_yes {p:Pb} {x:Pn} (h:p.sized x=true):x.charge.length=p.n∧x.heat.length=p.n∧x.start.length=p.loads.length:=by
 simpa [Pb.sized] using h
set_option maxRecDepth 100000 in
set_option maxHeartbeats 16000000 in
theorem rform_any (x:PbM) (y:PnM) (w:World) (hP0:RPb w x) (hQ0:RPn w y) (hF:x.Fit) (hmx:x.buy.l.length < 9223372036854775807) (hlm:x.loads.length ≤ 1000000) :
  Calls Tryz.prog 104 #[x.v,y.v] w fun e w' => e = .returned (.int .i64 (x.p.form y.x))∧Below w.heap.size w w':=by
 have hP:=Lib.hid hP0
 have hQ:=Lib.hid hQ0
 have HF:=Lib.hid hF
 have hst:=Lib.hid (PX.start x y w)
 have e1:x.p.n=x.buy.l.length:=rfl
 have e2:y.x.charge=y.charge.l:=rfl
 have e3:y.x.heat=y.heat.l:=rfl
 have e4:y.x.start=y.start.l:=rfl
 have e5:x.p.loads.length=x.loads.length:=by simp [PbM.p]
 have hwi:=fun (h:y.heat.l.length < 9223372036854775807) W (h2:RInts W y.heat.A y.heat.l) => rAll_any y.heat.A y.heat.c y.heat.l 0 x.steps W h2 h
 simp only [PbM.v,PnM.v]
 cases q:x.p.sized y.x
 ·have hfin:=Lib.hid (Pb.form_sized q)
  have hcs:=Pb.sized_cases q
  rw [e1,e2,e3,e4,e5] at hcs
  clear q e1 e2 e3 e4 e5 hmx hwi hP0 hQ0 hF
  rcases hcs with g | ⟨g,g2⟩ | ⟨g,g2,g3⟩
  ·have g':((y.charge.l.length:Int) != (x.buy.l.length:Int))=true:=by rw [bne_iff_ne]; exact g
   clear g
   go_enter Tryz.func104,Tryz.ntmps104
   go_wp2_with fail
   go_ret
   exact ⟨ret_int hfin.out.symm,hst.out.bel⟩
  ·have g':((y.charge.l.length:Int) != (x.buy.l.length:Int))=false:=by rw [bne_eq_false_iff_eq]; exact g
   have g2':((y.heat.l.length:Int) != (x.buy.l.length:Int))=true:=by rw [bne_iff_ne]; exact g2
   clear g g2
   go_enter Tryz.func104,Tryz.ntmps104
   go_wp2_with fail
   go_ret
   exact ⟨ret_int hfin.out.symm,hst.out.bel⟩
  ·have g':((y.charge.l.length:Int) != (x.buy.l.length:Int))=false:=by rw [bne_eq_false_iff_eq]; exact g
   have g2':((y.heat.l.length:Int) != (x.buy.l.length:Int))=false:=by rw [bne_eq_false_iff_eq]; exact g2
   have g3':((y.start.l.length:Int) != (x.loads.length:Int))=true:=by rw [bne_iff_ne]; exact g3
   clear g g2 g3
   go_enter Tryz.func104,Tryz.ntmps104
   go_wp2_with fail
   go_ret
   exact ⟨ret_int hfin.out.symm,hst.out.bel⟩
 ·obtain ⟨g,g2,g3⟩:=Pb.sized_yes q
  rw [e1,e2] at g
  rw [e1,e3] at g2
  rw [e4,e5] at g3
  have g':((y.charge.l.length:Int) != (x.buy.l.length:Int))=false:=by rw [bne_eq_false_iff_eq]; omega
  have g2':((y.heat.l.length:Int) != (x.buy.l.length:Int))=false:=by rw [bne_eq_false_iff_eq]; omega
  have g3':((y.start.l.length:Int) != (x.loads.length:Int))=false:=by rw [bne_eq_false_iff_eq]; omega
  have G3:=Lib.hid g3
  have HQS:=Lib.hid q
  have HWI:=Lib.hid (hwi (by omega))
  have E5:=Lib.hid e5
  clear g g2 g3 q e1 e2 e3 e4 e5 hmx hwi hP0 hQ0 hF
  go_enter Tryz.func104,Tryz.ntmps104
  go_wp2_with fail
  clear g' g2' g3'
  go_loopw [35] (fun i' wr => ∃ k:Nat,k ≤ x.loads.length∧i' = .int .i64 k∧Hid (x.p.fitsTo y.x k=true)∧Hid (PX x y w wr))
   (fun i' _ => x.loads.length - (intOf i').toNat)
  case atStart => exact ⟨0,by omega,rfl,rfl,hst.out⟩
  case round =>
   obtain ⟨k,hkm,rfl,hfk,hPX⟩:=hrel
   obtain ⟨wo,hwo⟩:∃ wo:World,wo=wr:=⟨_,rfl⟩
   subst hwo
   have hsz:=hPX.out.lt
   by_cases hlt:k < x.loads.length
   ·have hks:k < y.start.l.length:=by have:=G3.out; omega
    obtain ⟨b,of,hAe,hb,z0,z1,z2,z3⟩:=(hPX.out.pr hP.out).loads.at' hlt
    obtain ⟨bs,os,hSe,hbs,s0⟩:=(hPX.out.qr hQ.out).start.at' hks
    obtain ⟨-, -,c2⟩:=hPX.out.qc
    rw [hSe] at c2
    obtain ⟨-, -, -, -, -, -, -, -, -, -, -, -, -, -, -, -, -,c17, -, -⟩:=hPX.out.pc
    rw [hAe] at c17
    have hfit0:=fun W (h:RInts W x.loads[k].A x.loads[k].r.prof) => rlfit_any x.loads[k].r x.loads[k].A x.loads[k].c y.start.l[k] x.buy.l.length W h (HF.out.names _ (List.getElem_mem hlt))
    have HPR:=Lib.hid ((hPX.out.pr hP.out).loads.prof hlt)
    have hsu0:=Pb.fitsTo_succ x.p y.x k
    have hl1:x.p.loads.getD k Ld.zero=x.loads[k].r:=by simp [PbM.p,List.getD,hlt]
    have hl2:y.x.start.getD k 0=y.start.l[k]:=by simp [PnM.x,List.getD,hks]
    rw [hl1,hl2] at hsu0
    have hsu0:x.p.fitsTo y.x (k+1)=(x.p.fitsTo y.x k && x.loads[k].r.fit y.start.l[k] x.buy.l.length):=hsu0
    rw [hfk.out,Bool.true_and] at hsu0
    have HAE:=Lib.hid hAe
    have HSE:=Lib.hid hSe
    clear hl1 hl2 hAe hSe
    simp only [Ld.v] at hfit0
    generalize x.loads[k]=X at *
    generalize y.start.l[k]=s at *
    have i1:(0:Int) ≤ (k:Int):=by omega
    have i2:(k:Int) < (x.loads.length:Int):=by omega
    have i3:(k:Int) < (y.start.l.length:Int):=by omega
    have HK:Hid (∀ W,Below wo.heap.size wo W→Below wo.heap.size wo W∧W.cell? ⟨b,of+k * 4,none⟩=some (.string X.r.name)∧W.cell? ⟨b,of+k * 4+1,none⟩=some (.slice X.A X.r.prof.length X.c)∧W.cell? ⟨b,of+k * 4+2,none⟩=some (.int .i64 X.r.early)∧W.cell? ⟨b,of+k * 4+3,none⟩=some (.int .i64 X.r.late)∧W.cell? ⟨w.heap.size,17,none⟩=some (.slice (some ⟨b,of,none⟩) x.loads.length x.lc)∧W.cell? ⟨w.heap.size+1,2,none⟩=some (.slice (some ⟨bs,os,none⟩) y.start.l.length y.start.c)∧W.cell? ⟨bs,os+k,none⟩=some (.int .i64 s)):=fun W hb => ⟨hb,cell_below z0 hb,cell_below z1 hb,cell_below z2 hb,cell_below z3 hb,cell_below c17 hb,cell_below c2 hb,cell_below s0 hb⟩
    cases hq:X.r.fit s x.buy.l.length
    ·rw [hq] at hfit0 hsu0
     have hfit:=Lib.hid hfit0
     have hfin:Hid (x.p.form y.x=2):=Pb.form_fits HQS.out (Pb.fitsTo_le hsu0 (by have:=E5.out; omega))
     clear hfit0 hsu0 hq
     go_wp2_with fail
     go_region_held3 (fun w' => Below wo.heap.size wo w'∧w'.cell? ⟨b,of+k * 4,none⟩=some (.string X.r.name)∧w'.cell? ⟨b,of+k * 4+1,none⟩=some (.slice X.A X.r.prof.length X.c)∧w'.cell? ⟨b,of+k * 4+2,none⟩=some (.int .i64 X.r.early)∧w'.cell? ⟨b,of+k * 4+3,none⟩=some (.int .i64 X.r.late)∧w'.cell? ⟨w.heap.size,17,none⟩=some (.slice (some ⟨b,of,none⟩) x.loads.length x.lc)∧w'.cell? ⟨w.heap.size+1,2,none⟩=some (.slice (some ⟨bs,os,none⟩) y.start.l.length y.start.c)∧w'.cell? ⟨bs,os+k,none⟩=some (.int .i64 s))
      (first | exact HK.out _ (Below.refl _ _) | exact HK.out _ (Below.drew (Below.refl _ _)) | exact HK.out _ (Below.drew (by assumption)) | exact HK.out _ (Below.drew (And.left (by assumption))) | exact HK.out _ (Below.trans (by first | assumption | exact And.left (by assumption) | exact Below.refl _ _ | exact Below.drew (Below.refl _ _) | exact Below.drew (by assumption) | exact Below.drew (And.left (by assumption))) (Below.mono (by assumption) (Below.size (by first | assumption | exact And.left (by assumption) | exact Below.refl _ _ | exact Below.drew (Below.refl _ _) | exact Below.drew (by assumption) | exact Below.drew (And.left (by assumption)))))))
      (first | (go_at_call 110; refine (hfit.out _ (HPR.out.below (by first | assumption | exact And.left (by assumption) | exact Below.refl _ _ | exact Below.drew (Below.refl _ _) | exact Below.drew (by assumption) | exact Below.drew (And.left (by assumption))))).mono ?_; rintro e' w7 ⟨rfl,hb7⟩))
     go_wp2_with fail
     go_ret
     exact ⟨ret_int hfin.out.symm,hPX.out.bel.trans (Below.mono (by first | assumption | exact And.left (by assumption) | exact Below.refl _ _ | exact Below.drew (Below.refl _ _) | exact Below.drew (by assumption) | exact Below.drew (And.left (by assumption))) (by first | omega | (simp; omega)))⟩
    ·rw [hq] at hfit0 hsu0
     have hfit:=Lib.hid hfit0
     have HSU:=Lib.hid hsu0
     clear hfit0 hsu0 hq
     go_wp2_with fail
     go_region_held3 (fun w' => Below wo.heap.size wo w'∧w'.cell? ⟨b,of+k * 4,none⟩=some (.string X.r.name)∧w'.cell? ⟨b,of+k * 4+1,none⟩=some (.slice X.A X.r.prof.length X.c)∧w'.cell? ⟨b,of+k * 4+2,none⟩=some (.int .i64 X.r.early)∧w'.cell? ⟨b,of+k * 4+3,none⟩=some (.int .i64 X.r.late)∧w'.cell? ⟨w.heap.size,17,none⟩=some (.slice (some ⟨b,of,none⟩) x.loads.length x.lc)∧w'.cell? ⟨w.heap.size+1,2,none⟩=some (.slice (some ⟨bs,os,none⟩) y.start.l.length y.start.c)∧w'.cell? ⟨bs,os+k,none⟩=some (.int .i64 s))
      (first | exact HK.out _ (Below.refl _ _) | exact HK.out _ (Below.drew (Below.refl _ _)) | exact HK.out _ (Below.drew (by assumption)) | exact HK.out _ (Below.drew (And.left (by assumption))) | exact HK.out _ (Below.trans (by first | assumption | exact And.left (by assumption) | exact Below.refl _ _ | exact Below.drew (Below.refl _ _) | exact Below.drew (by assumption) | exact Below.drew (And.left (by assumption))) (Below.mono (by assumption) (Below.size (by first | assumption | exact And.left (by assumption) | exact Below.refl _ _ | exact Below.drew (Below.refl _ _) | exact Below.drew (by assumption) | exact Below.drew (And.left (by assumption)))))))
      (first | (go_at_call 110; refine (hfit.out _ (HPR.out.below (by first | assumption | exact And.left (by assumption) | exact Below.refl _ _ | exact Below.drew (Below.refl _ _) | exact Below.drew (by assumption) | exact Below.drew (And.left (by assumption))))).mono ?_; rintro e' w7 ⟨rfl,hb7⟩))
     go_wp2_with fail
     go_roundw
     case rel => exact ⟨k+1,by omega,by go_num,HSU.out,hPX.out.above (by first | assumption | exact And.left (by assumption) | exact Below.refl _ _ | exact Below.drew (Below.refl _ _) | exact Below.drew (by assumption) | exact Below.drew (And.left (by assumption))) (by first | omega | (simp; omega))⟩
     case measure => simp [intOf]; omega
   ·have hnl:¬ (k:Int) < (y.start.l.length:Int):=by have:=G3.out; omega
    have hkl:Hid (k=x.loads.length):=by show _=_; omega
    obtain ⟨-, -, -, -, -, -, -, -, -, -, -, -, -,c13, -, -, -, -, -, -⟩:=hPX.out.pc
    obtain ⟨-,c1, -⟩:=hPX.out.qc
    have hwi2:=HWI.out wo (hPX.out.qr hQ.out).heat
    have hff:x.p.fitsTo y.x x.p.loads.length=true:=by rw [E5.out, ← hkl.out]; exact hfk.out
    cases q2:allB y.heat.l 0 x.steps
    ·have hfin:Hid (x.p.form y.x=2):=Pb.form_heat HQS.out hff q2
     rw [q2] at hwi2
     have hw2:=Lib.hid hwi2
     clear q2 hwi2 hff
     go_wp2_with fail
     refine hw2.out.mono ?_
     rintro e w1 ⟨rfl,hb1⟩
     have HB1:=Lib.hid (hPX.out.below hb1)
     clear hb1
     go_wp2_with fail
     go_ret
     exact ⟨ret_int hfin.out.symm,HB1.out.bel⟩
    ·have hfin:Hid (x.p.form y.x=0):=Pb.form_ok HQS.out hff q2
     rw [q2] at hwi2
     have hw2:=Lib.hid hwi2
     clear q2 hwi2 hff
     go_wp2_with fail
     refine hw2.out.mono ?_
     rintro e w1 ⟨rfl,hb1⟩
     have HB1:=Lib.hid (hPX.out.below hb1)
     clear hb1
     go_wp2_with fail
     go_ret
     exact ⟨ret_int hfin.out.symm,HB1.out.bel⟩
structure TrM where
 net:IntsM
 level:IntsM
 temp:IntsM
 cost:Int
def TrM.v (m:TrM):Value := .agg #[.slice m.net.A m.net.l.length m.net.c,.slice m.level.A m.level.l.length m.level.c,.slice m.temp.A m.temp.l.length m.temp.c,.int .i64 m.cost]
def TrM.x (m:TrM):Tr:=⟨m.net.l,m.level.l,m.temp.l,m.cost⟩
def TrM.zero:TrM:=⟨⟨none,0, []⟩,⟨none,0, []⟩,⟨none,0, []⟩,0⟩
structure RTr (W:World) (m:TrM):Prop where
 net:RInts W m.net.A m.net.l
 level:RInts W m.level.A m.level.l
 temp:RInts W m.temp.A m.temp.l
 nc:m.net.l.length ≤ m.net.c
 lc:m.level.l.length ≤ m.level.c
 tc:m.temp.l.length ≤ m.temp.c
theorem RTr.zero (W:World):RTr W TrM.zero:=⟨RInts.nil,RInts.nil,RInts.nil,Nat.le_refl _,Nat.le_refl _,Nat.le_refl _⟩
def RunOut (t:Tr) (er:Int) (w:World) (e:Ending) (w':World):Prop :=
 ∃ m:TrM,m.x=t∧e = .returned (.tuple #[m.v,.int .i64 er])∧RTr w' m∧Below w.heap.size w w'
section
variable {x:PbM} {y:PnM} {w wr w1:World} {cs:Array Value} {ev:Int}
end
theorem load_blk {P:Program} {ty t:TypeId} {W:World} {g:Nat} {cs:Array Value} (hu:(P.underlying ty).map (fun d => match d with | .struct _ | .array _ _ => true | _ => false)=some true) (hi:(P.info? ty).map (·.size)=some cs.size) (h:Blk W g t cs) :
  (Instr.loadAt ty (.pointer (some ⟨g,0,none⟩))).run P W = .ok (.agg cs) W:=by
 cases hd:P.underlying ty with
 | none => rw [hd] at hu; cases hu
 | some d =>
  rw [hd] at hu
  have hr:=run_loadVar_row (P:=P) W g t ty cs (0,0) d h hd (by cases d <;> simp_all) hi
  simp only [Instr.loadAt,Instr.sureAddr,Sem.run_bind,Sem.run_pure,Result.andThen_ok]
  exact hr
section
variable {P:Program} {ops:Array Oper} {rest:List Oper} {o:Oper} {a:Act} {W:World} {Q:Exit→Act→World→Prop}
theorem wpList_load_blk (ty:TypeId) {cs:Array Value} (hu:(P.underlying ty).map (fun d => match d with | .struct _ | .array _ _ => true | _ => false)=some true) (hi:(P.info? ty).map (·.size)=some cs.size)
  (hgd:o.guard=none) (s:Operand) (ho:o.op = .load ty s) (g:Nat) (hx:a.eval s = .pointer (some ⟨g,0,none⟩)) {t:TypeId} (h:Blk W g t cs) (hk:wpList P ops Q rest (a.put o.dst (.agg cs)) W) :
  wpList P ops Q (o :: rest) a W:=by
 cases hd:P.underlying ty with
 | none => rw [hd] at hu; cases hu
 | some d =>
  rw [hd] at hu
  exact wpList_load_row hgd ty s ho g hx t cs (0,0) d h hd (by cases d <;> simp_all) hi hk
theorem wpList_load_problem (hgd:o.guard=none) (s:Operand) (ho:o.op = .load 31 s) (g:Nat) (hx:a.eval s = .pointer (some ⟨g,0,none⟩)) (x:PbM) (h:Blk W g 31 x.cs) (hk:wpList Tryz.prog ops Q rest (a.put o.dst x.v) W) :
  wpList Tryz.prog ops Q (o :: rest) a W:=wpList_load_blk 31 (by kernel_rfl) (by kernel_rfl) hgd s ho g hx h hk
theorem wpList_load_plan (hgd:o.guard=none) (s:Operand) (ho:o.op = .load 48 s) (g:Nat) (hx:a.eval s = .pointer (some ⟨g,0,none⟩)) (y:PnM) (h:Blk W g 48 y.cs) (hk:wpList Tryz.prog ops Q rest (a.put o.dst y.v) W) :
  wpList Tryz.prog ops Q (o :: rest) a W:=wpList_load_blk 48 (by kernel_rfl) (by kernel_rfl) hgd s ho g hx h hk
end
end Go.Proofs.YtnppngaabfhkpaaGreat
namespace Go.Proofs.YtnppngaabfhkpaaGreat
open Go.RowKit
def Apart (v v':Value):Prop := ∀ g,v.ownBlock=some g→v'.ownBlock ≠ some g
theorem Apart.symm {v v':Value} (h:Apart v v'):Apart v' v:=fun g h1 h2 => h g h2 h1
theorem own_other {w w':World} {B size n:Nat} {e:TypeId} {v v':Value} {xs:List Value} (h:w.ownsRow B e size v' n xs) (hg:w.grownBy w' v.ownBlock) (ha:Apart v v'):w'.ownsRow B e size v' n xs:=by
 refine ⟨h.1,?_⟩
 rcases h.2 with hn | ⟨g,cap,cur,hv,hb,hc,rest⟩
 ·exact .inl hn
 ·refine .inr ⟨g,cap,cur,hv,hb,?_,rest⟩
  have hlt:g < w.heap.size:=by
   rcases Nat.lt_or_ge g w.heap.size with h1 | h1
   ·exact h1
   ·rw [Array.getElem?_eq_none h1] at hc; cases hc
  rw [hg.block g hlt (fun e => ha g e.symm (by rw [hv]; rfl)),hc]
theorem own_setCell {w:World} {B size n:Nat} {e:TypeId} {v:Value} {xs:List Value} (h:w.ownsRow B e size v n xs) {p:Addr} (hp:p.block < B) (u:Value):(w.setCell p u).ownsRow B e size v n xs:=by
 refine ⟨h.1,?_⟩
 rcases h.2 with hn | ⟨g,cap,cur,hv,hb,hc,rest⟩
 ·exact .inl hn
 ·exact .inr ⟨g,cap,cur,hv,hb,(Below.heap_setCell w p u g (by omega)).trans hc,rest⟩
structure Rows3 (w:World) (B:Nat) (v1 v2 v3:Value) (l1 l2 l3:List Int):Prop where
 o1:w.ownsRow B 3 1 v1 l1.length (ints l1)
 o2:w.ownsRow B 3 1 v2 l2.length (ints l2)
 o3:w.ownsRow B 3 1 v3 l3.length (ints l3)
 a12:Apart v1 v2
 a23:Apart v2 v3
 a31:Apart v3 v1
section
variable {w w':World} {B:Nat} {v1 v2 v3 v':Value} {l1 l2 l3:List Int}
theorem Rows3.nil (w:World) (B:Nat):Rows3 w B (.slice none 0 0) (.slice none 0 0) (.slice none 0 0) [] [] [] :=
 ⟨World.ownsRow_nil _ _ _ _,World.ownsRow_nil _ _ _ _,World.ownsRow_nil _ _ _ _,(fun _ h => by cases h),(fun _ h => by cases h),(fun _ h => by cases h)⟩
theorem Rows3.below (h:Rows3 w B v1 v2 v3 l1 l2 l3) (hb:Below w.heap.size w w'):Rows3 w' B v1 v2 v3 l1 l2 l3:=⟨own_below h.o1 hb,own_below h.o2 hb,own_below h.o3 hb,h.a12,h.a23,h.a31⟩
theorem Rows3.set (h:Rows3 w B v1 v2 v3 l1 l2 l3) {p:Addr} (hp:p.block < B) (u:Value):Rows3 (w.setCell p u) B v1 v2 v3 l1 l2 l3:=⟨own_setCell h.o1 hp u,own_setCell h.o2 hp u,own_setCell h.o3 hp u,h.a12,h.a23,h.a31⟩
theorem Rows3.rot (h:Rows3 w B v1 v2 v3 l1 l2 l3):Rows3 w B v2 v3 v1 l2 l3 l1:=⟨h.o2,h.o3,h.o1,h.a23,h.a31,h.a12⟩
theorem Rows3.push {n:Nat} {x:Int} (h:Rows3 w B v1 v2 v3 l1 l2 l3) (hn:n=l1.length) (ho:w'.ownsRow B 3 1 v' (n+1) (ints l1 ++ [.int .i64 x])) (hg:w.grownBy w' v1.ownBlock)
  (hv:v'.ownBlock=v1.ownBlock ∨ v'.ownBlock=some (w.heap.size+1)):Rows3 w' B v' v2 v3 (l1 ++ [x]) l2 l3:=by
 subst hn
 have hap:∀ {u:Value} {l:List Int},w.ownsRow B 3 1 u l.length (ints l)→Apart v1 u→Apart v' u:=by
  intro u l hu ha g hg1 hg2
  rcases hv with hv | hv
  ·rw [hv] at hg1; exact ha g hg1 hg2
  ·rw [hv] at hg1; injection hg1 with hg1
   have:=(hu.lt g hg2).2
   omega
 refine ⟨?_,own_other h.o2 hg h.a12,own_other h.o3 hg h.a31.symm,hap h.o2 h.a12,h.a23,(hap h.o3 h.a31.symm).symm⟩
 rw [List.length_append,List.length_singleton,ints_append]
 exact ho
theorem Rows3.grown (h:Rows3 w B v1 v2 v3 l1 l2 l3) (hB:B ≤ w.heap.size) (hg:w.grownBy w' v1.ownBlock):Below B w w' :=
 (Below.refl B w).grown hg hB fun k hk => (h.o1.lt k hk).1
end
theorem RInts.under {w w':World} {A:Option Addr} {l:List Int} {B:Nat} (h:RInts w A l) (hb:Below B w w') (hA:∀ ad,A=some ad→ad.block < B):RInts w' A l:=by
 refine ⟨h.1,fun hn => ?_⟩
 obtain ⟨ad,e,hlt,hc⟩:=h.2 hn
 refine ⟨ad,e,Nat.lt_of_lt_of_le hlt hb.size,fun j u hu => ?_⟩
 rw [hb.cell (by rw [block_of_add]; exact hA ad e)]
 exact hc j u hu
theorem wpList_append_newGH {P:Program} {ops:Array Oper} {rest:List Oper} {o:Oper} {a:Act} {Q:Exit→Act→World→Prop} (w w0:World) (H:Nat) (hH:w0.heap.size=H) (hgd:o.guard=none) (s x:Operand) (t:TypeId)
  (ho:o.op = .call { callee := .builtin .append,args:=#[s,x],argTypes:=#[t,t] })
  (base:Nat) (e:TypeId) (i:TypeInfo) (z:Value) (size bytes:Nat) (ht:P.underlying t=some (.slice e)) (hi:P.info? e=some i) (hz:i.zero=some z)
  (hsize:i.size=size) (hby:i.bytes=bytes) (hzs:z.cells.size=size) (hsz:0 < size) (hb4:bytes ≤ 4096)
  (v:Value) (n:Nat) (xs:List Value) (hs:a.eval s=v) (hown:w0.ownsRow base e size v n xs)
  (cs:Array Value) (hcs:cs.size=size) (h1:∀ u ∈ cs.toList,u.oneCell'=true) (hx:a.eval x = .slice (some ⟨H,0,none⟩) 1 1)
  (hw:w=w0.alloc (.cells cs e)) (hn:n ≤ 1000000000) (hbase:base ≤ w0.heap.size)
  (h:∀ v' w',w'.ownsRow base e size v' (n+1) (xs ++ cs.toList)→w0.grownBy w' v.ownBlock→(v'.ownBlock=v.ownBlock ∨ v'.ownBlock=some (w0.heap.size+1))→wpList P ops Q rest (a.put o.dst v') w'):wpList P ops Q (o :: rest) a w:=by
 subst hH
 exact wpList_append_newG w w0 hgd s x t ho base e i z size bytes ht hi hz hsize hby hzs hsz hb4 v n xs hs hown cs hcs h1 hx hw hn hbase h
theorem PbM.prof_short {x:PbM} (g:x.p.Good):∀ y ∈ x.loads,y.r.prof.length < 1000000000:=by
 intro y hy
 have h:=g.loads
 unfold allChk at h
 split at h
 ·cases h
 ·have hm:y.r ∈ x.p.loads:=List.mem_map.2 ⟨y,hy,rfl⟩
  obtain ⟨i,hi,he⟩:=List.mem_iff_getElem.1 hm
  have h1:allTo x.p.loads x.p.n (i+1)=0:=by
   by_cases h2:allTo x.p.loads x.p.n (i+1)=0
   ·exact h2
   ·rw [allTo_stay h2 hi] at h; exact absurd h h2
  rw [allTo] at h1
  split at h1
  ·by_cases h3:x.p.loads[i].chk x.p.n=0
   ·rw [he] at h3
    have:=(Ld.good h3).p1
    omega
   ·rw [loadErr_bad (by omega) h3] at h1; exact absurd h1 h3
  ·rename_i h2; exact absurd h1 h2
end Go.Proofs.YtnppngaabfhkpaaGreat
