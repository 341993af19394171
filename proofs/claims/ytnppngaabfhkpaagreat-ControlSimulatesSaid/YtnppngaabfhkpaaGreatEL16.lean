/-
  The walk of Uses of the program (layer 41).
-/
import Derived.Test.YtnppngaabfhkpaaGreatEL12
import Derived.Deep.RegionHeld3
import Derived.Deep.DrawnRows
import Derived.Lib.Hide
import Derived.Deep.QuietTactic
import Derived.BigQuiet
import Derived.WalkSpells
namespace Go.Proofs.YtnppngaabfhkpaaGreat
open Go.RowKit
def midRow (r:Ld) (s:Int) (j i:Nat):Int:=if i < j then r.use s (i:Int) else 0
theorem midRow_zero (r:Ld) (s:Int) (i:Nat):midRow r s 0 i=0:=by simp [midRow]
theorem midRow_succ (r:Ld) (s:Int) (j i:Nat):midRow r s (j+1) i=if i=j then r.use s (j:Int) else midRow r s j i:=by
 unfold midRow
 by_cases h:i=j
 ·subst h; simp
 ·rw [if_neg h]
  by_cases h2:i < j
  ·rw [if_pos h2,if_pos (by omega)]
  ·rw [if_neg h2,if_neg (by omega)]
theorem midRow_full (r:Ld) (s:Int) (n:Nat):(List.range n).map (midRow r s n)=oneRow r s n:=by
 unfold oneRow
 apply List.map_congr_left
 intro i hi
 rw [List.mem_range] at hi
 simp [midRow,hi]
theorem rowsOf_take {ls:List Ld} {ss:List Int} {n k:Nat} (h1:k < ls.length) (h2:k < ss.length):(rowsOf ls ss n).take (k+1)=(rowsOf ls ss n).take k ++ [oneRow ls[k] ss[k] n]:=by
 have h:k < (rowsOf ls ss n).length:=by simp [rowsOf]; omega
 rw [List.take_succ_eq_append_getElem h]
 simp [rowsOf]
theorem clamp_slots (n:Int):(n ≤ 0∧¬ 96 < n∧¬ 0 < n∧slotsN n=0) ∨ (96 < n∧slotsN n=96) ∨ (0 < n∧¬ 96 < n∧n=(slotsN n:Int)):=by
 unfold slotsN
 by_cases h:n < 0
 ·rw [if_pos h]; omega
 ·rw [if_neg h]
  by_cases h2:96 < n
  ·rw [if_pos h2]; omega
  ·rw [if_neg h2]; omega
set_option maxRecDepth 100000 in
set_option maxHeartbeats 8000000 in
theorem luses_any (A B:Option Addr) (c d:Nat) (l:List LdM) (ss:List Int) (n:Int) (w:World) (hA0:RLoads w A l) (hB0:RInts w B ss) (hpl0:∀ x ∈ l,x.r.prof.length < 1000000000)
  (hss0:∀ s ∈ ss, -9223372036854775808 ≤ s∧s ≤ 9223372036854775807) (hm:l.length ≤ 1000000) (hsl:ss.length ≤ 1000000000) (hd:ss.length ≤ d) :
  Calls Tryz.prog 44 #[.slice A l.length c,.slice B ss.length d,.int .i64 n] w (IntsOut (usesL (l.map LdM.r) ss n) w):=by
 have hA:=Lib.hid hA0
 have hB:=Lib.hid hB0
 have hss:=Lib.hid hss0
 have hpl:=Lib.hid hpl0
 have hN0:=slotsN_le n
 have hcs:=clamp_slots n
 have hgoal:Hid (usesL (l.map LdM.r) ss n=addL (rowsOf (l.map LdM.r) ss (slotsN n)) (slotsN n)):=(addL_rows _ _ _).symm
 rw [hgoal.out]
 clear hA0 hB0 hss0 hpl0 hgoal
 generalize slotsN n=N at *
 have hmk:=Lib.hid (run_make_row' (P:=Tryz.prog) 22 3 (.int .i64 0) 8 Tryz.underlying22 Tryz.infoInt rfl .i64 .i64 N (by omega) (by omega))
 obtain ⟨i0,hi,hz0,hz1,hz2⟩:=info_parts Tryz.infoInts
 obtain ⟨p,hp⟩:∃ p,p=l.length:=⟨_,rfl⟩
 obtain ⟨q,hq⟩:∃ q,q=ss.length:=⟨_,rfl⟩
 rw [← hp] at hm ⊢
 rw [← hq] at hsl hd ⊢
 have HP:=Lib.hid hp
 have HQ:=Lib.hid hq
 clear hp hq
 go_enter Tryz.func44,Tryz.ntmps44
 go_upto_region 1 with fail
 go_cut [2] (fun s2 wx => s2 = .int .i64 (N:Int)∧w=wx)
 case first =>
  rcases hcs with ⟨q1,q2,q3,rfl⟩ | ⟨q1,rfl⟩ | ⟨q1,q2,q3⟩
  ·go_wp2_with fail
   go_meet
   exact ⟨rfl,rfl⟩
  ·go_wp2_with fail
   go_meet
   exact ⟨rfl,rfl⟩
  ·have Q3:=Lib.hid q3
   clear q3
   go_wp2_with fail
   go_meet
   exact ⟨by rw [Q3.out],rfl⟩
 case rest =>
  clear hcs
  obtain ⟨rfl,rfl⟩:=hcut
  go_upto_region 3 with fail
  have hM:Hid (min p q=min l.length ss.length):=by show _=_; rw [HP.out,HQ.out]
  obtain ⟨M,hM1⟩:∃ M,M=min p q:=⟨_,rfl⟩
  go_cut [21,22,23] (fun s21 s22 s23 wx => s21 = .slice B M d∧s22 = .int .i64 (M:Int)∧s23 = .int .i64 0∧w=wx)
  case first =>
   by_cases h:(p:Int) < (q:Int)
   ·obtain rfl:M=p:=by omega
    have hpq:Hid (M < q):=by show _ < _; omega
    clear hM1
    go_wp2_with fail
    go_meet
    exact ⟨rfl,rfl,rfl,rfl⟩
   ·obtain rfl:M=q:=by omega
    clear hM1
    go_wp2_with fail
    go_meet
    exact ⟨rfl,rfl,rfl,rfl⟩
  case rest =>
   obtain ⟨rfl,rfl,rfl,rfl⟩:=hcut
   have hMp:M ≤ p:=by omega
   have hMq:M ≤ q:=by omega
   have HM:=Lib.hid hM1
   clear hM1 hM
   go_wp2_with fail
   go_loopw [7,23] (fun v i' wr => ∃ (k:Nat) (rows:List IntsM),k ≤ M∧i' = .int .i64 k∧Hid (rows.length=k∧rows.map IntsM.l=(rowsOf (l.map LdM.r) ss N).take k)∧Made wr w.heap.size v rows∧Below w.heap.size w wr)
    (fun _ i' _ => M - (intOf i').toNat)
   case atStart => exact ⟨0, [],by omega,rfl,⟨rfl,by simp⟩,Made.nil _ _,Below.refl _ _⟩
   case round =>
    obtain ⟨k,rows,hkM,rfl,hrows,hmade0,hBw⟩:=hrel
    have hmade:=Lib.hid hmade0
    clear hmade0
    obtain ⟨wo,hwo⟩:∃ wo:World,wo=wr:=⟨_,rfl⟩
    subst hwo
    by_cases hlt:k < M
    ·have hkp:k < l.length:=by rw [← HP.out]; omega
     have hkq:k < ss.length:=by rw [← HQ.out]; omega
     have HL:=Lib.hid (hA.out.below hBw)
     obtain ⟨bs,os,hBe,hbs,y0⟩:=(hB.out.below hBw).at' hkq
     subst hBe
     have hsb:=hss.out _ (List.getElem_mem hkq)
     have hx:Hid ((l.map LdM.r)[k]'(by simpa using hkp)=l[k].r):=by show _=_; simp
     have htk:=Lib.hid (rowsOf_take (ls:=l.map LdM.r) (ss:=ss) (n:=N) (k:=k) (by simpa using hkp) hkq)
     rw [hx.out] at htk
     clear hx
     have huse:=Lib.hid (fun (i:Int) W (h:RInts W l[k].A l[k].r.prof) => luse_any l[k].r l[k].A l[k].c ss[k] i W h (hpl.out _ (List.getElem_mem hkp)) hsb.1 hsb.2)
     simp only [Ld.v] at huse
     have HAT:=Lib.hid (fun W (h:RLoads W A l) => h.at' hkp)
     have HPR:=Lib.hid (fun W (h:RLoads W A l) => h.prof hkp)
     generalize ss[k]=s at *
     generalize l[k]=x at *
     have hmk1:=hmk.out
     have hplx:Hid True:=trivial
     go_wp2_with fail
     clear y0 hmk1
     have hrow0:(wo.alloc (.cells (madeCells #[.int .i64 0] N) 3)).rowIs wo.heap.size 3 N (fun i => .int .i64 (midRow x.r s 0 i)):=by
      simp only [midRow_zero]
      exact World.rowIs_made _ _ _ _
     have hB0:Below wo.heap.size wo (wo.alloc (.cells (madeCells #[.int .i64 0] N) 3)):=(Below.refl _ _).alloc (Nat.le_refl _) _
     go_loopw [32] (fun i' wr => ∃ j:Nat,j ≤ N∧i' = .int .i64 j∧wr.rowIs wo.heap.size 3 N (fun i => .int .i64 (midRow x.r s j i))∧Below wo.heap.size wo wr)
      (fun i' _ => N - (intOf i').toNat)
     case atStart => exact ⟨0,by omega,rfl,hrow0,hB0⟩
     case round =>
      clear hrow0 hB0
      obtain ⟨j,hjN,rfl,hr1,hBj⟩:=hrel
      have hr:=Lib.hid hr1
      have hgt:=hr1.lt
      clear hr1
      by_cases hlj:j < N
      ·have HLj:=Lib.hid (HL.out.below hBj)
       obtain ⟨b,of,hAe,hb,z0,z1,z2,z3⟩:=HAT.out _ HLj.out
       subst hAe
       go_wp2_with fail
       refine (huse.out (j:Int) _ (HPR.out _ HLj.out) (by omega) (by omega)).mono ?_
       rintro e w1 ⟨rfl,hb1⟩
       have hr1:=Lib.hid (row_below hr.out hb1)
       have hB1:Below wo.heap.size wo w1:=hBj.trans (hb1.mono hBj.size)
       have c1:=hr1.out.cell hlj
       have c2:=hr1.out.frozen j
       have hgt1:=hr1.out.lt
       clear hb1 z0 z1 z2 z3
       go_wp2_with fail
       go_roundw
       case rel =>
        refine ⟨j+1,by omega,by go_num,?_,hB1.setCell (by simp) _⟩
        refine (hr1.out.set j _).congr fun i hi => ?_
        rw [midRow_succ]
        by_cases e:i=j
        ·rw [if_pos e,if_pos e]
        ·rw [if_neg e,if_neg e]
       case measure => simp [intOf]; omega
      ·obtain rfl:j=N:=by omega
       have hone:Hid (RInts wr (some ⟨wo.heap.size,0,none⟩) (oneRow x.r s j)):=by
        have h:=rowInts hr.out
        rwa [midRow_full] at h
       have hm1:=Lib.hid (hmade.out.below hBj)
       have hown:=Lib.hid hm1.out.own
       have hfr:Hid (∀ g,u7 ≠ u7 ∨ Value.ownBlock u7=some g→g < wo.heap.size):=by
        intro g hg
        rcases hg with hg | hg
        ·exact absurd rfl hg
        ·exact (hmade.out.own.lt g hg).2
       have hbs1:=hBw.size
       have hbs2:=hBj.size
       have hrk:rows.length ≤ 1000000000:=by rw [hrows.out.1]; omega
       go_wp2_with (at_builtin; refine wpList_append_newG _ _ rfl _ _ 79 rfl w.heap.size 22 i0 (.slice none 0 0) 1 24 Tryz.underlying79 hi hz0 hz1 hz2 rfl (by decide) (by decide) _ _ _ rfl hown.out #[.slice (some ⟨wo.heap.size,0,none⟩) j j] rfl (by simp [Value.oneCell']) rfl rfl hrk (by omega) ?_)
       intro v' w5 hown5 hg5 hv5
       have hmade5:Hid (Made w5 w.heap.size v' (rows ++ [⟨some ⟨wo.heap.size,0,none⟩,j,oneRow x.r s j⟩])):=by
        refine hm1.out.push hone.out ?_ (by simpa [IntsM.v,oneRow_length] using hown5) hg5 hv5
        intro ad e
        injection e with e
        subst e
        refine ⟨hbs1,fun hh => ?_,hgt⟩
        have:=hfr.out _ (.inr hh.symm)
        exact absurd this (by simp)
       have hB5:Hid (Below w.heap.size w w5):=by
        have hB6:Below w.heap.size w wr:=hBw.trans (hBj.mono hbs1)
        exact hB6.grown hg5 (by omega) (fun g hg => (hown.out.lt g hg).1)
       have hrows5:Hid ((rows ++ [(⟨some ⟨wo.heap.size,0,none⟩,j,oneRow x.r s j⟩:IntsM)]).length=k+1∧(rows ++ [(⟨some ⟨wo.heap.size,0,none⟩,j,oneRow x.r s j⟩:IntsM)]).map IntsM.l=(rowsOf (l.map LdM.r) ss j).take (k+1)):=by
        refine ⟨by simp [hrows.out.1],?_⟩
        rw [htk.out,List.map_append,hrows.out.2]
        rfl
       clear hown5 hg5 hv5
       go_wp2_with fail
       go_roundw
       case rel => exact ⟨k+1,_,by omega,by go_num,hrows5,hmade5.out,hB5.out⟩
       case measure => simp [intOf]; omega
    ·obtain rfl:k=M:=by omega
     obtain ⟨A',c',rfl,hrr⟩:=hmade.out.rrows
     have hrows2:Hid (rows.map IntsM.l=rowsOf (l.map LdM.r) ss N):=by
      show _=_
      rw [hrows.out.2,List.take_of_length_le]
      simp [rowsOf]
      have:=HP.out; have:=HQ.out; have:=HM.out; omega
     have hadd:=Lib.hid (add_any N A' c' rows wo hrr (by omega) (fun y hy => by
       have h1:y.l ∈ rows.map IntsM.l:=List.mem_map_of_mem hy
       rw [hrows2.out] at h1
       simp only [rowsOf,List.mem_map] at h1
       obtain ⟨z,_,hz⟩:=h1
       rw [← hz,oneRow_length]) (fun y hy v hv => by
       rw [hrows2.out] at hy
       simp only [rowsOf,List.mem_map] at hy
       obtain ⟨z,_,rfl⟩:=hy
       exact oneRow_bd _ _ _ v hv) (by rw [hrows.out.1]; omega))
     rw [hrows2.out] at hadd
     clear hrr
     go_wp2_with fail
     refine hadd.out.mono ?_
     rintro e w1 ⟨A1,c1,rfl,hr1,hf1,hb1⟩
     have hfin:Hid (IntsOut (addL (rowsOf (l.map LdM.r) ss N) N) w (.returned (.slice A1 (addL (rowsOf (l.map LdM.r) ss N) N).length c1)) w1) :=
      ⟨A1,c1,rfl,hr1,fun ad e => Nat.le_trans hBw.size (hf1 ad e),hBw.trans (hb1.mono hBw.size)⟩
     clear hr1 hf1 hb1
     go_wp2_with fail
     go_ret
     exact hfin.out
end Go.Proofs.YtnppngaabfhkpaaGreat
namespace Go.Proofs.YtnppngaabfhkpaaGreat
open Go.RowKit
attribute [local go_sem ↓] Go.wp_at_zero Go.wp_at_succ
theorem cell_below {p:Addr} {x:Value} {W W':World} (h:W.cell? p=some x) (hb:Below W.heap.size W W'):W'.cell? p=some x:=(hb.cell (World.block_lt_of_cell? _ _ h)).trans h
theorem slots_lt {n:Int} {i:Nat} (h:i < slotsN n):(i:Int) < n∧(i:Int) < 96:=by
 unfold slotsN at h
 split at h
 ·omega
 ·split at h <;> omega
theorem slots_end {n:Int} {i:Nat} (h:i=slotsN n):¬ (i:Int) < n ∨ ((i:Int) < n∧¬ (i:Int) < 96):=by
 unfold slotsN at h
 split at h
 ·omega
 ·split at h <;> omega
set_option maxRecDepth 100000 in
set_option maxHeartbeats 8000000 in
theorem rluses_any (A B:Option Addr) (c d:Nat) (l:List LdM) (ss:List Int) (n:Int) (w:World) (hA0:RLoads w A l) (hB0:RInts w B ss) (hpl0:∀ x ∈ l,x.r.prof.length < 1000000000)
  (hss0:∀ s ∈ ss, -9223372036854775808 ≤ s∧s ≤ 9223372036854775807) (hm:l.length ≤ 1000000) :
  Calls Tryz.prog 105 #[.slice A l.length c,.slice B ss.length d,.int .i64 n] w (IntsOut (usesL (l.map LdM.r) ss n) w):=by
 have hA:=Lib.hid hA0
 have hB:=Lib.hid hB0
 have hss:=Lib.hid hss0
 have hpl:=Lib.hid hpl0
 have hN0:=slotsN_le n
 have hlt:=Lib.hid (fun i => slots_lt (n:=n) (i:=i))
 have hend:=Lib.hid (fun i => slots_end (n:=n) (i:=i))
 have hbd:=Lib.hid (useTo_bd (l.map LdM.r) ss)
 have hgoal:Hid (usesL (l.map LdM.r) ss n=(List.range (slotsN n)).map fun (i:Nat) => useTo (l.map LdM.r) ss i (min l.length ss.length)):=by show _=_; simp [usesL]
 rw [hgoal.out]
 clear hA0 hB0 hss0 hpl0 hgoal
 generalize slotsN n=N at *
 obtain ⟨i0,hi,hz0,hz1,hz2⟩:=info_parts Tryz.infoInt
 obtain ⟨p,hp⟩:∃ p,p=l.length:=⟨_,rfl⟩
 obtain ⟨q,hq⟩:∃ q,q=ss.length:=⟨_,rfl⟩
 rw [← hp] at hm ⊢
 rw [← hq]
 have HP:=Lib.hid hp
 have HQ:=Lib.hid hq
 clear hp hq
 obtain ⟨M,hM⟩:∃ M,M=min p q:=⟨_,rfl⟩
 have hMp:M ≤ p:=by omega
 have hMq:M ≤ q:=by omega
 have HM:=Lib.hid hM
 rw [← hM]
 clear hM
 go_enter Tryz.func105,Tryz.ntmps105
 go_wp2_with fail
 go_loopw [7,8] (fun v i' wr => ∃ i:Nat,i ≤ N∧i' = .int .i64 i∧wr.ownsRow w.heap.size 3 1 v i (ints ((List.range i).map fun (i:Nat) => useTo (l.map LdM.r) ss i M))∧Below w.heap.size w wr)
  (fun _ i' _ => N - (intOf i').toNat)
 case atStart => exact ⟨0,by omega,rfl,World.ownsRow_nil _ _ _ _,Below.refl _ _⟩
 case round =>
  obtain ⟨i,hiN,rfl,hown0,hBw⟩:=hrel
  have hown:=Lib.hid hown0
  clear hown0
  obtain ⟨wo,hwo⟩:∃ wo:World,wo=wr:=⟨_,rfl⟩
  subst hwo
  by_cases hiN2:i < N
  ·obtain ⟨t1,t2⟩:=hlt.out i hiN2
   go_wp2_with fail
   go_loopw [9,10] (fun s' i' wr => ∃ k:Nat,k ≤ M∧i' = .int .i64 k∧s' = .int .i64 (useTo (l.map LdM.r) ss i k)∧Below wo.heap.size wo wr)
    (fun _ i' _ => M - (intOf i').toNat)
   case atStart => exact ⟨0,by omega,rfl,by rw [useTo_zero],Below.refl _ _⟩
   case round =>
    obtain ⟨k,hkM,rfl,rfl,hBk⟩:=hrel
    obtain ⟨b1,b2⟩:=hbd.out i k
    by_cases hlt2:k < M
    ·have hkp:k < l.length:=by rw [← HP.out]; omega
     have hkq:k < ss.length:=by rw [← HQ.out]; omega
     have hB6:Below w.heap.size w wr:=hBw.trans (hBk.mono hBw.size)
     have HL:=Lib.hid (hA.out.below hB6)
     obtain ⟨bs,os,hBe,hbs,y0⟩:=(hB.out.below hB6).at' hkq
     subst hBe
     obtain ⟨b,of,hAe,hb,z0,z1,z2,z3⟩:=HL.out.at' hkp
     subst hAe
     have hsb:=hss.out _ (List.getElem_mem hkq)
     have hsu:=useTo_succ (ls:=l.map LdM.r) (ss:=ss) (k:=k) (by simpa using hkp) hkq i
     rw [List.getElem_map] at hsu
     have HU:=Lib.hid hsu
     have hub:=l[k].r.use_bd ss[k] i
     have huse:=Lib.hid (fun W (h:RInts W l[k].A l[k].r.prof) => rluse_any l[k].r l[k].A l[k].c ss[k] i W h (hpl.out _ (List.getElem_mem hkp)) hsb.1 hsb.2 (by omega) (by omega))
     simp only [Ld.v] at huse
     have HPR:=Lib.hid (HL.out.prof hkp)
     clear hsu
     generalize ss[k]=s at *
     generalize l[k]=x at *
     generalize x.r.use s i=u at *
     generalize useTo (l.map LdM.r) ss i k=a at *
     have HK:Hid (∀ W,Below wr.heap.size wr W→Below wr.heap.size wr W∧W.cell? ⟨b,of+k * 4,none⟩=some (.string x.r.name)∧W.cell? ⟨b,of+k * 4+1,none⟩=some (.slice x.A x.r.prof.length x.c)∧W.cell? ⟨b,of+k * 4+2,none⟩=some (.int .i64 x.r.early)∧W.cell? ⟨b,of+k * 4+3,none⟩=some (.int .i64 x.r.late)∧W.cell? ⟨bs,os+k,none⟩=some (.int .i64 s)):=fun W hb => ⟨hb,cell_below z0 hb,cell_below z1 hb,cell_below z2 hb,cell_below z3 hb,cell_below y0 hb⟩
     have i1:(0:Int) ≤ (k:Int):=by omega
     have i2:(k:Int) < (p:Int):=by omega
     have i3:(k:Int) < (q:Int):=by omega
     have w1:IntKind.i64.wrap (a+u)=a+u:=IntWalk.i64_in _ (by omega)
     clear z0 z1 z2 z3 y0
     go_wp2_with fail
     go_region_held3 (fun w' => Below wr.heap.size wr w'∧w'.cell? ⟨b,of+k * 4,none⟩=some (.string x.r.name)∧w'.cell? ⟨b,of+k * 4+1,none⟩=some (.slice x.A x.r.prof.length x.c)∧w'.cell? ⟨b,of+k * 4+2,none⟩=some (.int .i64 x.r.early)∧w'.cell? ⟨b,of+k * 4+3,none⟩=some (.int .i64 x.r.late)∧w'.cell? ⟨bs,os+k,none⟩=some (.int .i64 s))
      (first | exact HK.out _ (Below.refl _ _) | exact HK.out _ (Below.drew (Below.refl _ _)) | exact HK.out _ (Below.drew (by assumption)) | exact HK.out _ (Below.drew (And.left (by assumption))) | exact HK.out _ (Below.trans (by first | assumption | exact And.left (by assumption) | exact Below.refl _ _ | exact Below.drew (Below.refl _ _) | exact Below.drew (by assumption) | exact Below.drew (And.left (by assumption))) (Below.mono (by assumption) (Below.size (by first | assumption | exact And.left (by assumption) | exact Below.refl _ _ | exact Below.drew (Below.refl _ _) | exact Below.drew (by assumption) | exact Below.drew (And.left (by assumption)))))))
      (first | (go_at_call 111; refine (huse.out _ (HPR.out.below (by first | assumption | exact And.left (by assumption) | exact Below.refl _ _ | exact Below.drew (Below.refl _ _) | exact Below.drew (by assumption) | exact Below.drew (And.left (by assumption))))).mono ?_; rintro e w6 ⟨rfl,hb6⟩))
     go_wp2_with fail
     go_roundw
     case rel => exact ⟨k+1,by omega,by go_num,by rw [HU.out],hBk.trans (Below.mono (by first | assumption | exact And.left (by assumption) | exact Below.refl _ _ | exact Below.drew (Below.refl _ _) | exact Below.drew (by assumption) | exact Below.drew (And.left (by assumption))) hBk.size)⟩
     case measure => simp [intOf]; omega
    ·obtain rfl:k=M:=by omega
     have hown1:=Lib.hid (own_below hown.out hBk)
     have hsz:=hBk.size
     have hsz2:=hBw.size
     have hcs:¬ (k:Int) < (p:Int) ∨ ((k:Int) < (p:Int)∧¬ (k:Int) < (q:Int)):=by have:=HM.out; omega
     have hsn:Hid (ints ((List.range (i+1)).map fun (i:Nat) => useTo (l.map LdM.r) ss i k)=ints ((List.range i).map fun (i:Nat) => useTo (l.map LdM.r) ss i k) ++ [.int .i64 (useTo (l.map LdM.r) ss i k)]):=by
      show _=_
      rw [List.range_succ,List.map_append,ints_append]; rfl
     generalize useTo (l.map LdM.r) ss i k=a at *
     rcases hcs with q1 | ⟨q1,q2⟩
     all_goals
      go_wp2_with (at_builtin; refine wpList_append_new _ _ rfl _ _ 22 rfl w.heap.size 3 i0 (.int .i64 0) 1 8 Tryz.underlying22 hi hz0 hz1 hz2 rfl (by decide) (by decide) _ _ _ rfl hown1.out #[.int .i64 a] rfl (one_int _ _) rfl rfl (by omega) (by omega) ?_)
      intro v' w5 hown5 hb5
      have hown6:Hid (w5.ownsRow w.heap.size 3 1 v' (i+1) (ints ((List.range (i+1)).map fun (i:Nat) => useTo (l.map LdM.r) ss i k))):=by
       show World.ownsRow _ _ _ _ _ _ _
       rw [hsn.out]; exact hown5
      have hB5:Hid (Below w.heap.size w w5):=(hBw.trans (hBk.mono hsz2)).trans hb5
      clear hown5 hb5
      go_wp2_with fail
      go_roundw
      case rel => exact ⟨i+1,by omega,by go_num,hown6.out,hB5.out⟩
      case measure => simp [intOf]; omega
  ·obtain rfl:i=N:=by omega
   have hcs:=hend.out i rfl
   have hfin:=Lib.hid (ints_out hown.out (Nat.le_refl _) hBw)
   rcases hcs with q1 | ⟨q1,q2⟩
   all_goals
    go_wp2_with fail
    go_ret
    exact hfin.out
end Go.Proofs.YtnppngaabfhkpaaGreat
namespace Go.Proofs.YtnppngaabfhkpaaGreat
open Go.RowKit
theorem RInts.none {w:World} {l:List Int} (h:RInts w none l):l = []:=by
 rcases Nat.eq_zero_or_pos l.length with h0 | h0
 ·exact List.eq_nil_of_length_eq_zero h0
 ·obtain ⟨_,e,_⟩:=h.2 h0
  cases e
end Go.Proofs.YtnppngaabfhkpaaGreat
