/-
  The walks of layer 41 (load): All of the program.
-/
import Derived.Test.YtnppngaabfhkpaaGreatEL8
import Derived.Test.YtnppngaabfhkpaaGreatEBPlain
import Derived.Deep.DeepCutAuto
namespace Go.Proofs.YtnppngaabfhkpaaGreat
open Go.RowKit
theorem str_ne {a b:ByteArray} (h:a ≠ b):(a.toList == b.toList)=false:=by
 rw [beq_eq_false_iff_ne]
 intro e
 rw [ByteArray.toList_eq,ByteArray.toList_eq] at e
 exact h (ByteArray.ext (Array.ext' e))
set_option maxRecDepth 100000 in
set_option maxHeartbeats 4000000 in
theorem lall_any (A:Option Addr) (c:Nat) (l:List LdM) (n:Int) (w:World) (hA0:RLoads w A l) (hnm:∀ x ∈ l,x.r.name.size ≤ maxLen) (hpl:∀ x ∈ l,x.r.prof.length ≤ maxLen) (hc:l.length ≤ c) :
  Calls Tryz.prog 42 #[.slice A l.length c,.int .i64 n] w fun e w' => e = .returned (.int .i64 (allChk (l.map LdM.r) n))∧Below w.heap.size w w':=by
 have hA:=Lib.hid hA0
 clear hA0
 obtain ⟨m,hn⟩:∃ m,m=l.length:=⟨_,rfl⟩
 have HN:=Lib.hid hn
 rw [← hn] at hc ⊢
 by_cases h8:(4:Int) < (m:Int)
 ·have hz:Hid (allChk (l.map LdM.r) n=3):=by show _=_; unfold allChk; rw [if_pos (by simp; omega)]
  clear hn
  go_enter Tryz.func42,Tryz.ntmps42
  go_wp2_with fail
  go_ret
  exact ⟨ret_int hz.out.symm,Below.refl _ _⟩
 ·clear hn
  go_enter Tryz.func42,Tryz.ntmps42
  go_wp2_with fail
  go_loopw [15] (fun i' wr => ∃ k:Nat,k ≤ m∧i' = .int .i64 k∧Hid (allTo (l.map LdM.r) n k=0)∧Below w.heap.size w wr)
   (fun i' _ => m - (intOf i').toNat)
  case atStart => exact ⟨0,by omega,rfl,rfl,Below.refl _ _⟩
  case round =>
   obtain ⟨k,hkm,rfl,hto,hB⟩:=hrel
   by_cases hlt:k < m
   ·have hkl:k < l.length:=by rw [← HN.out]; exact hlt
    have hkR:k < (l.map LdM.r).length:=by rw [List.length_map]; exact hkl
    have hR:(l.map LdM.r)[k]=l[k].r:=by simp
    have HL:=Lib.hid (hA.out.below hB)
    obtain ⟨b,of,hAe,hb,z0,z1,z2,z3⟩:=HL.out.at' hkl
    subst hAe
    have hprof:=Lib.hid (HL.out.prof hkl)
    have hck:=Lib.hid (fun W (h:RInts W l[k].A l[k].r.prof) => lcheck_any l[k].r l[k].A l[k].c n W h (hnm _ (List.getElem_mem hkl)) (hpl _ (List.getElem_mem hkl)))
    simp only [Ld.v] at hck
    have HR:=Lib.hid hR
    clear hR
    have hlen:=hpl _ (List.getElem_mem hkl)
    generalize l[k]=x at *
    by_cases he:x.r.chk n=0
    ·rw [he] at hck
     have hE:Hid ((l.map LdM.r)[k].chk n=0):=by show _=_; rw [HR.out]; exact he
     clear he
     go_wp2_with fail
     refine (hck.out _ (hprof.out.alloc _)).mono ?_
     rintro e w1 ⟨rfl,hb1⟩
     have hS:=lds_first (r:=x.r) (A:=x.A) (c:=x.c) hb1
     obtain ⟨y0,y1,y2,y3⟩:=hS.cells
     have hsz:=hS.size
     have hBw:=hB.size
     clear hb1 z0 z1 z2 z3
     go_wp2_with fail
     clear y0 y1 y2 y3
     obtain ⟨wo,hwo⟩:∃ wo:World,wo=wr:=⟨_,rfl⟩
     subst hwo
     go_loopw [30] (fun i' wr => ∃ j:Nat,j ≤ k∧i' = .int .i64 j∧Hid (¬ dupTo (l.map LdM.r) k j)∧LdS x.r x.A x.c wo wr)
      (fun i' _ => k - (intOf i').toNat)
     case atStart => exact ⟨0,by omega,rfl,dupTo_zero _ _,hS⟩
     case round =>
      obtain ⟨j,hjk,rfl,hdup,hSj⟩:=hrel
      have hszj:=hSj.size
      have hltw:wo.heap.size < wr.heap.size:=by omega
      have hnew:∀ o,(wr.alloc o).cell? ⟨wo.heap.size,0,none⟩=wr.cell? ⟨wo.heap.size,0,none⟩:=fun o => World.cell?_alloc_lt wr o _ hltw
      obtain ⟨y0,y1,y2,y3⟩:=hSj.cells
      by_cases hlj:j < k
      ·have hjl:j < l.length:=by omega
       have hjR:j < (l.map LdM.r).length:=by rw [List.length_map]; exact hjl
       have HLj:=Lib.hid (HL.out.below hSj.out)
       obtain ⟨b',of',hAe',hb',z0,z1,z2,z3⟩:=HLj.out.at' hjl
       injection hAe' with hAe'
       injection hAe' with h1 h2
       subst h1 h2
       have hdn:=Lib.hid (dupTo_succ hkR hjR hdup.out)
       have hRj:Hid ((l.map LdM.r)[j].name=l[j].r.name):=by show _=_; simp
       have hlenj:=hpl _ (List.getElem_mem hjl)
       by_cases hnn:l[j].r.name=x.r.name
       ·have hz:Hid (allChk (l.map LdM.r) n=9):=by
         have h9:=loadErr_dup hkR hE.out hlj (by rw [hRj.out,HR.out]; exact hnn)
         show _=_
         rw [allTo_hit hto.out (by rw [h9]; decide) hkR (by rw [List.length_map, ← HN.out]; omega),h9]
        rw [hnn] at z0
        clear hnn hdn hRj
        generalize l[j]=v at *
        go_wp2_with fail
        go_ret
        exact ⟨ret_int hz.out.symm,hB.trans (((hSj.out).alloc (by omega) _).mono hB.size)⟩
       ·have hd':Hid (¬ dupTo (l.map LdM.r) k (j+1)):=hdn.out (by rw [hRj.out,HR.out]; exact hnn)
        have hne:=str_ne (fun h:x.r.name=l[j].r.name => hnn h.symm)
        clear hnn hdn hRj
        generalize l[j]=v at *
        go_wp2_with fail
        go_roundw
        case rel => exact ⟨j+1,by omega,by go_num,hd',hSj.mk' ((Below.refl _ _).alloc (Nat.le_refl _) _)⟩
        case measure => simp [intOf]; omega
      ·have hz:Hid (allTo (l.map LdM.r) n (k+1)=0):=by
        obtain rfl:j=k:=by omega
        exact allTo_go hto.out (loadErr_ok hkR hE.out hdup.out)
       go_wp2_with fail
       go_roundw
       case rel => exact ⟨k+1,by omega,by go_num,hz,hB.trans (hSj.out.mono hB.size)⟩
       case measure => simp [intOf]; omega
    ·have hz:Hid (allChk (l.map LdM.r) n=x.r.chk n):=by
      have he':(l.map LdM.r)[k].chk n ≠ 0:=by rw [HR.out]; exact he
      have h9:=loadErr_bad hkR he'
      show _=_
      rw [allTo_hit hto.out (by rw [h9]; exact he') hkR (by rw [List.length_map, ← HN.out]; omega),h9,HR.out]
     have hne:(x.r.chk n != 0)=true:=by simpa using he
     clear he
     generalize x.r.chk n=e0 at *
     go_wp2_with fail
     refine (hck.out _ (hprof.out.alloc _)).mono ?_
     rintro e w1 ⟨rfl,hb1⟩
     have hS:=lds_first (r:=x.r) (A:=x.A) (c:=x.c) hb1
     clear hb1 z0 z1 z2 z3
     go_wp2_with fail
     go_ret
     exact ⟨ret_int hz.out.symm,hB.trans (hS.out.mono hB.size)⟩
   ·have hz:Hid (allChk (l.map LdM.r) n=0):=by
     show _=_
     unfold allChk
     rw [if_neg (by rw [List.length_map, ← HN.out]; omega),List.length_map, ← HN.out,show m=k by omega]
     exact hto.out
    go_wp2_with fail
    go_ret
    exact ⟨ret_int hz.out.symm,hB⟩
set_option maxRecDepth 100000 in
set_option maxHeartbeats 4000000 in
theorem rlall_any (A:Option Addr) (c:Nat) (l:List LdM) (n:Int) (w:World) (hA0:RLoads w A l) (hnm:∀ x ∈ l,x.r.name.size ≤ maxLen) :
  Calls Tryz.prog 20 #[.slice A l.length c,.int .i64 n] w fun e w' => e = .returned (.int .i64 (allChk (l.map LdM.r) n))∧Below w.heap.size w w':=by
 have hA:=Lib.hid hA0
 clear hA0
 obtain ⟨m,hn⟩:∃ m,m=l.length:=⟨_,rfl⟩
 have HN:=Lib.hid hn
 rw [← hn]
 by_cases h8:(4:Int) < (m:Int)
 ·have hz:Hid (allChk (l.map LdM.r) n=3):=by show _=_; unfold allChk; rw [if_pos (by simp; omega)]
  clear hn
  go_enter Tryz.func20,Tryz.ntmps20
  go_wp2_with fail
  go_ret
  exact ⟨ret_int hz.out.symm,Below.refl _ _⟩
 ·clear hn
  go_enter Tryz.func20,Tryz.ntmps20
  go_wp2_with fail
  go_loopw [5] (fun i' wr => ∃ k:Nat,k ≤ m∧i' = .int .i64 k∧Hid (allTo (l.map LdM.r) n k=0)∧Below w.heap.size w wr)
   (fun i' _ => m - (intOf i').toNat)
  case atStart => exact ⟨0,by omega,rfl,rfl,Below.refl _ _⟩
  case round =>
   obtain ⟨k,hkm,rfl,hto,hB⟩:=hrel
   by_cases hlt:k < m
   ·have hkl:k < l.length:=by rw [← HN.out]; exact hlt
    have hkR:k < (l.map LdM.r).length:=by rw [List.length_map]; exact hkl
    have hR:(l.map LdM.r)[k]=l[k].r:=by simp
    have HL:=Lib.hid (hA.out.below hB)
    obtain ⟨b,of,hAe,hb,z0,z1,z2,z3⟩:=HL.out.at' hkl
    subst hAe
    have hprof:=Lib.hid (HL.out.prof hkl)
    have hck:=Lib.hid (fun W (h:RInts W l[k].A l[k].r.prof) => rlcheck_any l[k].r l[k].A l[k].c n W h (hnm _ (List.getElem_mem hkl)))
    simp only [Ld.v] at hck
    have HR:=Lib.hid hR
    clear hR
    have hBw:=hB.size
    generalize l[k]=x at *
    by_cases he:x.r.chk n=0
    ·rw [he] at hck
     have hE:Hid ((l.map LdM.r)[k].chk n=0):=by show _=_; rw [HR.out]; exact he
     clear he
     go_wp2_with fail
     refine (hck.out _ hprof.out).mono ?_
     rintro e w1 ⟨rfl,hb1⟩
     have hk1:=(bcell hb1).1
     have y0:w1.cell? ⟨b,of+k * 4,none⟩=some (.string x.r.name):=(hk1 _ _ hb).trans z0
     have HL1:=Lib.hid (HL.out.below hb1)
     have hB1:Below w.heap.size w w1:=hB.trans (hb1.mono hBw)
     clear hb1 z0 z1 z2 z3 hk1
     go_wp2_with fail
     clear y0
     go_loopw [6] (fun i' wr => ∃ j a:Nat,j ≤ k∧i' = .int .i64 j∧Hid (¬ dupTo (l.map LdM.r) k j)∧wr=w1.drewN a)
      (fun i' _ => k - (intOf i').toNat)
     case atStart => exact ⟨0,0,by omega,rfl,dupTo_zero _ _,rfl⟩
     case round =>
      obtain ⟨j,a,hjk,rfl,hdup,rfl⟩:=hrel
      obtain ⟨b',of',hAe',hb',y0,_,_,_⟩:=HL1.out.at' hkl
      injection hAe' with hAe'
      injection hAe' with h1 h2
      subst h1 h2
      by_cases hlj:j < k
      ·have hjl:j < l.length:=by omega
       have hjR:j < (l.map LdM.r).length:=by rw [List.length_map]; exact hjl
       obtain ⟨b',of',hAe',hb',z0,z1,z2,z3⟩:=HL1.out.at' hjl
       injection hAe' with hAe'
       injection hAe' with h1 h2
       subst h1 h2
       have hdn:=Lib.hid (dupTo_succ hkR hjR hdup.out)
       have hRj:Hid ((l.map LdM.r)[j].name=l[j].r.name):=by show _=_; simp
       have i1:(0:Int) ≤ (j:Int):=by omega
       have i2:(j:Int) < (m:Int):=by omega
       have i3:(0:Int) ≤ (k:Int):=by omega
       have i4:(k:Int) < (m:Int):=by omega
       have y0':w1.cell? ⟨b,of+k * 4,none⟩=some (.string x.r.name):=by rw [y0]; congr 2; have:=HR.out; rw [← HR.out]; simp
       clear y0
       by_cases hnn:l[j].r.name=x.r.name
       ·have hz:Hid (allChk (l.map LdM.r) n=9):=by
         have h9:=loadErr_dup hkR hE.out hlj (by rw [hRj.out,HR.out]; exact hnn)
         show _=_
         rw [allTo_hit hto.out (by rw [h9]; decide) hkR (by rw [List.length_map, ← HN.out]; omega),h9]
        rw [hnn] at z0
        clear hnn hdn hRj z1 z2 z3
        generalize l[j]=v at *
        go_wp2_with fail
        go_quiet (fail)
        go_wp2_with fail
        go_ret
        exact ⟨ret_int hz.out.symm,below_drewN (below_drewN hB1 _) _⟩
       ·have hd':Hid (¬ dupTo (l.map LdM.r) k (j+1)):=hdn.out (by rw [hRj.out,HR.out]; exact hnn)
        have hne:=str_ne hnn
        clear hnn hdn hRj z1 z2 z3
        generalize l[j]=v at *
        go_wp2_with fail
        go_quiet (fail)
        go_wp2_with fail
        go_roundw
        case rel => exact ⟨j+1,_,by omega,by go_num,hd',rfl⟩
        case measure => simp [intOf]; omega
      ·have hz:Hid (allTo (l.map LdM.r) n (k+1)=0):=by
        obtain rfl:j=k:=by omega
        exact allTo_go hto.out (loadErr_ok hkR hE.out hdup.out)
       clear y0
       go_wp2_with fail
       go_roundw
       case rel => exact ⟨k+1,by omega,by go_num,hz,below_drewN hB1 _⟩
       case measure => simp [intOf]; omega
    ·have hz:Hid (allChk (l.map LdM.r) n=x.r.chk n):=by
      have he':(l.map LdM.r)[k].chk n ≠ 0:=by rw [HR.out]; exact he
      have h9:=loadErr_bad hkR he'
      show _=_
      rw [allTo_hit hto.out (by rw [h9]; exact he') hkR (by rw [List.length_map, ← HN.out]; omega),h9,HR.out]
     have hne:(x.r.chk n != 0)=true:=by simpa using he
     clear he
     generalize x.r.chk n=e0 at *
     go_wp2_with fail
     refine (hck.out _ hprof.out).mono ?_
     rintro e w1 ⟨rfl,hb1⟩
     obtain ⟨hk1,_⟩:=bcell hb1
     have y0:=(hk1 _ _ hb).trans z0
     have y1:=(hk1 _ _ hb).trans z1
     have y2:=(hk1 _ _ hb).trans z2
     have y3:=(hk1 _ _ hb).trans z3
     have hp1:=Lib.hid (hprof.out.below hb1)
     have hB1:Below w.heap.size w w1:=hB.trans (hb1.mono hBw)
     clear hb1 z0 z1 z2 z3 hk1
     go_wp2_with fail
     refine (hck.out _ hp1.out).mono ?_
     rintro e w2 ⟨rfl,hb2⟩
     go_wp2_with fail
     go_ret
     exact ⟨ret_int hz.out.symm,hB1.trans (hb2.mono hB1.size)⟩
   ·have hz:Hid (allChk (l.map LdM.r) n=0):=by
     show _=_
     unfold allChk
     rw [if_neg (by rw [List.length_map, ← HN.out]; omega),List.length_map, ← HN.out,show m=k by omega]
     exact hto.out
    go_wp2_with fail
    go_ret
    exact ⟨ret_int hz.out.symm,hB⟩
theorem rowInts {w:World} {g n:Nat} {t:TypeId} {f:Nat→Int} (h:w.rowIs g t n (fun j => .int .i64 (f j))):RInts w (some ⟨g,0,none⟩) ((List.range n).map f):=by
 refine ⟨by rw [ints_length,Nat.mul_one],fun _ => ⟨_,rfl,h.lt,fun j u hu => ?_⟩⟩
 obtain ⟨x,hx,rfl⟩:=ints_get hu
 rw [addr_add,Nat.zero_add]
 simp only [List.getElem?_map,Option.map_eq_some_iff] at hx
 obtain ⟨i,hi,rfl⟩:=hx
 obtain ⟨h1,h2⟩:=List.getElem?_eq_some_iff.1 hi
 rw [List.getElem_range] at h2
 rw [List.length_range] at h1
 subst h2
 exact h.cell h1
theorem rowOut {w0 w:World} {g n:Nat} {t:TypeId} {f:Nat→Int} (h:w.rowIs g t n (fun j => .int .i64 (f j))) (hg:w0.heap.size ≤ g) (hB:Below w0.heap.size w0 w):IntsOut ((List.range n).map f) w0 (.returned (.slice (some ⟨g,0,none⟩) n n)) w :=
 ⟨some ⟨g,0,none⟩,n,by simp,rowInts h,fun ad e => by injection e with e; subst e; exact hg,hB⟩
structure IntsM where
 A:Option Addr
 c:Nat
 l:List Int
def IntsM.v (x:IntsM):Value := .slice x.A x.l.length x.c
def rowCells (l:List IntsM):List Value:=l.map IntsM.v
theorem rowCells_length (l:List IntsM):(rowCells l).length=l.length:=by simp [rowCells]
structure RRows (w:World) (A:Option Addr) (l:List IntsM):Prop where
 cells:Reads w w.heap.size 1 A l.length (rowCells l)
 rows:∀ x ∈ l,RInts w x.A x.l
section
variable {w w':World} {A:Option Addr} {l:List IntsM}
theorem RRows.below (h:RRows w A l) (hb:Below w.heap.size w w'):RRows w' A l:=⟨(Reads.below h.cells hb).more hb.size,fun x hx => (h.rows x hx).below hb⟩
theorem RRows.row {k:Nat} (h:RRows w A l) (hk:k < l.length):RInts w l[k].A l[k].l:=h.rows _ (List.getElem_mem hk)
theorem RRows.at' {k:Nat} (h:RRows w A l) (hk:k < l.length):∃ b o,A=some ⟨b,o,none⟩∧b < w.heap.size∧w.cell? ⟨b,o+k,none⟩=some (.slice l[k].A l[k].l.length l[k].c):=by
 obtain ⟨ad,e,hb,hc⟩:=h.cells.2 (by omega)
 have hc0:=hc 0 (l[0]'(by omega)).v (by rw [rowCells,List.getElem?_map,List.getElem?_eq_getElem (by omega)]; rfl)
 obtain ⟨b,o,sp⟩:=ad
 have hsp:sp=none:=by
  cases sp with
  | none => rfl
  | some x =>
   simp only [Addr.add,if_pos,World.cell?] at hc0
   split at hc0 <;> simp [IntsM.v] at hc0
 subst hsp
 have:=hc k l[k].v (by simp [rowCells,hk])
 rw [addr_add] at this
 exact ⟨b,o,e,hb,this⟩
end
set_option maxRecDepth 100000 in
set_option maxHeartbeats 4000000 in
theorem add_any (N:Nat) (A:Option Addr) (c:Nat) (l:List IntsM) (w:World) (hA0:RRows w A l) (hN:N ≤ 1000000) (hlen0:∀ x ∈ l,x.l.length=N) (hbd0:∀ x ∈ l.map IntsM.l, ∀ v ∈ x,0 ≤ v∧v ≤ 1000) (hm:l.length ≤ 1000000) :
  Calls Tryz.prog 70 #[.int .i64 (N:Int),.slice A l.length c] w (IntsOut (addL (l.map IntsM.l) N) w):=by
 have hA:=Lib.hid hA0
 have hlen:=Lib.hid hlen0
 have hbd:=Lib.hid hbd0
 clear hA0 hlen0 hbd0
 obtain ⟨m,hn⟩:∃ m,m=l.length:=⟨_,rfl⟩
 have HN:=Lib.hid hn
 rw [← hn] at hm ⊢
 have hout:Hid (addL (l.map IntsM.l) N=(List.range N).map (addTo (l.map IntsM.l) m)):=by show _=_; unfold addL; rw [List.length_map, ← hn]
 rw [hout.out]
 clear hn hout
 have hmk:=run_make_row' (P:=Tryz.prog) 22 3 (.int .i64 0) 8 Tryz.underlying22 Tryz.infoInt rfl .i64 .i64 N (by omega) (by omega)
 go_enter Tryz.func70,Tryz.ntmps70
 go_wp2_with fail
 have hrow0:(w.alloc (.cells (madeCells #[.int .i64 0] N) 3)).rowIs w.heap.size 3 N (fun i => .int .i64 (addTo (l.map IntsM.l) 0 i)):=by
  simp only [addTo_zero]
  exact World.rowIs_made _ _ _ _
 have hB0:Below w.heap.size w (w.alloc (.cells (madeCells #[.int .i64 0] N) 3)):=(Below.refl _ _).alloc (Nat.le_refl _) _
 clear hmk
 go_loopw [14] (fun i' wr => ∃ k:Nat,k ≤ m∧i' = .int .i64 k∧wr.rowIs w.heap.size 3 N (fun i => .int .i64 (addTo (l.map IntsM.l) k i))∧Below w.heap.size w wr)
  (fun i' _ => m - (intOf i').toNat)
 case atStart => exact ⟨0,by omega,rfl,hrow0,hB0⟩
 case round =>
  clear hrow0 hB0
  obtain ⟨k,hkm,rfl,hrow1,hB⟩:=hrel
  have hrow:=Lib.hid hrow1
  clear hrow1
  by_cases hlt:k < m
  ·have hkl:k < l.length:=by rw [← HN.out]; exact hlt
   have hkR:k < (l.map IntsM.l).length:=by rw [List.length_map]; exact hkl
   have HL:=Lib.hid (hA.out.below hB)
   obtain ⟨b,of,hAe,hb,z0⟩:=HL.out.at' hkl
   subst hAe
   have HR:Hid ((l.map IntsM.l)[k]=l[k].l):=by show _=_; simp
   have hrw:=Lib.hid (hA.out.row hkl)
   have hl:=hlen.out _ (List.getElem_mem hkl)
   have HS:=Lib.hid (fun i => addTo_succ hkR i)
   generalize l[k]=x at *
   rw [hl] at z0
   have HLx:=Lib.hid hl
   clear hl
   obtain ⟨wo,hwo⟩:∃ wo:World,wo=wr:=⟨_,rfl⟩
   subst hwo
   go_wp2_with fail
   clear z0
   go_loopw [20] (fun i' wr => ∃ j:Nat,j ≤ N∧i' = .int .i64 j∧wr.rowIs w.heap.size 3 N (fun i => .int .i64 (addMid (l.map IntsM.l) k j i))∧Below w.heap.size w wr)
    (fun i' _ => N - (intOf i').toNat)
   case atStart => exact ⟨0,by omega,rfl,by simp only [addMid_zero]; exact hrow.out,hB⟩
   case round =>
    obtain ⟨j,hjN,rfl,hr1,hBj⟩:=hrel
    have hr:=Lib.hid hr1
    clear hr1
    by_cases hlj:j < N
    ·have hRj:=hrw.out.below hBj
     have hjl:j < x.l.length:=by rw [HLx.out]; exact hlj
     obtain ⟨b3,o3,hAe,hb3,y0⟩:=hRj.at' hjl
     rw [hAe]
     have c1:=hr.out.cell hlj
     have c2:=hr.out.frozen j
     have m0:Hid (addMid (l.map IntsM.l) k j j=addTo (l.map IntsM.l) k j):=by show _=_; simp [addMid]
     rw [m0.out] at c1
     have hbd1:=addTo_bd hbd.out k j
     have hvb:=hbd.out x.l (by rw [← HR.out]; exact List.getElem_mem hkR) _ (List.getElem_mem hjl)
     have hnx:Hid (addTo (l.map IntsM.l) (k+1) j=addTo (l.map IntsM.l) k j+x.l[j]):=by
      show _=_
      rw [HS.out,HR.out]
      simp [List.getD,hjl]
     generalize x.l[j]=v at *
     generalize addTo (l.map IntsM.l) k j=a at *
     go_wp2_with fail
     go_roundw
     case rel =>
      refine ⟨j+1,by omega,by go_num,?_,hBj.setCell (by simp) _⟩
      refine (hr.out.set j _).congr fun i hi => ?_
      rw [addMid_succ]
      by_cases e:i=j
      ·rw [if_pos e,if_pos e,hnx.out]
      ·rw [if_neg e,if_neg e]
     case measure => simp [intOf]; omega
    ·have hfin:Hid (wr.rowIs w.heap.size 3 N (fun i => .int .i64 (addTo (l.map IntsM.l) (k+1) i))):=by
      show World.rowIs _ _ _ _ _
      refine hr.out.congr fun i hi => ?_
      rw [show j=N by omega,addMid_full hi]
     go_wp2_with fail
     go_roundw
     case rel => exact ⟨k+1,by omega,by go_num,hfin.out,hBj⟩
     case measure => simp [intOf]; omega
  ·have hfin:Hid (IntsOut ((List.range N).map (addTo (l.map IntsM.l) m)) w (.returned (.slice (some ⟨w.heap.size,0,none⟩) N N)) wr):=by
    have h:=hrow.out
    rw [show k=m by omega] at h
    exact rowOut h (Nat.le_refl _) hB
   go_wp2_with fail
   go_ret
   exact hfin.out
theorem Tryz.infoInts:(Tryz.prog.info? 22).map (fun i => (i.zero,i.size,i.bytes))=some (some (.slice none 0 0),1,24):=by kernel_rfl
theorem wpList_append_newG {P:Program} {ops:Array Oper} {rest:List Oper} {o:Oper} {a:Act} {Q:Exit→Act→World→Prop} (w w0:World) (hgd:o.guard=none) (s x:Operand) (t:TypeId)
  (ho:o.op = .call { callee := .builtin .append,args:=#[s,x],argTypes:=#[t,t] })
  (base:Nat) (e:TypeId) (i:TypeInfo) (z:Value) (size bytes:Nat) (ht:P.underlying t=some (.slice e)) (hi:P.info? e=some i) (hz:i.zero=some z)
  (hsize:i.size=size) (hby:i.bytes=bytes) (hzs:z.cells.size=size) (hsz:0 < size) (hb4:bytes ≤ 4096)
  (v:Value) (n:Nat) (xs:List Value) (hs:a.eval s=v) (hown:w0.ownsRow base e size v n xs)
  (cs:Array Value) (hcs:cs.size=size) (h1:∀ u ∈ cs.toList,u.oneCell'=true) (hx:a.eval x = .slice (some ⟨w0.heap.size,0,none⟩) 1 1)
  (hw:w=w0.alloc (.cells cs e)) (hn:n ≤ 1000000000) (hbase:base ≤ w0.heap.size)
  (h:∀ v' w',w'.ownsRow base e size v' (n+1) (xs ++ cs.toList)→w0.grownBy w' v.ownBlock→(v'.ownBlock=v.ownBlock ∨ v'.ownBlock=some (w0.heap.size+1))→wpList P ops Q rest (a.put o.dst v') w'):wpList P ops Q (o :: rest) a w:=by
 subst hw
 refine wpList_append_own_at (w0.alloc (.cells cs e)) hgd s x t ho base e i z size bytes ht hi hz hsize hby hzs hsz v n xs hs (hown.alloc _) ⟨w0.heap.size,0,none⟩ 1 1 cs.toList hx (by simp [hcs]) ?_ h1 (by unfold maxLen; omega) ?_ (by simp; omega) ?_
 ·intro j u hu
  have hadd:(⟨w0.heap.size,0,none⟩:Addr).add j=⟨w0.heap.size,j,none⟩:=by unfold Addr.add; split <;> simp_all
  rw [hadd,(Blk.new w0 e cs).cell j]
  simpa using hu
 ·have:(n+1) * bytes ≤ 1000000001 * 4096:=Nat.mul_le_mul (by omega) hb4
  omega
 ·intro v' w' h2 h3 _ h5
  refine h v' w' h2 ((World.grownBy_alloc w0 _ v.ownBlock).trans h3) ?_
  simpa using h5
structure Made (w:World) (base:Nat) (v:Value) (rows:List IntsM):Prop where
 own:w.ownsRow base 22 1 v rows.length (rowCells rows)
 rows:∀ x ∈ rows,RInts w x.A x.l∧∀ ad,x.A=some ad→base ≤ ad.block∧some ad.block ≠ v.ownBlock∧ad.block < w.heap.size
theorem Made.nil (w:World) (base:Nat):Made w base (.slice none 0 0) []:=⟨World.ownsRow_nil _ _ _ _,by simp⟩
theorem Made.below {w w':World} {base:Nat} {v:Value} {rows:List IntsM} (h:Made w base v rows) (hb:Below w.heap.size w w'):Made w' base v rows :=
 ⟨own_below h.own hb,fun x hx => ⟨(h.rows x hx).1.below hb,fun ad e => ⟨((h.rows x hx).2 ad e).1,((h.rows x hx).2 ad e).2.1,Nat.lt_of_lt_of_le ((h.rows x hx).2 ad e).2.2 hb.size⟩⟩⟩
theorem RInts.lt {w:World} {A:Option Addr} {l:List Int} (h:RInts w A l) (hl:l ≠ []):∀ ad,A=some ad→ad.block < w.heap.size:=by
 intro ad e
 obtain ⟨ad',e',hb,_⟩:=h.2 (List.length_pos_iff.2 hl)
 rw [e] at e'; injection e' with e'; subst e'; exact hb
theorem RInts.other {w w':World} {A:Option Addr} {l:List Int} {r:Option Nat} (h:RInts w A l) (hg:w.grownBy w' r) (hne:∀ ad,A=some ad→some ad.block ≠ r):RInts w' A l:=by
 refine ⟨h.1,fun hn => ?_⟩
 obtain ⟨ad,e,hb,hc⟩:=h.2 hn
 refine ⟨ad,e,Nat.lt_of_lt_of_le hb hg.size,fun j u hu => ?_⟩
 rw [World.cell?_of_block (hg.block (ad.add j).block (by rw [block_of_add]; exact hb) (by rw [block_of_add]; exact hne ad e))]
 exact hc j u hu
theorem Made.push {w w':World} {base:Nat} {v v':Value} {rows:List IntsM} {x:IntsM} (h:Made w base v rows) (hx:RInts w x.A x.l) (hf:∀ ad,x.A=some ad→base ≤ ad.block∧some ad.block ≠ v.ownBlock∧ad.block < w.heap.size)
  (hown:w'.ownsRow base 22 1 v' (rows.length+1) (rowCells rows ++ [x.v])) (hg:w.grownBy w' v.ownBlock) (hv:v'.ownBlock=v.ownBlock ∨ v'.ownBlock=some (w.heap.size+1)):Made w' base v' (rows ++ [x]):=by
 refine ⟨by simpa [rowCells] using hown,?_⟩
 intro y hy
 rw [List.mem_append,List.mem_singleton] at hy
 rcases hy with hy | rfl
 ·obtain ⟨h1,h2⟩:=h.rows y hy
  refine ⟨h1.other hg fun ad e => (h2 ad e).2.1,fun ad e => ⟨(h2 ad e).1,?_,Nat.lt_of_lt_of_le (h2 ad e).2.2 hg.size⟩⟩
  rcases hv with hv | hv
  ·rw [hv]; exact (h2 ad e).2.1
  ·rw [hv]; intro hh; injection hh with hh; have:=(h2 ad e).2.2; omega
 ·refine ⟨hx.other hg fun ad e => (hf ad e).2.1,fun ad e => ⟨(hf ad e).1,?_,Nat.lt_of_lt_of_le (hf ad e).2.2 hg.size⟩⟩
  rcases hv with hv | hv
  ·rw [hv]; exact (hf ad e).2.1
  ·rw [hv]; intro hh; injection hh with hh; have:=(hf ad e).2.2; omega
theorem Made.rrows {w:World} {base:Nat} {v:Value} {rows:List IntsM} (h:Made w base v rows):∃ A c,v = .slice A rows.length c∧RRows w A rows:=by
 obtain ⟨A,c,rfl⟩:=own_form h.own
 exact ⟨A,c,rfl,Reads.of_own h.own,fun x hx => (h.rows x hx).1⟩
end Go.Proofs.YtnppngaabfhkpaaGreat
