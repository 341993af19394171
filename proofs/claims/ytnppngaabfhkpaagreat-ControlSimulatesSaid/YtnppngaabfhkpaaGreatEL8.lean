/-
  The walks of layer 41 (load), part 6: Starts.
-/
import Derived.Test.YtnppngaabfhkpaaGreatE0Words
import Derived.Test.YtnppngaabfhkpaaGreatEL6
import Derived.Test.YtnppngaabfhkpaaGreatEBPlain
namespace Go.Proofs.YtnppngaabfhkpaaGreat
open Go.RowKit
set_option maxRecDepth 100000 in
set_option maxHeartbeats 4000000 in
theorem lstarts_any (r:Ld) (A:Option Addr) (c:Nat) (n:Int) (w:World) (hA0:RInts w A r.prof) (hn:r.name.size ≤ maxLen) (hl:r.prof.length ≤ maxLen) :
  Calls Tryz.prog 67 #[r.v A c,.int .i64 n] w (IntsOut (r.starts n) w):=by
 have hk:=Lib.hid (fun W (h:RInts W A r.prof) => lcheck_any r A c n W h hn hl)
 have hA:=Lib.hid hA0
 simp only [Ld.v] at hk ⊢
 obtain ⟨i0,hi,hz0,hz1,hz2⟩:=info_parts Tryz.infoInt
 by_cases hc:r.chk n=0
 ·have hg:=Lib.hid (Ld.good hc)
  have hst:Hid (r.starts n=seqFrom r.early r.cnt):=by show _=_; unfold Ld.starts; rw [if_pos hc]
  have hcnt:Hid (r.cnt=(r.late - (r.prof.length:Int) - r.early+1).toNat):=rfl
  rw [hc] at hk
  rw [hst.out]
  generalize r.cnt=N at *
  clear hc hA0 hst
  obtain ⟨n0,n1,e0,l1,el,p,p0,p1,_,_⟩:=hg.out
  go_enter Tryz.func67,Tryz.ntmps67
  go_wp2_with fail
  refine (hk.out _ (hA.out.alloc _)).mono ?_
  rintro e w1 ⟨rfl,hb1⟩
  have hS:=lds_first (r:=r) (A:=A) (c:=c) hb1
  obtain ⟨z0,z1,z2,z3⟩:=hS.cells
  have hsz:=hS.size
  clear hb1
  go_wp2_with fail
  clear z0 z1 z2 z3
  go_loopw [5,6] (fun o i' wr => ∃ k:Nat,k ≤ N∧i' = .int .i64 (r.early+(k:Int))∧wr.ownsRow (w.heap.size+1) 3 1 o k (ints (seqFrom r.early k))∧LdS r A c w wr)
   (fun _ i' _ => (r.early+(N:Int) - intOf i').toNat)
  case atStart => exact ⟨0,by omega,by simp,World.ownsRow_nil _ _ _ _,hS⟩
  case round =>
   obtain ⟨k,hkN,rfl,hown,hS'⟩:=hrel
   obtain ⟨z0,z1,z2,z3⟩:=hS'.cells
   have hsz':=hS'.size
   have hN:=hcnt.out
   by_cases hlt:k < N
   ·have t1:r.early+(k:Int)+(r.prof.length:Int) ≤ r.late:=by omega
    go_wp2_with (at_builtin; refine wpList_append_new _ _ rfl _ _ 22 rfl (w.heap.size+1) 3 i0 (.int .i64 0) 1 8 Tryz.underlying22 hi hz0 hz1 hz2 rfl (by decide) (by decide) _ _ _ rfl hown #[.int .i64 (r.early+(k:Int))] rfl (one_int _ _) rfl rfl (by omega) (by omega) ?_)
    intro v' w5 hown5 hb5
    clear hown z0 z1 z2 z3
    go_wp2
    go_roundw
    case rel => exact ⟨k+1,by omega,by congr 1; omega,by rw [seqFrom_succ,ints_append]; exact hown5,Below.trans hS' hb5⟩
    case measure => simp [intOf]; omega
   ·have t1:decide (r.early+(k:Int)+(r.prof.length:Int) ≤ r.late)=false:=by rw [decide_eq_false_iff_not]; omega
    have t2:IntKind.i64.wrap (r.early+(k:Int)+(r.prof.length:Int))=r.early+(k:Int)+(r.prof.length:Int):=IntWalk.i64_in _ (by omega)
    obtain rfl:k=N:=by omega
    have hfin:Hid (IntsOut (seqFrom r.early k) w (.returned u5) wr):=ints_out hown (Nat.le_succ _) hS'.out
    clear hN hown hcnt
    go_wp2_with fail
    go_ret
    exact hfin.out
 ·have hst:Hid (r.starts n = []):=by show _=_; unfold Ld.starts; rw [if_neg hc]
  have hne:(r.chk n != 0)=true:=by simpa using hc
  rw [hst.out]
  clear hst hA0 hc
  generalize r.chk n=k at *
  go_enter Tryz.func67,Tryz.ntmps67
  go_wp2_with fail
  refine (hk.out _ (hA.out.alloc _)).mono ?_
  rintro e w1 ⟨rfl,hb1⟩
  have hS:=lds_first (r:=r) (A:=A) (c:=c) hb1
  go_wp2_with fail
  go_ret
  exact nil_out hS.out
set_option maxRecDepth 100000 in
set_option maxHeartbeats 4000000 in
theorem rlstarts_any (r:Ld) (A:Option Addr) (c:Nat) (n:Int) (w:World) (hA0:RInts w A r.prof) (hn:r.name.size ≤ maxLen) :
  Calls Tryz.prog 74 #[r.v A c,.int .i64 n] w (IntsOut (r.starts n) w):=by
 have hk:=Lib.hid (fun W (h:RInts W A r.prof) => rlcheck_any r A c n W h hn)
 have hA:=Lib.hid hA0
 simp only [Ld.v] at hk ⊢
 obtain ⟨i0,hi,hz0,hz1,hz2⟩:=info_parts Tryz.infoInt
 by_cases hc:r.chk n=0
 ·have hg:=Lib.hid (Ld.good hc)
  have hst:Hid (r.starts n=seqFrom r.early r.cnt):=by show _=_; unfold Ld.starts; rw [if_pos hc]
  have hcnt:Hid (r.cnt=(r.late - (r.prof.length:Int) - r.early+1).toNat):=rfl
  rw [hc] at hk
  rw [hst.out]
  generalize r.cnt=N at *
  clear hc hA0 hst
  obtain ⟨n0,n1,e0,l1,el,p,p0,p1,_,_⟩:=hg.out
  go_enter Tryz.func74,Tryz.ntmps74
  go_wp2_with fail
  refine (hk.out _ (hA.out.alloc _)).mono ?_
  rintro e w1 ⟨rfl,hb1⟩
  have hS:=lds_first (r:=r) (A:=A) (c:=c) hb1
  obtain ⟨z0,z1,z2,z3⟩:=hS.cells
  have hsz:=hS.size
  clear hb1
  go_wp2_with fail
  clear z0 z1 z2 z3
  go_loopw [5,6] (fun o i' wr => ∃ k:Nat,k ≤ N∧i' = .int .i64 (r.early+(k:Int))∧wr.ownsRow (w.heap.size+1) 3 1 o k (ints (seqFrom r.early k))∧LdS r A c w wr)
   (fun _ i' _ => (r.early+(N:Int) - intOf i').toNat)
  case atStart => exact ⟨0,by omega,by simp,World.ownsRow_nil _ _ _ _,hS⟩
  case round =>
   obtain ⟨k,hkN,rfl,hown,hS'⟩:=hrel
   obtain ⟨z0,z1,z2,z3⟩:=hS'.cells
   have hsz':=hS'.size
   have hN:=hcnt.out
   by_cases hlt:k < N
   ·have t1:r.early+(k:Int)+(r.prof.length:Int) ≤ r.late:=by omega
    go_wp2_with (at_builtin; refine wpList_append_new _ _ rfl _ _ 22 rfl (w.heap.size+1) 3 i0 (.int .i64 0) 1 8 Tryz.underlying22 hi hz0 hz1 hz2 rfl (by decide) (by decide) _ _ _ rfl hown #[.int .i64 (r.early+(k:Int))] rfl (one_int _ _) rfl rfl (by omega) (by omega) ?_)
    intro v' w5 hown5 hb5
    clear hown z0 z1 z2 z3
    go_wp2
    go_roundw
    case rel => exact ⟨k+1,by omega,by congr 1; omega,by rw [seqFrom_succ,ints_append]; exact hown5,Below.trans hS' hb5⟩
    case measure => simp [intOf]; omega
   ·have t1:decide (r.early+(k:Int)+(r.prof.length:Int) ≤ r.late)=false:=by rw [decide_eq_false_iff_not]; omega
    have t2:IntKind.i64.wrap (r.early+(k:Int)+(r.prof.length:Int))=r.early+(k:Int)+(r.prof.length:Int):=IntWalk.i64_in _ (by omega)
    obtain rfl:k=N:=by omega
    have hfin:Hid (IntsOut (seqFrom r.early k) w (.returned u5) wr):=ints_out hown (Nat.le_succ _) hS'.out
    clear hN hown hcnt
    go_wp2_with fail
    go_ret
    exact hfin.out
 ·have hst:Hid (r.starts n = []):=by show _=_; unfold Ld.starts; rw [if_neg hc]
  have hne:(r.chk n != 0)=true:=by simpa using hc
  rw [hst.out]
  clear hst hA0 hc
  generalize r.chk n=k at *
  go_enter Tryz.func74,Tryz.ntmps74
  go_wp2_with fail
  refine (hk.out _ (hA.out.alloc _)).mono ?_
  rintro e w1 ⟨rfl,hb1⟩
  have hS:=lds_first (r:=r) (A:=A) (c:=c) hb1
  go_wp2_with fail
  go_ret
  exact nil_out hS.out
theorem ld_alloc (r:Ld) (A:Option Addr) (c:Nat) (w:World):Below w.heap.size w (w.alloc (.cells #[.string r.name,.slice A r.prof.length c,.int .i64 r.early,.int .i64 r.late] 54)):=(Below.refl _ _).alloc (Nat.le_refl _) _
theorem llast_any (r:Ld) (A:Option Addr) (c:Nat) (w:World) :
  Calls Tryz.prog 48 #[r.v A c] w fun e w' => e = .returned (.int .i64 r.last)∧Below w.heap.size w w':=by
 have hB:=Lib.hid (ld_alloc r A c w)
 simp only [Ld.v]
 have hl:(0:Int) ≤ (r.prof.length:Int):=by omega
 by_cases h1:r.late < (r.prof.length:Int)
 ·have hz:Hid (r.last = -1):=by show _=_; unfold Ld.last; rw [if_pos h1]
  go_enter Tryz.func48,Tryz.ntmps48
  go_wp2_with fail
  go_ret
  exact ⟨ret_int hz.out.symm,hB.out⟩
 ·by_cases h2:96 < r.late
  ·have hz:Hid (r.last = -1):=by show _=_; unfold Ld.last; rw [if_neg h1,if_pos h2]
   go_enter Tryz.func48,Tryz.ntmps48
   go_wp2_with fail
   go_ret
   exact ⟨ret_int hz.out.symm,hB.out⟩
  ·have hz:Hid (r.last=r.late - (r.prof.length:Int)):=by show _=_; unfold Ld.last; rw [if_neg h1,if_neg h2]
   go_enter Tryz.func48,Tryz.ntmps48
   go_wp2_with fail
   go_ret
   exact ⟨ret_int hz.out.symm,hB.out⟩
theorem rllast_any (r:Ld) (A:Option Addr) (c:Nat) (w:World) :
  Calls Tryz.prog 28 #[r.v A c] w fun e w' => e = .returned (.int .i64 r.last)∧Below w.heap.size w w':=by
 have hB:=Lib.hid (ld_alloc r A c w)
 simp only [Ld.v]
 have hl:(0:Int) ≤ (r.prof.length:Int):=by omega
 by_cases h1:r.late < (r.prof.length:Int)
 ·have hz:Hid (r.last = -1):=by show _=_; unfold Ld.last; rw [if_pos h1]
  go_enter Tryz.func28,Tryz.ntmps28
  go_wp2_with fail
  go_ret
  exact ⟨ret_int hz.out.symm,hB.out⟩
 ·by_cases h2:96 < r.late
  ·have hz:Hid (r.last = -1):=by show _=_; unfold Ld.last; rw [if_neg h1,if_pos h2]
   go_enter Tryz.func28,Tryz.ntmps28
   go_wp2_with fail
   go_ret
   exact ⟨ret_int hz.out.symm,hB.out⟩
  ·have hz:Hid (r.last=r.late - (r.prof.length:Int)):=by show _=_; unfold Ld.last; rw [if_neg h1,if_neg h2]
   go_enter Tryz.func28,Tryz.ntmps28
   go_wp2_with fail
   go_ret
   exact ⟨ret_int hz.out.symm,hB.out⟩
set_option maxRecDepth 100000 in
set_option maxHeartbeats 1000000 in
theorem luse_any (r:Ld) (A:Option Addr) (c:Nat) (s i:Int) (w:World) (hA0:RInts w A r.prof) (hl:r.prof.length < 1000000000)
  (s0 : -9223372036854775808 ≤ s) (_s1:s ≤ 9223372036854775807) (_i0 : -9223372036854775808 ≤ i) (i1:i ≤ 9223372036854775807) :
  Calls Tryz.prog 69 #[r.v A c,.int .i64 s,.int .i64 i] w fun e w' => e = .returned (.int .i64 (r.use s i))∧Below w.heap.size w w':=by
 have hB:=Lib.hid (ld_alloc r A c w)
 have hA:=Lib.hid hA0
 simp only [Ld.v]
 have hl0:(0:Int) ≤ (r.prof.length:Int):=by omega
 clear hA0
 by_cases h1:i < s
 ·have hz:Hid (r.use s i=0):=by show _=_; unfold Ld.use; rw [if_pos h1]
  go_enter Tryz.func69,Tryz.ntmps69
  go_wp2_with fail
  go_ret
  exact ⟨ret_int hz.out.symm,hB.out⟩
 ·have hw:IntKind.u64.wrap (IntKind.u64.wrap i - IntKind.u64.wrap s)=i - s:=by
   show (_:Int)=_
   have:=wrapU (i:=i) (s:=s) (by omega) s0 i1
   simpa [IntKind.wrap,IntKind.bits,IntKind.signed] using this
  by_cases h2:(r.prof.length:Int) ≤ i - s
  ·have hz:Hid (r.use s i=0):=by show _=_; unfold Ld.use; rw [if_neg h1,if_pos h2]
   go_enter Tryz.func69,Tryz.ntmps69
   go_wp2_with fail
   go_ret
   exact ⟨ret_int hz.out.symm,hB.out⟩
  ·have hk:(i - s).toNat < r.prof.length:=by omega
   have hz:Hid (r.use s i=unitZ r.prof[(i - s).toNat]):=by show _=_; unfold Ld.use; rw [if_neg h1,if_neg h2]; simp [List.getD,hk]
   obtain ⟨b,of,hAe,hb,hc⟩:=hA.out.at' hk
   subst hAe
   generalize r.prof[(i - s).toNat]=x at *
   go_enter Tryz.func69,Tryz.ntmps69
   go_wp2_with fail
   refine (units_any x _).mono ?_
   rintro e w1 ⟨rfl,rfl⟩
   go_wp2_with fail
   go_ret
   exact ⟨ret_int hz.out.symm,hB.out⟩
set_option maxRecDepth 100000 in
set_option maxHeartbeats 1000000 in
theorem rluse_any (r:Ld) (A:Option Addr) (c:Nat) (s i:Int) (w:World) (hA0:RInts w A r.prof) (hl:r.prof.length < 1000000000)
  (s0 : -9223372036854775808 ≤ s) (_s1:s ≤ 9223372036854775807) (_i0 : -9223372036854775808 ≤ i) (i1:i ≤ 9223372036854775807) :
  Calls Tryz.prog 111 #[r.v A c,.int .i64 s,.int .i64 i] w fun e w' => e = .returned (.int .i64 (r.use s i))∧Below w.heap.size w w':=by
 have hB:=Lib.hid (ld_alloc r A c w)
 have hA:=Lib.hid hA0
 simp only [Ld.v]
 have hl0:(0:Int) ≤ (r.prof.length:Int):=by omega
 clear hA0
 by_cases h1:i < s
 ·have hz:Hid (r.use s i=0):=by show _=_; unfold Ld.use; rw [if_pos h1]
  go_enter Tryz.func111,Tryz.ntmps111
  go_wp2_with fail
  go_ret
  exact ⟨ret_int hz.out.symm,hB.out⟩
 ·have hw:IntKind.u64.wrap (IntKind.u64.wrap i - IntKind.u64.wrap s)=i - s:=by
   show (_:Int)=_
   have:=wrapU (i:=i) (s:=s) (by omega) s0 i1
   simpa [IntKind.wrap,IntKind.bits,IntKind.signed] using this
  by_cases h2:(r.prof.length:Int) ≤ i - s
  ·have hz:Hid (r.use s i=0):=by show _=_; unfold Ld.use; rw [if_neg h1,if_pos h2]
   go_enter Tryz.func111,Tryz.ntmps111
   go_wp2_with fail
   go_ret
   exact ⟨ret_int hz.out.symm,hB.out⟩
  ·have hk:(i - s).toNat < r.prof.length:=by omega
   have hz:Hid (r.use s i=unitZ r.prof[(i - s).toNat]):=by show _=_; unfold Ld.use; rw [if_neg h1,if_neg h2]; simp [List.getD,hk]
   obtain ⟨b,of,hAe,hb,hc⟩:=hA.out.at' hk
   subst hAe
   generalize r.prof[(i - s).toNat]=x at *
   go_enter Tryz.func111,Tryz.ntmps111
   go_wp2_with fail
   refine (unit_any x _).mono ?_
   rintro e w1 ⟨rfl,rfl⟩
   go_wp2_with fail
   go_ret
   exact ⟨ret_int hz.out.symm,hB.out⟩
theorem starts_len (r:Ld) (n:Int):(r.starts n).length ≤ 97:=by
 unfold Ld.starts
 split
 ·rename_i h
  have g:=Ld.good h
  have:=g.e0; have:=g.l1; have:=g.n1
  rw [seqFrom_length]
  unfold Ld.cnt
  omega
 ·simp
theorem mem_take_succ {l:List Int} {k:Nat} {x:Int} (hk:k < l.length) (h:x ∉ l.take k) (hx:l[k] ≠ x):x ∉ l.take (k+1):=by
 rw [List.take_succ_eq_append_getElem hk,List.mem_append]
 rintro (h1 | h1)
 ·exact h h1
 ·exact hx (by simpa using h1:x=l[k]).symm
set_option maxRecDepth 100000 in
set_option maxHeartbeats 2000000 in
theorem rlfit_any (r:Ld) (A:Option Addr) (c:Nat) (s n:Int) (w:World) (hA0:RInts w A r.prof) (hn:r.name.size ≤ maxLen) :
  Calls Tryz.prog 110 #[r.v A c,.int .i64 s,.int .i64 n] w fun e w' => e = .returned (.bool (r.fit s n))∧Below w.heap.size w w':=by
 have hk:=Lib.hid (fun W (h:RInts W A r.prof) => rlstarts_any r A c n W h hn)
 have hA:=Lib.hid hA0
 have hl:=starts_len r n
 rw [Ld.fit_mem]
 simp only [Ld.v] at hk ⊢
 generalize r.starts n=L at *
 clear hA0
 obtain ⟨m,hm⟩:∃ m,m=L.length:=⟨_,rfl⟩
 have HM:=Lib.hid hm
 rw [← hm] at hl
 clear hm
 go_enter Tryz.func110,Tryz.ntmps110
 go_wp2_with fail
 refine (hk.out _ (hA.out.alloc _)).mono ?_
 rintro e w1 ⟨A1,c1,rfl,hr1,_,hb1⟩
 rw [← HM.out]
 have hS:=lds_first (r:=r) (A:=A) (c:=c) hb1
 have HR:=Lib.hid hr1
 clear hb1 hr1
 go_wp2_with fail
 go_loopw [8] (fun i' wr => ∃ k:Nat,k ≤ m∧i' = .int .i64 k∧Hid (s ∉ L.take k)∧w1=wr)
  (fun i' _ => m - (intOf i').toNat)
 case atStart => exact ⟨0,by omega,rfl,by show ¬ _; simp,rfl⟩
 case round =>
  obtain ⟨k,hkm,rfl,hno,rfl⟩:=hrel
  by_cases hlt:k < m
  ·have hkl:k < L.length:=by rw [← HM.out]; exact hlt
   obtain ⟨b,of,hAe,hb,hcell⟩:=HR.out.at' hkl
   subst hAe
   by_cases hx:L[k]=s
   ·have hin:Hid (decide (s ∈ L)=true):=by show _=_; rw [decide_eq_true_iff, ← hx]; exact List.getElem_mem hkl
    rw [hx] at hcell
    clear hx
    go_wp2_with fail
    go_ret
    exact ⟨ret_bool hin.out.symm,hS.out⟩
   ·have hno':Hid (s ∉ L.take (k+1)):=mem_take_succ hkl hno.out hx
    have hx':(L[k] == s)=false:=by simpa using hx
    generalize L[k]=x at *
    clear hno hx
    go_wp2_with fail
    go_roundw
    case rel => exact ⟨k+1,by omega,by go_num,hno',trivial⟩
    case measure => simp [intOf]; omega
  ·have hout:Hid (decide (s ∈ L)=false):=by
    show _=_
    have h:=hno.out
    rw [List.take_of_length_le (by rw [← HM.out]; omega)] at h
    rw [decide_eq_false_iff_not]; exact h
   clear hno
   go_wp2_with fail
   go_ret
   exact ⟨ret_bool hout.out.symm,hS.out⟩
structure LdM where
 r:Ld
 A:Option Addr
 c:Nat
def LdM.cells (x:LdM):List Value := [.string x.r.name,.slice x.A x.r.prof.length x.c,.int .i64 x.r.early,.int .i64 x.r.late]
def ldCells (l:List LdM):List Value:=l.flatMap LdM.cells
theorem LdM.cells_length (x:LdM):x.cells.length=4:=rfl
theorem ldCells_length (l:List LdM):(ldCells l).length=l.length * 4:=by
 induction l with
 | nil => rfl
 | cons x l ih => simp only [ldCells,List.flatMap_cons,List.length_append,LdM.cells_length,List.length_cons] at ih ⊢; omega
theorem ldCells_get {l:List LdM} {k j:Nat} (hk:k < l.length) (hj:j < 4):(ldCells l)[k * 4+j]? = l[k].cells[j]? := by
 induction l generalizing k with
 | nil => simp at hk
 | cons x l ih =>
  cases k with
  | zero =>
   simp only [ldCells,List.flatMap_cons,List.getElem_cons_zero]
   rw [List.getElem?_append_left (by rw [LdM.cells_length]; omega)]
   congr 1; omega
  | succ k =>
   simp only [ldCells,List.flatMap_cons,List.getElem_cons_succ]
   rw [List.getElem?_append_right (by rw [LdM.cells_length]; omega),LdM.cells_length,show (k+1) * 4+j - 4=k * 4+j by omega]
   exact ih (by simpa using hk)
theorem ldCells_append (l m:List LdM):ldCells (l ++ m)=ldCells l ++ ldCells m:=by simp [ldCells]
structure RLoads (w:World) (A:Option Addr) (l:List LdM):Prop where
 cells:Reads w w.heap.size 4 A l.length (ldCells l)
 profs:∀ x ∈ l,RInts w x.A x.r.prof
section
variable {w w':World} {A:Option Addr} {l:List LdM}
theorem RLoads.below (h:RLoads w A l) (hb:Below w.heap.size w w'):RLoads w' A l:=⟨(Reads.below h.cells hb).more hb.size,fun x hx => (h.profs x hx).below hb⟩
theorem RLoads.prof {k:Nat} (h:RLoads w A l) (hk:k < l.length):RInts w l[k].A l[k].r.prof:=h.profs _ (List.getElem_mem hk)
theorem RLoads.at' {k:Nat} (h:RLoads w A l) (hk:k < l.length):∃ b o,A=some ⟨b,o,none⟩∧b < w.heap.size∧w.cell? ⟨b,o+k * 4,none⟩=some (.string l[k].r.name) ∧
  w.cell? ⟨b,o+k * 4+1,none⟩=some (.slice l[k].A l[k].r.prof.length l[k].c)∧w.cell? ⟨b,o+k * 4+2,none⟩=some (.int .i64 l[k].r.early)∧w.cell? ⟨b,o+k * 4+3,none⟩=some (.int .i64 l[k].r.late):=by
 obtain ⟨ad,e,hb,hc⟩:=h.cells.2 (by omega)
 have hc0:=hc 0 (.string (l[0]'(by omega)).r.name) (ldCells_get (k:=0) (j:=0) (by omega) (by omega))
 obtain ⟨b,o,sp⟩:=ad
 have hsp:sp=none:=by
  cases sp with
  | none => rfl
  | some x =>
   simp only [Addr.add,if_pos,World.cell?] at hc0
   split at hc0 <;> simp at hc0
 subst hsp
 have hg:∀ j u,j < 4→l[k].cells[j]? = some u→w.cell? ⟨b,o+k * 4+j,none⟩=some u:=by
  intro j u hj hu
  have:=hc (k * 4+j) u ((ldCells_get hk hj).trans hu)
  rw [addr_add] at this
  rwa [Nat.add_assoc]
 exact ⟨b,o,e,hb,hg 0 _ (by omega) rfl,hg 1 _ (by omega) rfl,hg 2 _ (by omega) rfl,hg 3 _ (by omega) rfl⟩
end
end Go.Proofs.YtnppngaabfhkpaaGreat
