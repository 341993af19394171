/-
  The walks of layer 41 (load), part 4: Check of the program.
-/
import Derived.Test.YtnppngaabfhkpaaGreatEL1
namespace Go.Proofs.YtnppngaabfhkpaaGreat
open Go.RowKit
def ldW (r:Ld) (A:Option Addr) (c:Nat) (w:World):World:=w.alloc (.cells #[.string r.name,.slice A r.prof.length c,.int .i64 r.early,.int .i64 r.late] 54)
def LdS (r:Ld) (A:Option Addr) (c:Nat) (w W:World):Prop:=Below (w.heap.size+1) (ldW r A c w) W
section
variable {r:Ld} {A:Option Addr} {c:Nat} {w W W':World}
theorem lds_first (hb:Below (ldW r A c w).heap.size (ldW r A c w) W):LdS r A c w W:=by
 have h:=hb
 simp only [ldW,World.size_alloc] at h
 exact h
theorem LdS.cells (h:LdS r A c w W):W.cell? ⟨w.heap.size,0,none⟩=some (.string r.name)∧W.cell? ⟨w.heap.size,1,none⟩=some (.slice A r.prof.length c)∧W.cell? ⟨w.heap.size,2,none⟩=some (.int .i64 r.early)∧W.cell? ⟨w.heap.size,3,none⟩=some (.int .i64 r.late):=by
 have hc:=(bcell' h).1
 refine ⟨?_,?_,?_,?_⟩ <;> (rw [hc _ _ (by omega)]; simp [ldW,World.cell?_alloc_new])
theorem LdS.out (h:LdS r A c w W):Below w.heap.size w W:=((Below.refl _ _).alloc (Nat.le_refl _) _).trans (Below.mono h (by omega))
theorem LdS.size (h:LdS r A c w W):w.heap.size+1 ≤ W.heap.size:=by have:=Below.size h; simp [ldW] at this; omega
theorem LdS.mk' (h:LdS r A c w W) (hb:Below W.heap.size W W'):LdS r A c w W':=Below.trans h (hb.mono h.size)
end
set_option maxHeartbeats 4000000 in
theorem lcheck_any (r:Ld) (A:Option Addr) (c:Nat) (n:Int) (w:World) (hA0:RInts w A r.prof) (hn:r.name.size ≤ maxLen) (hl:r.prof.length ≤ maxLen) :
  Calls Tryz.prog 66 #[r.v A c,.int .i64 n] w fun e w' => e = .returned (.int .i64 (r.chk n))∧Below w.heap.size w w':=by
 have hv0:=fun W => name_any r.name W hn
 have _:=hl
 have hc0:=fun (hl:r.prof.length < 1000000000) W (h:RInts W A r.prof) => contains_any A c r.prof W h hl
 have hA:=Lib.hid hA0
 simp only [Ld.v]
 cases hname:nameOk r.name
 ·have hz:=Lib.hid (Ld.chk_name (n:=n) hname)
  rw [hname] at hv0
  have hv:=Lib.hid hv0
  clear hname hv0 hc0 hA0
  go_enter Tryz.func66,Tryz.ntmps66
  go_wp2_with fail
  refine (hv.out _).mono ?_
  rintro e w1 ⟨rfl,hb1⟩
  have hS:=lds_first (r:=r) (A:=A) (c:=c) hb1
  obtain ⟨z0,z1,z2,z3⟩:=hS.cells
  clear hb1
  go_wp2_with fail
  go_ret
  exact ⟨ret_int hz.out.symm,hS.out⟩
 ·rw [hname] at hv0
  have hv:=Lib.hid hv0
  by_cases hlim:1 ≤ r.prof.length∧r.prof.length ≤ 24
  ·replace hc0:=hc0 (by omega)
   have hlm:r.lim=true:=by unfold Ld.lim; rw [decide_eq_true_iff]; exact hlim
   have l1:¬ (r.prof.length:Int) < 1:=by omega
   have l2:¬ (24:Int) < (r.prof.length:Int):=by omega
   cases hall:r.prof.all unitOk
   ·have hz:=Lib.hid (Ld.chk_bad (n:=n) hname hlm (.inl hall))
    rw [hall] at hc0
    have hc:=Lib.hid hc0
    clear hname hv0 hc0 hA0 hlim hlm hall
    go_enter Tryz.func66,Tryz.ntmps66
    go_wp2_with fail
    refine (hv.out _).mono ?_
    rintro e w1 ⟨rfl,hb1⟩
    have hS:=lds_first (r:=r) (A:=A) (c:=c) hb1
    obtain ⟨z0,z1,z2,z3⟩:=hS.cells
    clear hb1
    go_wp2_with fail
    refine (hc.out _ (hA.out.below hS.out)).mono ?_
    rintro e w2 ⟨rfl,rfl⟩
    go_wp2_with fail
    go_ret
    exact ⟨ret_int hz.out.symm,hS.out⟩
   ·rw [hall] at hc0
    have hc:=Lib.hid hc0
    have hcs:(r.span n=false∧n < 1) ∨ (r.span n=false∧¬ n < 1∧96 < n) ∨ (r.span n=false∧¬ n < 1∧¬ 96 < n∧r.early < 0) ∨ (r.span n=false∧¬ n < 1∧¬ 96 < n∧¬ r.early < 0∧n < r.late) ∨
      (r.span n=false∧¬ n < 1∧¬ 96 < n∧¬ r.early < 0∧¬ n < r.late∧r.late < r.early) ∨ (r.span n=false∧¬ n < 1∧¬ 96 < n∧¬ r.early < 0∧¬ n < r.late∧¬ r.late < r.early∧r.late - r.early < (r.prof.length:Int)) ∨
      (r.span n=true∧¬ n < 1∧¬ 96 < n∧¬ r.early < 0∧¬ n < r.late∧¬ r.late < r.early∧¬ r.late - r.early < (r.prof.length:Int)):=by
     simp only [Ld.span,decide_eq_true_iff,decide_eq_false_iff_not]; omega
    rcases hcs with ⟨hs,q1⟩ | ⟨hs,q1,q2⟩ | ⟨hs,q1,q2,q3⟩ | ⟨hs,q1,q2,q3,q4⟩ | ⟨hs,q1,q2,q3,q4,q5⟩ | ⟨hs,q1,q2,q3,q4,q5,q6⟩ | ⟨hs,q1,q2,q3,q4,q5,q6⟩
    ·have hz:=Lib.hid (Ld.chk_bad (n:=n) hname hlm (.inr hs))
     clear hname hv0 hc0 hA0 hlim hlm hall hs
     go_enter Tryz.func66,Tryz.ntmps66
     go_wp2_with fail
     refine (hv.out _).mono ?_
     rintro e w1 ⟨rfl,hb1⟩
     have hS:=lds_first (r:=r) (A:=A) (c:=c) hb1
     obtain ⟨z0,z1,z2,z3⟩:=hS.cells
     clear hb1
     go_wp2_with fail
     refine (hc.out _ (hA.out.below hS.out)).mono ?_
     rintro e w2 ⟨rfl,rfl⟩
     go_wp2_with fail
     go_ret
     exact ⟨ret_int hz.out.symm,hS.out⟩
    ·have hz:=Lib.hid (Ld.chk_bad (n:=n) hname hlm (.inr hs))
     clear hname hv0 hc0 hA0 hlim hlm hall hs
     go_enter Tryz.func66,Tryz.ntmps66
     go_wp2_with fail
     refine (hv.out _).mono ?_
     rintro e w1 ⟨rfl,hb1⟩
     have hS:=lds_first (r:=r) (A:=A) (c:=c) hb1
     obtain ⟨z0,z1,z2,z3⟩:=hS.cells
     clear hb1
     go_wp2_with fail
     refine (hc.out _ (hA.out.below hS.out)).mono ?_
     rintro e w2 ⟨rfl,rfl⟩
     go_wp2_with fail
     go_ret
     exact ⟨ret_int hz.out.symm,hS.out⟩
    ·have hz:=Lib.hid (Ld.chk_bad (n:=n) hname hlm (.inr hs))
     clear hname hv0 hc0 hA0 hlim hlm hall hs
     go_enter Tryz.func66,Tryz.ntmps66
     go_wp2_with fail
     refine (hv.out _).mono ?_
     rintro e w1 ⟨rfl,hb1⟩
     have hS:=lds_first (r:=r) (A:=A) (c:=c) hb1
     obtain ⟨z0,z1,z2,z3⟩:=hS.cells
     clear hb1
     go_wp2_with fail
     refine (hc.out _ (hA.out.below hS.out)).mono ?_
     rintro e w2 ⟨rfl,rfl⟩
     go_wp2_with fail
     go_ret
     exact ⟨ret_int hz.out.symm,hS.out⟩
    ·have hz:=Lib.hid (Ld.chk_bad (n:=n) hname hlm (.inr hs))
     clear hname hv0 hc0 hA0 hlim hlm hall hs
     go_enter Tryz.func66,Tryz.ntmps66
     go_wp2_with fail
     refine (hv.out _).mono ?_
     rintro e w1 ⟨rfl,hb1⟩
     have hS:=lds_first (r:=r) (A:=A) (c:=c) hb1
     obtain ⟨z0,z1,z2,z3⟩:=hS.cells
     clear hb1
     go_wp2_with fail
     refine (hc.out _ (hA.out.below hS.out)).mono ?_
     rintro e w2 ⟨rfl,rfl⟩
     go_wp2_with fail
     go_ret
     exact ⟨ret_int hz.out.symm,hS.out⟩
    ·have hz:=Lib.hid (Ld.chk_bad (n:=n) hname hlm (.inr hs))
     clear hname hv0 hc0 hA0 hlim hlm hall hs
     go_enter Tryz.func66,Tryz.ntmps66
     go_wp2_with fail
     refine (hv.out _).mono ?_
     rintro e w1 ⟨rfl,hb1⟩
     have hS:=lds_first (r:=r) (A:=A) (c:=c) hb1
     obtain ⟨z0,z1,z2,z3⟩:=hS.cells
     clear hb1
     go_wp2_with fail
     refine (hc.out _ (hA.out.below hS.out)).mono ?_
     rintro e w2 ⟨rfl,rfl⟩
     go_wp2_with fail
     go_ret
     exact ⟨ret_int hz.out.symm,hS.out⟩
    ·have hz:=Lib.hid (Ld.chk_bad (n:=n) hname hlm (.inr hs))
     have hw:IntKind.i64.wrap (r.late - r.early)=r.late - r.early:=IntWalk.i64_in _ (by omega)
     clear hname hv0 hc0 hA0 hlim hlm hall hs
     go_enter Tryz.func66,Tryz.ntmps66
     go_wp2_with fail
     refine (hv.out _).mono ?_
     rintro e w1 ⟨rfl,hb1⟩
     have hS:=lds_first (r:=r) (A:=A) (c:=c) hb1
     obtain ⟨z0,z1,z2,z3⟩:=hS.cells
     clear hb1
     go_wp2_with fail
     refine (hc.out _ (hA.out.below hS.out)).mono ?_
     rintro e w2 ⟨rfl,rfl⟩
     go_wp2_with fail
     go_ret
     exact ⟨ret_int hz.out.symm,hS.out⟩
    ·have hz:=Lib.hid (Ld.chk_ok (n:=n) hname hlm hall hs)
     have hw:IntKind.i64.wrap (r.late - r.early)=r.late - r.early:=IntWalk.i64_in _ (by omega)
     clear hname hv0 hc0 hA0 hlim hlm hall hs
     go_enter Tryz.func66,Tryz.ntmps66
     go_wp2_with fail
     refine (hv.out _).mono ?_
     rintro e w1 ⟨rfl,hb1⟩
     have hS:=lds_first (r:=r) (A:=A) (c:=c) hb1
     obtain ⟨z0,z1,z2,z3⟩:=hS.cells
     clear hb1
     go_wp2_with fail
     refine (hc.out _ (hA.out.below hS.out)).mono ?_
     rintro e w2 ⟨rfl,rfl⟩
     go_wp2_with fail
     go_ret
     exact ⟨ret_int hz.out.symm,hS.out⟩
  ·have hz:=Lib.hid (Ld.chk_lim (n:=n) hname (by unfold Ld.lim; rw [decide_eq_false hlim]))
   have hcs:(r.prof.length:Int) < 1 ∨ (¬ (r.prof.length:Int) < 1∧(24:Int) < (r.prof.length:Int)):=by omega
   clear hname hv0 hc0 hA0 hlim
   rcases hcs with q1 | ⟨q1,q2⟩
   all_goals
    go_enter Tryz.func66,Tryz.ntmps66
    go_wp2_with fail
    refine (hv.out _).mono ?_
    rintro e w1 ⟨rfl,hb1⟩
    have hS:=lds_first (r:=r) (A:=A) (c:=c) hb1
    obtain ⟨z0,z1,z2,z3⟩:=hS.cells
    clear hb1
    go_wp2_with fail
    go_ret
    exact ⟨ret_int hz.out.symm,hS.out⟩
set_option maxHeartbeats 8000000 in
theorem rlcheck_any (r:Ld) (A:Option Addr) (c:Nat) (n:Int) (w:World) (hA0:RInts w A r.prof) (hn:r.name.size ≤ maxLen) :
  Calls Tryz.prog 33 #[r.v A c,.int .i64 n] w fun e w' => e = .returned (.int .i64 (r.chk n))∧Below w.heap.size w w':=by
 have hv0:=fun W => rname_any r.name W hn
 have hA:=Lib.hid hA0
 simp only [Ld.v]
 cases hname:nameOk r.name
 ·have hz:=Lib.hid (Ld.chk_name (n:=n) hname)
  rw [hname] at hv0
  have hv:=Lib.hid hv0
  clear hname hv0 hA0
  go_enter Tryz.func33,Tryz.ntmps33
  go_wp2_with fail
  refine (hv.out _).mono ?_
  rintro e w1 ⟨rfl,rfl⟩
  have hS:LdS r A c w (ldW r A c w):=lds_first (Below.refl _ _)
  go_wp2_with fail
  go_ret
  exact ⟨ret_int hz.out.symm,hS.out⟩
 ·rw [hname] at hv0
  have hv:=Lib.hid hv0
  by_cases hlim:1 ≤ r.prof.length∧r.prof.length ≤ 24
  ·have hlm:r.lim=true:=by unfold Ld.lim; rw [decide_eq_true_iff]; exact hlim
   have hbad:Hid ((r.prof.all unitOk=false ∨ r.span n=false)→r.chk n=2):=fun h => Ld.chk_bad hname hlm h
   have hgood:Hid (r.prof.all unitOk=true→r.span n=true→r.chk n=0):=fun h h' => Ld.chk_ok hname hlm h h'
   have l1:¬ (r.prof.length:Int) < 1:=by omega
   have l2:¬ (24:Int) < (r.prof.length:Int):=by omega
   obtain ⟨L,hL⟩:∃ L,L=r.prof.length:=⟨_,rfl⟩
   have HL:=Lib.hid hL
   clear hname hv0 hA0 hlim hlm
   go_enter Tryz.func33,Tryz.ntmps33
   go_wp2_with fail
   refine (hv.out _).mono ?_
   rintro e w1 ⟨rfl,rfl⟩
   have hS:LdS r A c w (ldW r A c w):=lds_first (Below.refl _ _)
   go_wp2_with fail
   go_loopw [5] (fun i' wr => ∃ k:Nat,k ≤ L∧i' = .int .i64 k∧Hid ((r.prof.take k).all unitOk=true)∧wr=ldW r A c w)
    (fun i' _ => L - (intOf i').toNat)
   case atStart => exact ⟨0,by omega,rfl,rfl,rfl⟩
   case round =>
    obtain ⟨k,hk,rfl,hok,rfl⟩:=hrel
    obtain ⟨z0,z1,z2,z3⟩:=hS.cells
    rw [← hL] at z1
    clear hL
    by_cases hlt:k < L
    ·have hkl:k < r.prof.length:=by rw [← HL.out]; exact hlt
     obtain ⟨ba,oa,hAe,hab,hac⟩:=(hA.out.below hS.out).at' hkl
     subst hAe
     by_cases hu:unitOk r.prof[k]=true
     ·have hok':=Lib.hid (all_take_succ hkl hok.out hu)
      have hux:=unitOk_true.1 hu
      clear hu
      generalize r.prof[k]=x at *
      obtain ⟨u1,u2⟩:=hux
      have u1':¬ x < 0:=by omega
      have u2':¬ 1000 < x:=by omega
      go_wp2_with fail
      go_roundw
      case rel => exact ⟨k+1,by omega,by go_num,hok',trivial⟩
      case measure => simp [intOf]; omega
     ·have hfin:=Lib.hid (hbad.out (.inl (badAt_hit hkl (by simpa using hu))))
      have hux:r.prof[k] < 0 ∨ (¬ r.prof[k] < 0∧1000 < r.prof[k]):=by
       have:¬ (0 ≤ r.prof[k]∧r.prof[k] ≤ 1000):=fun h => hu (unitOk_true.2 h)
       omega
      clear hu
      generalize r.prof[k]=x at *
      rcases hux with u1 | ⟨u1,u2⟩
      all_goals
       go_wp2_with fail
       go_ret
       exact ⟨ret_int hfin.out.symm,hS.out⟩
    ·have hall:Hid (r.prof.all unitOk=true):=by
      have h:=hok.out
      rwa [List.take_of_length_le (by rw [← HL.out]; omega)] at h
     have hcs:(r.span n=false∧n < 1) ∨ (r.span n=false∧¬ n < 1∧96 < n) ∨ (r.span n=false∧¬ n < 1∧¬ 96 < n∧r.early < 0) ∨ (r.span n=false∧¬ n < 1∧¬ 96 < n∧¬ r.early < 0∧n < r.late) ∨
       (r.span n=false∧¬ n < 1∧¬ 96 < n∧¬ r.early < 0∧¬ n < r.late∧r.late < r.early) ∨ (r.span n=false∧¬ n < 1∧¬ 96 < n∧¬ r.early < 0∧¬ n < r.late∧¬ r.late < r.early∧r.late - r.early < (L:Int)) ∨
       (r.span n=true∧¬ n < 1∧¬ 96 < n∧¬ r.early < 0∧¬ n < r.late∧¬ r.late < r.early∧¬ r.late - r.early < (L:Int)):=by
      have:=HL.out
      simp only [Ld.span,decide_eq_true_iff,decide_eq_false_iff_not]; omega
     rcases hcs with ⟨hs,q1⟩ | ⟨hs,q1,q2⟩ | ⟨hs,q1,q2,q3⟩ | ⟨hs,q1,q2,q3,q4⟩ | ⟨hs,q1,q2,q3,q4,q5⟩ | ⟨hs,q1,q2,q3,q4,q5,q6⟩ | ⟨hs,q1,q2,q3,q4,q5,q6⟩
     ·have hz:=Lib.hid (hbad.out (.inr hs))
      clear hs
      go_wp2_with fail
      go_ret
      exact ⟨ret_int hz.out.symm,hS.out⟩
     ·have hz:=Lib.hid (hbad.out (.inr hs))
      clear hs
      go_wp2_with fail
      go_ret
      exact ⟨ret_int hz.out.symm,hS.out⟩
     ·have hz:=Lib.hid (hbad.out (.inr hs))
      clear hs
      go_wp2_with fail
      go_ret
      exact ⟨ret_int hz.out.symm,hS.out⟩
     ·have hz:=Lib.hid (hbad.out (.inr hs))
      clear hs
      go_wp2_with fail
      go_ret
      exact ⟨ret_int hz.out.symm,hS.out⟩
     ·have hz:=Lib.hid (hbad.out (.inr hs))
      clear hs
      go_wp2_with fail
      go_ret
      exact ⟨ret_int hz.out.symm,hS.out⟩
     ·have hz:=Lib.hid (hbad.out (.inr hs))
      have hw:IntKind.i64.wrap (r.late - r.early)=r.late - r.early:=IntWalk.i64_in _ (by omega)
      clear hs
      go_wp2_with fail
      go_ret
      exact ⟨ret_int hz.out.symm,hS.out⟩
     ·have hz:=Lib.hid (hgood.out hall.out hs)
      have hw:IntKind.i64.wrap (r.late - r.early)=r.late - r.early:=IntWalk.i64_in _ (by omega)
      clear hs
      go_wp2_with fail
      go_ret
      exact ⟨ret_int hz.out.symm,hS.out⟩
  ·have hz:=Lib.hid (Ld.chk_lim (n:=n) hname (by unfold Ld.lim; rw [decide_eq_false hlim]))
   have hcs:(r.prof.length:Int) < 1 ∨ (¬ (r.prof.length:Int) < 1∧(24:Int) < (r.prof.length:Int)):=by omega
   clear hname hv0 hA0 hlim
   rcases hcs with q1 | ⟨q1,q2⟩
   all_goals
    go_enter Tryz.func33,Tryz.ntmps33
    go_wp2_with fail
    refine (hv.out _).mono ?_
    rintro e w1 ⟨rfl,rfl⟩
    have hS:LdS r A c w (ldW r A c w):=lds_first (Below.refl _ _)
    go_wp2_with fail
    go_ret
    exact ⟨ret_int hz.out.symm,hS.out⟩
end Go.Proofs.YtnppngaabfhkpaaGreat
