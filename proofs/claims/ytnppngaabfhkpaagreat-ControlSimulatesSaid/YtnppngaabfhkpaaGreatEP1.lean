/-
  The walks of layer 38 (tariff) and 42 (plan), part 1: tests of an element, IndexFunc and ContainsFunc with them, within and All, Clamp.
-/
import Derived.Test.YtnppngaabfhkpaaGreatProg
import Derived.Test.YtnppngaabfhkpaaGreatE0Words
import Derived.Test.YtnppngaabfhkpaaGreatEPP1
import Derived.Lib.Hide
import Derived.Deep.QuietTactic
import Derived.BigQuiet
import Derived.WalkLawsBesides
import Derived.Deep.RegionWith
namespace Go.Proofs.YtnppngaabfhkpaaGreat
open Go.RowKit
theorem wB_cases (n lo hi:Int):(n < lo∧wB n lo hi=false) ∨ (¬ n < lo∧hi < n∧wB n lo hi=false) ∨ (¬ n < lo∧¬ hi < n∧wB n lo hi=true):=by
 cases h:wB n lo hi
 ·have g:=wB_false.1 h
  by_cases g2:n < lo
  ·exact .inl ⟨g2,rfl⟩
  ·exact .inr (.inl ⟨g2,by omega,rfl⟩)
 ·have g:=wB_true.1 h
  exact .inr (.inr ⟨by omega,by omega,rfl⟩)
theorem high_any (n:Int) (w:World):Calls Tryz.prog 61 #[.int .i64 n] w fun e w' => e = .returned (.bool (!wB n 0 1000000))∧w=w':=by
 rcases wB_cases n 0 1000000 with ⟨h,hk⟩ | ⟨h,h2,hk⟩ | ⟨h,h2,hk⟩
 all_goals
  rw [hk]
  clear hk
  go_enter Tryz.func61,Tryz.ntmps61
  go_wp2_with fail
  go_ret
  exact ⟨rfl,rfl⟩
theorem within1_any (n lo hi:Int) (P Q:Addr) (w:World) (hP:w.cell? P=some (.int .i64 lo)) (hQ:w.cell? Q=some (.int .i64 hi)):Calls Tryz.prog 63 #[.int .i64 n,.pointer (some P),.pointer (some Q)] w fun e w' => e = .returned (.bool (!wB n lo hi))∧w=w':=by
 rcases wB_cases n lo hi with ⟨h,hk⟩ | ⟨h,h2,hk⟩ | ⟨h,h2,hk⟩
 all_goals
  rw [hk]
  clear hk
  go_enter Tryz.func63,Tryz.ntmps63
  go_wp2_with fail
  go_ret
  exact ⟨rfl,rfl⟩
def IndexB (l:List Int) (lo hi:Int) (e:Ending):Prop := ∃ x:Int,e = .returned (.int .i64 x)∧decide (0 ≤ x) = !(allB l lo hi)
set_option maxHeartbeats 4000000 in
theorem index_high (A:Option Addr) (c:Nat) (l:List Int) (w:World) (hA:RInts w A l) (hl:l.length < 9223372036854775807) :
  Calls Tryz.prog 85 #[.slice A l.length c,.func (.func 61) #[] #[]] w fun e w' => IndexB l 0 1000000 e∧w=w':=by
 obtain ⟨n,hn⟩:∃ n,n=l.length:=⟨_,rfl⟩
 have HN:=Lib.hid hn
 have HA:=Lib.hid hA
 rw [← hn] at hl ⊢
 clear hn hA
 go_enter Tryz.func85,Tryz.ntmps85
 go_wp2_with fail
 go_loopw [5,8] (fun _ i' wr => ∃ k:Nat,k ≤ n∧i' = .int .i64 k∧Hid (allB (l.take k) 0 1000000=true)∧w=wr)
  (fun _ i' _ => n - (intOf i').toNat)
 case atStart => exact ⟨0,by omega,rfl,rfl,rfl⟩
 case round =>
  obtain ⟨k,hk,rfl,hok,rfl⟩:=hrel
  by_cases hlt:k < n
  ·have hkl:k < l.length:=by rw [← HN.out]; exact hlt
   obtain ⟨ba,oa,hAe,hab,hac⟩:=HA.out.at' hkl
   subst hAe
   cases hu:wB l[k] 0 1000000
   ·have hfin:=Lib.hid (allB_hit hkl hu)
    have hb:=Lib.hid (high_any l[k] w)
    rw [hu] at hb
    clear hu
    generalize l[k]=x at *
    go_wp2_with fail
    refine hb.out.mono ?_
    rintro e w1 ⟨rfl,rfl⟩
    go_wp2_with fail
    go_ret
    exact ⟨⟨k,rfl,by rw [hfin.out]; simp⟩,rfl⟩
   ·have hok':=Lib.hid (allB_take hkl hok.out hu)
    have hb:=Lib.hid (high_any l[k] w)
    rw [hu] at hb
    clear hu
    generalize l[k]=x at *
    go_wp2_with fail
    refine hb.out.mono ?_
    rintro e w1 ⟨rfl,rfl⟩
    go_wp2_with fail
    go_roundw
    case rel => exact ⟨k+1,by omega,by go_num,hok',trivial⟩
    case measure => simp [intOf]; omega
  ·have hfin:Hid (allB l 0 1000000=true):=allB_end hok.out (by rw [← HN.out]; omega)
   go_wp2_with fail
   go_ret
   exact ⟨⟨-1,rfl,by rw [hfin.out]; rfl⟩,rfl⟩
theorem contains_high (A:Option Addr) (c:Nat) (l:List Int) (w:World) (hA:RInts w A l) (hl:l.length < 9223372036854775807) :
  Calls Tryz.prog 62 #[.slice A l.length c,.func (.func 61) #[] #[]] w fun e w' => e = .returned (.bool (!(allB l 0 1000000)))∧w=w':=by
 have h:=Lib.hid (index_high A c l w hA hl)
 generalize l.length=n at *
 clear hA hl
 go_enter Tryz.func62,Tryz.ntmps62
 go_wp2_with fail
 refine h.out.mono ?_
 rintro e w1 ⟨⟨x,rfl,hx⟩,rfl⟩
 have HX:=Lib.hid hx
 clear hx
 go_wp2_with fail
 go_ret
 exact ⟨ret_bool HX.out,rfl⟩
set_option maxHeartbeats 4000000 in
theorem index_within (A:Option Addr) (c:Nat) (l:List Int) (lo hi:Int) (P Q:Addr) (w:World) (hA:RInts w A l) (hl:l.length < 9223372036854775807) (hP:w.cell? P=some (.int .i64 lo)) (hQ:w.cell? Q=some (.int .i64 hi)) :
  Calls Tryz.prog 85 #[.slice A l.length c,.func (.func 63) #[] #[.pointer (some P),.pointer (some Q)]] w fun e w' => IndexB l lo hi e∧w=w':=by
 obtain ⟨n,hn⟩:∃ n,n=l.length:=⟨_,rfl⟩
 have HN:=Lib.hid hn
 have HA:=Lib.hid hA
 have HP:=Lib.hid hP
 have HQ:=Lib.hid hQ
 clear hP hQ
 rw [← hn] at hl ⊢
 clear hn hA
 go_enter Tryz.func85,Tryz.ntmps85
 go_wp2_with fail
 go_loopw [5,8] (fun _ i' wr => ∃ k:Nat,k ≤ n∧i' = .int .i64 k∧Hid (allB (l.take k) lo hi=true)∧w=wr)
  (fun _ i' _ => n - (intOf i').toNat)
 case atStart => exact ⟨0,by omega,rfl,rfl,rfl⟩
 case round =>
  obtain ⟨k,hk,rfl,hok,rfl⟩:=hrel
  by_cases hlt:k < n
  ·have hkl:k < l.length:=by rw [← HN.out]; exact hlt
   obtain ⟨ba,oa,hAe,hab,hac⟩:=HA.out.at' hkl
   subst hAe
   cases hu:wB l[k] lo hi
   ·have hfin:=Lib.hid (allB_hit hkl hu)
    have hb:=Lib.hid (within1_any l[k] lo hi P Q w HP.out HQ.out)
    rw [hu] at hb
    clear hu
    generalize l[k]=x at *
    go_wp2_with fail
    refine hb.out.mono ?_
    rintro e w1 ⟨rfl,rfl⟩
    go_wp2_with fail
    go_ret
    exact ⟨⟨k,rfl,by rw [hfin.out]; simp⟩,rfl⟩
   ·have hok':=Lib.hid (allB_take hkl hok.out hu)
    have hb:=Lib.hid (within1_any l[k] lo hi P Q w HP.out HQ.out)
    rw [hu] at hb
    clear hu
    generalize l[k]=x at *
    go_wp2_with fail
    refine hb.out.mono ?_
    rintro e w1 ⟨rfl,rfl⟩
    go_wp2_with fail
    go_roundw
    case rel => exact ⟨k+1,by omega,by go_num,hok',trivial⟩
    case measure => simp [intOf]; omega
  ·have hfin:Hid (allB l lo hi=true):=allB_end hok.out (by rw [← HN.out]; omega)
   go_wp2_with fail
   go_ret
   exact ⟨⟨-1,rfl,by rw [hfin.out]; rfl⟩,rfl⟩
theorem contains_within (A:Option Addr) (c:Nat) (l:List Int) (lo hi:Int) (P Q:Addr) (w:World) (hA:RInts w A l) (hl:l.length < 9223372036854775807) (hP:w.cell? P=some (.int .i64 lo)) (hQ:w.cell? Q=some (.int .i64 hi)) :
  Calls Tryz.prog 62 #[.slice A l.length c,.func (.func 63) #[] #[.pointer (some P),.pointer (some Q)]] w fun e w' => e = .returned (.bool (!(allB l lo hi)))∧w=w':=by
 have h:=Lib.hid (index_within A c l lo hi P Q w hA hl hP hQ)
 generalize l.length=n at *
 clear hA hl hP hQ
 go_enter Tryz.func62,Tryz.ntmps62
 go_wp2_with fail
 refine h.out.mono ?_
 rintro e w1 ⟨⟨x,rfl,hx⟩,rfl⟩
 have HX:=Lib.hid hx
 clear hx
 go_wp2_with fail
 go_ret
 exact ⟨ret_bool HX.out,rfl⟩
theorem pwithin_any (A:Option Addr) (c:Nat) (l:List Int) (lo hi:Int) (w:World) (hA:RInts w A l) (hl:l.length < 9223372036854775807) :
  Calls Tryz.prog 39 #[.slice A l.length c,.int .i64 lo,.int .i64 hi] w fun e w' => e = .returned (.bool (allB l lo hi))∧Below w.heap.size w w':=by
 have h:=Lib.hid (fun W (h1:RInts W A l) P Q (hP:W.cell? P=some (.int .i64 lo)) (hQ:W.cell? Q=some (.int .i64 hi)) => contains_within A c l lo hi P Q W h1 hl hP hQ)
 have HA:=Lib.hid hA
 obtain ⟨n,hn⟩:∃ n,n=l.length:=⟨_,rfl⟩
 rw [← hn] at h ⊢
 clear hA hl hn
 generalize allB l lo hi=r at *
 go_enter Tryz.func39,Tryz.ntmps39
 go_wp2_with fail
 have hb:Below w.heap.size w ((w.alloc (.cells #[.int .i64 lo] 3)).alloc (.cells #[.int .i64 hi] 3)):=((Below.refl _ _).alloc (Nat.le_refl _) _).alloc (by simp) _
 refine (h.out _ (HA.out.below hb) _ _ (by simp [World.cell?_alloc_lt]) (by simp)).mono ?_
 rintro e w1 ⟨rfl,rfl⟩
 go_wp2_with fail
 go_ret
 exact ⟨ret_bool (by simp),hb⟩
set_option maxHeartbeats 4000000 in
theorem rAll_any (A:Option Addr) (c:Nat) (l:List Int) (lo hi:Int) (w:World) (hA:RInts w A l) (hl:l.length < 9223372036854775807) :
  Calls Tryz.prog 17 #[.slice A l.length c,.int .i64 lo,.int .i64 hi] w fun e w' => e = .returned (.bool (allB l lo hi))∧Below w.heap.size w w':=by
 obtain ⟨n,hn⟩:∃ n,n=l.length:=⟨_,rfl⟩
 have HN:=Lib.hid hn
 have HA:=Lib.hid hA
 rw [← hn] at hl ⊢
 clear hn hA
 go_enter Tryz.func17,Tryz.ntmps17
 go_wp2_with fail
 go_loopw [7,10] (fun _ i' wr => ∃ k:Nat,k ≤ n∧i' = .int .i64 k∧Hid (allB (l.take k) lo hi=true)∧Below w.heap.size w wr)
  (fun _ i' _ => n - (intOf i').toNat)
 case atStart => exact ⟨0,by omega,rfl,rfl,Below.refl _ _⟩
 case round =>
  obtain ⟨k,hk,rfl,hok,hBw⟩:=hrel
  have HB:=Lib.hid hBw
  clear hBw
  by_cases hlt:k < n
  ·have hkl:k < l.length:=by rw [← HN.out]; exact hlt
   obtain ⟨ba,oa,hAe,hab,hac⟩:=(HA.out.below HB.out).at' hkl
   subst hAe
   have i1:(0:Int) ≤ (k:Int):=by omega
   have i2:(k:Int) < (n:Int):=by omega
   rcases wB_cases l[k] lo hi with ⟨h,hu⟩ | ⟨h,h2,hu⟩ | ⟨h,h2,hu⟩
   ·have hfin:=Lib.hid (allB_hit hkl hu)
    clear hu
    generalize l[k]=x at *
    go_wp2_with fail
    go_ret
    exact ⟨ret_bool hfin.out.symm,HB.out⟩
   ·have hfin:=Lib.hid (allB_hit hkl hu)
    clear hu
    generalize l[k]=x at *
    go_wp2_with fail
    go_ret
    exact ⟨ret_bool hfin.out.symm,HB.out⟩
   ·have hok':=Lib.hid (allB_take hkl hok.out hu)
    clear hu
    generalize l[k]=x at *
    go_wp2_with fail
    go_roundw
    case rel => exact ⟨k+1,by omega,by go_num,hok',HB.out⟩
    case measure => simp [intOf]; omega
  ·have hfin:Hid (allB l lo hi=true):=allB_end hok.out (by rw [← HN.out]; omega)
   go_wp2_with fail
   go_ret
   exact ⟨ret_bool hfin.out.symm,HB.out⟩
theorem pclamp_any (t:Int) (w:World) :
  Calls Tryz.prog 109 #[.int .i64 t,.int .i64 (-1000),.int .i64 1000] w fun e w' => e = .returned (.int .i64 (limP t))∧w=w':=by
 have hcs:(t < -1000∧limP t = -1000) ∨ (-1000 ≤ t∧t ≤ 1000∧limP t=t) ∨ (1000 < t∧limP t=1000):=by
  unfold limP; split <;> (try split) <;> omega
 rcases hcs with ⟨h,hk⟩ | ⟨h,h',hk⟩ | ⟨h,hk⟩
 all_goals
  rw [hk]
  clear hk
  go_enter Tryz.func109,Tryz.ntmps109
  go_wp2
  go_ret
  exact ⟨rfl,rfl⟩
theorem rpclamp_any (t:Int) (w:World) :
  Calls Tryz.prog 77 #[.int .i64 t,.int .i64 (-1000),.int .i64 1000] w fun e w' => e = .returned (.int .i64 (limP t))∧w=w':=by
 have hcs:(t < -1000∧limP t = -1000) ∨ (-1000 ≤ t∧t ≤ 1000∧limP t=t) ∨ (1000 < t∧limP t=1000):=by
  unfold limP; split <;> (try split) <;> omega
 rcases hcs with ⟨h,hk⟩ | ⟨h,h',hk⟩ | ⟨h,hk⟩
 all_goals
  rw [hk]
  clear hk
  go_enter Tryz.func77,Tryz.ntmps77
  go_wp2
  go_ret
  exact ⟨rfl,rfl⟩
end Go.Proofs.YtnppngaabfhkpaaGreat
