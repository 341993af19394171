/-
  The walks of layer 40 (thermal), part 1: between, limited, Floor, the closure that computes a step.
-/
import Derived.Test.YtnppngaabfhkpaaGreatProg
import Derived.Test.YtnppngaabfhkpaaGreatE0Words
import Derived.Test.YtnppngaabfhkpaaGreatEBPlain
import Derived.Lib.Hide
import Derived.WalkLawsBesides
import Derived.Deep.QuietTactic
import Derived.BigQuiet
import Derived.Deep.RegionWith
namespace Go.Proofs.YtnppngaabfhkpaaGreat
open Go.RowKit
theorem quiet_left {P:Program} {f:FuncId} {args:Array Value} {w:World} {n:Nat} {v:Value}
  (h:Calls P f args (w.drewN n) fun e w' => e = .returned v∧w.drewN n=w'):Calls P f args (w.drewN n) fun e w'' => e = .returned v∧∃ m,w''=w.drewN m :=
 h.mono fun _ _ ⟨he,hm⟩ => ⟨he,n,hm.symm⟩
theorem tbetween_any (n lo hi:Int) (w:World) :
  Calls Tryz.prog 65 #[.int .i64 n,.int .i64 lo,.int .i64 hi] w fun e w' => e = .returned (.bool (wT n lo hi))∧w=w':=by
 unfold wT
 by_cases h:lo ≤ n
 all_goals
  go_enter Tryz.func65,Tryz.ntmps65
  go_wp2
  go_ret
  exact ⟨ret_bool (by first | (simp [h]; done) | (simp; omega)),rfl⟩
theorem limited_any (t:Int) (w:World):Calls Tryz.prog 83 #[.int .i64 t] w fun e w' => e = .returned (.int .i64 (limT t))∧w=w':=by
 have hcs:(t < -1000∧limT t = -1000) ∨ (-1000 ≤ t∧t ≤ 2000∧limT t=t) ∨ (2000 < t∧limT t=2000):=by
  unfold limT; split <;> (try split) <;> omega
 rcases hcs with ⟨h,hk⟩ | ⟨h,h',hk⟩ | ⟨h,hk⟩
 all_goals
  rw [hk]
  clear hk
  go_enter Tryz.func83,Tryz.ntmps83
  go_wp2
  go_ret
  exact ⟨rfl,rfl⟩
theorem tsat_any (n:Int) (w:World) (_h0 : -10000000 ≤ n) (_h1:n ≤ 10000000) :
  Calls Tryz.prog 99 #[.int .i64 n] w fun e w' => e = .returned (.int .i64 n)∧w=w':=by
 go_enter Tryz.func99,Tryz.ntmps99
 go_wp2
 all_goals first | omega | skip
 go_ret
 exact ⟨rfl,rfl⟩
theorem floor_any (a:Int) (w:World) (h0 : -10000000 ≤ a) (h1:a ≤ 10000000) :
  Calls Tryz.prog 84 #[.int .i64 a,.int .i64 1000] w fun e w' => e = .returned (.int .i64 (a / 1000))∧w=w':=by
 by_cases hp:0 ≤ a
 ·by_cases hm:a % 1000=0
  ·have e1:(a % 1000 != 0)=false:=by simp [hm]
   clear hm
   go_enter Tryz.func84,Tryz.ntmps84
   go_wp2_with (go_at_call 99; refine (tsat_any _ _ (by omega) (by omega)).mono ?_; rintro e w' ⟨rfl,rfl⟩)
   go_ret
   exact ⟨rfl,rfl⟩
  ·have e1:(a % 1000 != 0)=true:=by simp [hm]
   have e2:decide (a < 0)=false:=by simp; omega
   clear hm
   go_enter Tryz.func84,Tryz.ntmps84
   go_wp2_with (go_at_call 99; refine (tsat_any _ _ (by omega) (by omega)).mono ?_; rintro e w' ⟨rfl,rfl⟩)
   go_ret
   exact ⟨rfl,rfl⟩
 ·have hd:a.tdiv 1000 = -((-a) / 1000):=by
   have h:=Int.neg_tdiv (-a) 1000
   rw [Int.neg_neg] at h
   rw [h,Int.tdiv_eq_ediv_of_nonneg (by omega)]
  have hmod:a.tmod 1000=a - 1000 * a.tdiv 1000:=by have:=Int.tmod_add_mul_tdiv a 1000; omega
  by_cases hm:a.tmod 1000=0
  ·have e1:(a.tmod 1000 != 0)=false:=by simp [hm]
   have hr:a.tdiv 1000=a / 1000:=by omega
   have b1 : -10000000 ≤ a.tdiv 1000:=by omega
   have b2:a.tdiv 1000 ≤ 10000000:=by omega
   have HR:=Lib.hid hr
   clear hm hd hmod hr
   go_enter Tryz.func84,Tryz.ntmps84
   go_wp2_with (go_at_call 99; refine (tsat_any _ _ (by omega) (by omega)).mono ?_; rintro e w' ⟨rfl,rfl⟩)
   go_ret
   exact ⟨ret_int HR.out,rfl⟩
  ·have e1:(a.tmod 1000 != 0)=true:=by simp [hm]
   have hr:a.tdiv 1000 - 1=a / 1000:=by omega
   have b1 : -10000000 ≤ a.tdiv 1000:=by omega
   have b2:a.tdiv 1000 ≤ 10000000:=by omega
   have e2:decide (a < 0)=true:=by simp; omega
   have HR:=Lib.hid hr
   clear hm hd hmod hr
   go_enter Tryz.func84,Tryz.ntmps84
   go_wp2_with (go_at_call 99; refine (tsat_any _ _ (by omega) (by omega)).mono ?_; rintro e w' ⟨rfl,rfl⟩)
   go_ret
   exact ⟨ret_int HR.out,rfl⟩
theorem mul_bd {a b A B:Int} (h0:0 ≤ a) (h1:a ≤ A) (h2 : -B ≤ b) (h3:b ≤ B) (_hB:0 ≤ B) : -(A * B) ≤ a * b∧a * b ≤ A * B:=by
 constructor
 ·have e1:a * -B ≤ a * b:=Int.mul_le_mul_of_nonneg_left h2 h0
  have e2:a * B ≤ A * B:=Int.mul_le_mul_of_nonneg_right h1 (by omega)
  rw [Int.mul_neg] at e1
  omega
 ·have e1:a * b ≤ a * B:=Int.mul_le_mul_of_nonneg_left h3 h0
  have e2:a * B ≤ A * B:=Int.mul_le_mul_of_nonneg_right h1 (by omega)
  omega
set_option maxHeartbeats 400000 in
theorem model1_any (g l s temp out heat:Int) (B:Nat) (w:World) (g0:0 ≤ g) (g1:g ≤ 100) (l0:0 ≤ l) (l1:l ≤ 1000) (s0:0 ≤ s) (s1:s ≤ 40)
  (c0:w.cell? ⟨B,0,none⟩=some (.int .i64 g)) (c1:w.cell? ⟨B,1,none⟩=some (.int .i64 l)) (c2:w.cell? ⟨B,2,none⟩=some (.int .i64 s)) :
  Calls Tryz.prog 82 #[.int .i64 temp,.int .i64 out,.int .i64 heat,.pointer (some ⟨B,0,none⟩)] w fun e w' => e = .returned (.int .i64 (stepT g l s temp out heat))∧∃ n,w'=w.drewN n:=by
 have hH:(heat < 0∧heatT heat s=0) ∨ (0 ≤ heat∧s < heat∧heatT heat s=s) ∨ (0 ≤ heat∧heat ≤ s∧heatT heat s=heat):=by
  unfold heatT; split <;> (try split) <;> omega
 have hHb:=heatT_bd (h:=heat) s0
 obtain ⟨m1,m2⟩:=mul_bd g0 g1 (show -40 ≤ heatT heat s by omega) (by omega) (by omega)
 obtain ⟨t0,t1⟩:=limT_bd temp
 obtain ⟨o0,o1⟩:=limT_bd out
 obtain ⟨n1,n2⟩:=mul_bd l0 l1 (show -3000 ≤ limT temp - limT out by omega) (by omega) (by omega)
 have hlt:=limited_any temp
 have hlo:=limited_any out
 unfold stepT
 have hT:limT temp=limT temp:=rfl
 generalize limT temp=T at *
 generalize limT out=O at *
 have q1:IntKind.i64.wrap (T - O)=T - O:=IntWalk.i64_in _ (by omega)
 have q2:IntKind.i64.wrap (l * (T - O))=l * (T - O):=IntWalk.i64_in _ (by omega)
 have hfl:=fun w => floor_any (l * (T - O)) w (by omega) (by omega)
 have q3 : -10000000 ≤ l * (T - O) / 1000∧l * (T - O) / 1000 ≤ 10000000:=by omega
 obtain ⟨q4,q5⟩:=q3
 have q6:IntKind.i64.wrap (g * heatT heat s)=g * heatT heat s:=IntWalk.i64_in _ (by omega)
 have q7:IntKind.i64.wrap (T+g * heatT heat s)=T+g * heatT heat s:=IntWalk.i64_in _ (by omega)
 have q8:IntKind.i64.wrap (T+g * heatT heat s - l * (T - O) / 1000)=T+g * heatT heat s - l * (T - O) / 1000:=IntWalk.i64_in _ (by omega)
 clear hT
 rcases hH with ⟨k,hk⟩ | ⟨k,k',hk⟩ | ⟨k,k',hk⟩
 all_goals
  rw [hk] at m1 m2 q6 q7 q8 ⊢
  clear hk
  go_enter Tryz.func82,Tryz.ntmps82
  go_wp2_with (go_at_call 83; refine (hlt _).mono ?_; rintro e w' ⟨rfl,rfl⟩)
  go_quiet ((first | (go_at_call_of 83 (Value.int .i64 out); exact quiet_left (hlo _)) | (go_at_call 84; exact quiet_left (hfl _)) | (go_at_call 83; exact quiet_left (limited_any _ _))))
  go_wp2
  go_ret
  refine ⟨?_,_,rfl⟩
  simp
theorem getD_eq {l:List Int} {k:Nat} (h:k < l.length):l[k]=l.getD k 0:=by
 rw [List.getD_eq_getElem?_getD,List.getElem?_eq_getElem h]; rfl
set_option maxHeartbeats 4000000 in
theorem tcheck_size (r:Rm) (A B:Option Addr) (c d:Nat) (n:Int) (w:World) (h:r.sizeOk n=false) :
  Calls Tryz.prog 41 #[r.v A c B d,.int .i64 n] w fun e w' => e = .returned (.int .i64 3)∧Below w.heap.size w w':=by
 simp only [Rm.v]
 rcases Rm.size_false h with k | ⟨k,k2⟩ | ⟨k,k2,k3⟩
 ·have h1:wT n 1 96=false:=wT_false.2 k
  clear h k
  go_enter Tryz.func41,Tryz.ntmps41
  go_wp2_with (go_at_call 65; refine (tbetween_any _ _ _ _).mono ?_; rintro e w' ⟨rfl,rfl⟩)
  go_ret
  exact ⟨rfl,(Below.refl _ _).alloc (Nat.le_refl _) _⟩
 ·have h1:wT n 1 96=true:=wT_true.2 k
  have h2:((r.low.length:Int) != n)=true:=by rw [bne_iff_ne]; exact k2
  clear h k k2
  go_enter Tryz.func41,Tryz.ntmps41
  go_wp2_with (go_at_call 65; refine (tbetween_any _ _ _ _).mono ?_; rintro e w' ⟨rfl,rfl⟩)
  go_ret
  exact ⟨rfl,(Below.refl _ _).alloc (Nat.le_refl _) _⟩
 ·have h1:wT n 1 96=true:=wT_true.2 k
  have h2:((r.low.length:Int) != n)=false:=by rw [bne_eq_false_iff_eq]; exact k2
  have h3:((r.high.length:Int) != n)=true:=by rw [bne_iff_ne]; exact k3
  clear h k k2 k3
  go_enter Tryz.func41,Tryz.ntmps41
  go_wp2_with (go_at_call 65; refine (tbetween_any _ _ _ _).mono ?_; rintro e w' ⟨rfl,rfl⟩)
  go_ret
  exact ⟨rfl,(Below.refl _ _).alloc (Nat.le_refl _) _⟩
set_option maxHeartbeats 4000000 in
theorem tcheck_nums (r:Rm) (A B:Option Addr) (c d:Nat) (n:Int) (w:World) (h:r.sizeOk n=true) (hn:r.numsOk=false) :
  Calls Tryz.prog 41 #[r.v A c B d,.int .i64 n] w fun e w' => e = .returned (.int .i64 2)∧Below w.heap.size w w':=by
 simp only [Rm.v]
 obtain ⟨k1,k2,k3,k4⟩:=Rm.size_true h
 have h1:wT n 1 96=true:=wT_true.2 ⟨k1,k2⟩
 have h2:((r.low.length:Int) != n)=false:=by rw [bne_eq_false_iff_eq]; exact k3
 have h3:((r.high.length:Int) != n)=false:=by rw [bne_eq_false_iff_eq]; exact k4
 have hcs:wT r.gain 0 100=false ∨ (wT r.gain 0 100=true∧wT r.loss 0 1000=false) ∨ (wT r.gain 0 100=true∧wT r.loss 0 1000=true∧wT r.steps 0 40=false) ∨ (wT r.gain 0 100=true∧wT r.loss 0 1000=true∧wT r.steps 0 40=true∧wT r.power 0 1000=false):=by
  simp only [Rm.numsOk] at hn
  cases e1:wT r.gain 0 100 <;> cases e2:wT r.loss 0 1000 <;> cases e3:wT r.steps 0 40 <;> cases e4:wT r.power 0 1000 <;> simp_all
 clear h hn k1 k2 k3 k4
 rcases hcs with g1 | ⟨g1,g2⟩ | ⟨g1,g2,g3⟩ | ⟨g1,g2,g3,g4⟩
 all_goals
  go_enter Tryz.func41,Tryz.ntmps41
  go_wp2_with (go_at_call 65; refine (tbetween_any _ _ _ _).mono ?_; rintro e w' ⟨rfl,rfl⟩)
  go_ret
  exact ⟨rfl,(Below.refl _ _).alloc (Nat.le_refl _) _⟩
set_option maxHeartbeats 4000000 in
theorem tcheck_slots (r:Rm) (A B:Option Addr) (c d:Nat) (n:Int) (w:World) (h:r.sizeOk n=true) (hn:r.numsOk=true) (hA:RInts w A r.low) (hB:RInts w B r.high) :
  Calls Tryz.prog 41 #[r.v A c B d,.int .i64 n] w fun e w' => e = .returned (.int .i64 (r.slotErr r.low.length))∧Below w.heap.size w w':=by
 simp only [Rm.v]
 obtain ⟨k1,k2,k3,k4⟩:=Rm.size_true h
 have h1:wT n 1 96=true:=wT_true.2 ⟨k1,k2⟩
 have h2:((r.low.length:Int) != n)=false:=by rw [bne_eq_false_iff_eq]; exact k3
 have h3:((r.high.length:Int) != n)=false:=by rw [bne_eq_false_iff_eq]; exact k4
 simp only [Rm.numsOk,Bool.and_eq_true] at hn
 obtain ⟨g1,g2,g3,g4⟩:=hn
 have hLH:r.high.length=r.low.length:=by omega
 have hL:r.low.length ≤ 96:=by omega
 have HLH:=Lib.hid hLH
 have HA:=Lib.hid hA
 have HB:=Lib.hid hB
 rw [hLH] at h3 ⊢
 clear h k1 k2 k3 k4 hLH hA hB
 obtain ⟨L,hLe⟩:∃ L,L=r.low.length:=⟨_,rfl⟩
 rw [← hLe] at h2 h3 hL ⊢
 have HL:=Lib.hid hLe
 clear hLe
 go_enter Tryz.func41,Tryz.ntmps41
 go_wp2_with (go_at_call 65; refine (tbetween_any _ _ _ _).mono ?_; rintro e w' ⟨rfl,rfl⟩)
 go_loop [49] (fun i => ∃ k:Nat,k ≤ L∧i = .int .i64 k∧Hid (r.slotsTo k=true)) (fun i => L - (intOf i).toNat)
 case atStart => exact ⟨0,by omega,rfl,by show _=_; rfl⟩
 case round =>
  obtain ⟨k,hk,rfl,hsl⟩:=hrel
  by_cases hlt:k < L
  ·have hka:k < r.low.length:=by rw [← HL.out]; exact hlt
   have hkb:k < r.high.length:=by rw [HLH.out]; exact hka
   obtain ⟨ba,oa,hAe,hab,hac⟩:=HA.out.at' hka
   obtain ⟨bb,ob,hBe,hbb,hbc⟩:=HB.out.at' hkb
   subst hAe hBe
   have hac':=hac
   have hbc':=hbc
   rw [getD_eq hka] at hac'
   rw [getD_eq hkb] at hbc'
   have hss:=Lib.hid (Rm.slotsTo_succ r k)
   clear hac hbc
   generalize r.low.getD k 0=lo at *
   generalize r.high.getD k 0=hi at *
   have hcs:(lo < -500∧slotOk lo hi=false) ∨ (-500 ≤ lo∧hi < lo∧slotOk lo hi=false) ∨ (-500 ≤ lo∧lo ≤ hi∧1000 < hi∧slotOk lo hi=false) ∨ (-500 ≤ lo∧lo ≤ hi∧hi ≤ 1000∧slotOk lo hi=true):=by
    cases e:slotOk lo hi
    ·have:¬ (-500 ≤ lo∧lo ≤ hi∧hi ≤ 1000):=fun g => by rw [slotOk_true.2 g] at e; cases e
     simp; omega
    ·have:=slotOk_true.1 e
     simp; omega
   have hca:(w.alloc (.cells #[.int .i64 r.gain,.int .i64 r.loss,.int .i64 r.steps,.int .i64 r.power,.slice (some ⟨ba,oa,none⟩) L c,.slice (some ⟨bb,ob,none⟩) L d] 28)).cell? ⟨ba,oa+k,none⟩=some (.int .i64 lo) :=
    (World.cell?_alloc_lt w _ _ hab).trans hac'
   have hcb:(w.alloc (.cells #[.int .i64 r.gain,.int .i64 r.loss,.int .i64 r.steps,.int .i64 r.power,.slice (some ⟨ba,oa,none⟩) L c,.slice (some ⟨bb,ob,none⟩) L d] 28)).cell? ⟨bb,ob+k,none⟩=some (.int .i64 hi) :=
    (World.cell?_alloc_lt w _ _ hbb).trans hbc'
   clear hac' hbc'
   rcases hcs with ⟨m1,m2⟩ | ⟨m1,m2,m3⟩ | ⟨m1,m2,m3,m4⟩ | ⟨m1,m2,m3,m4⟩
   ·have hf:Hid (r.slotErr L=2):=by
     show _=_
     unfold Rm.slotErr
     rw [if_neg]
     rw [Rm.slotsTo_le (k:=k+1) (by rw [hss.out,m2,Bool.and_false]) (by omega)]; simp
    clear m2
    go_wp2_with fail
    go_ret
    exact ⟨ret_int hf.out.symm,(Below.refl _ _).alloc (Nat.le_refl _) _⟩
   ·have hf:Hid (r.slotErr L=2):=by
     show _=_
     unfold Rm.slotErr
     rw [if_neg]
     rw [Rm.slotsTo_le (k:=k+1) (by rw [hss.out,m3,Bool.and_false]) (by omega)]; simp
    clear m3
    go_wp2_with fail
    go_ret
    exact ⟨ret_int hf.out.symm,(Below.refl _ _).alloc (Nat.le_refl _) _⟩
   ·have hf:Hid (r.slotErr L=2):=by
     show _=_
     unfold Rm.slotErr
     rw [if_neg]
     rw [Rm.slotsTo_le (k:=k+1) (by rw [hss.out,m4,Bool.and_false]) (by omega)]; simp
    clear m4
    go_wp2_with fail
    go_ret
    exact ⟨ret_int hf.out.symm,(Below.refl _ _).alloc (Nat.le_refl _) _⟩
   ·have hn:Hid (r.slotsTo (k+1)=true):=by show _=_; rw [hss.out,hsl.out,m4]; rfl
    clear m4
    go_wp2_with fail
    go_round
    case rel => exact ⟨k+1,by omega,by go_num,hn⟩
    case measure => simp [intOf]; omega
  ·obtain rfl:k=L:=by omega
   go_wp2_with fail
   go_ret
   exact ⟨ret_int (by unfold Rm.slotErr; rw [if_pos hsl.out]),(Below.refl _ _).alloc (Nat.le_refl _) _⟩
theorem tcheck_any (r:Rm) (A B:Option Addr) (c d:Nat) (n:Int) (w:World) (hA:RInts w A r.low) (hB:RInts w B r.high) :
  Calls Tryz.prog 41 #[r.v A c B d,.int .i64 n] w fun e w' => e = .returned (.int .i64 (r.chk n))∧Below w.heap.size w w':=by
 by_cases h1:r.sizeOk n=true
 ·by_cases h2:r.numsOk=true
  ·have h:=tcheck_slots r A B c d n w h1 h2 hA hB
   have e:r.chk n=r.slotErr r.low.length:=by unfold Rm.chk Rm.slotErr; rw [if_pos h1,if_pos h2]
   rw [e]; exact h
  ·simp only [Bool.not_eq_true] at h2
   rw [Rm.chk_nums h1 h2]; exact tcheck_nums r A B c d n w h1 h2
 ·simp only [Bool.not_eq_true] at h1
  rw [Rm.chk_size h1]; exact tcheck_size r A B c d n w h1
end Go.Proofs.YtnppngaabfhkpaaGreat
