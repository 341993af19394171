/-
  The walks of layer 40 (thermal), the reference, part 1: Clamp, Floor, limit, Check, valid.
-/
import Derived.Test.YtnppngaabfhkpaaGreatET3
namespace Go.Proofs.YtnppngaabfhkpaaGreat
open Go.RowKit
theorem rsat_any (n:Int) (w:World) (_h0 : -10000000 ≤ n) (_h1:n ≤ 10000000) :
  Calls Tryz.prog 97 #[.int .i64 n] w fun e w' => e = .returned (.int .i64 n)∧w=w':=by
 go_enter Tryz.func97,Tryz.ntmps97
 go_wp2
 go_ret
 exact ⟨rfl,rfl⟩
theorem clamp_heat (h s:Int) (w:World) (s0:0 ≤ s) :
  Calls Tryz.prog 77 #[.int .i64 h,.int .i64 0,.int .i64 s] w fun e w' => e = .returned (.int .i64 (heatT h s))∧w=w':=by
 have hH:(s < h∧heatT h s=s) ∨ (h ≤ s∧h < 0∧heatT h s=0) ∨ (0 ≤ h∧h ≤ s∧heatT h s=h):=by
  unfold heatT; split <;> (try split) <;> omega
 rcases hH with ⟨k,hk⟩ | ⟨k,k',hk⟩ | ⟨k,k',hk⟩
 all_goals
  rw [hk]
  clear hk
  go_enter Tryz.func77,Tryz.ntmps77
  go_wp2
  go_ret
  exact ⟨rfl,rfl⟩
theorem clamp_temp (t:Int) (w:World) :
  Calls Tryz.prog 77 #[.int .i64 t,.int .i64 (-1000),.int .i64 2000] w fun e w' => e = .returned (.int .i64 (limT t))∧w=w':=by
 have hcs:(t < -1000∧limT t = -1000) ∨ (-1000 ≤ t∧t ≤ 2000∧limT t=t) ∨ (2000 < t∧limT t=2000):=by
  unfold limT; split <;> (try split) <;> omega
 rcases hcs with ⟨h,hk⟩ | ⟨h,h',hk⟩ | ⟨h,hk⟩
 all_goals
  rw [hk]
  clear hk
  go_enter Tryz.func77,Tryz.ntmps77
  go_wp2
  go_ret
  exact ⟨rfl,rfl⟩
theorem rlimit_any (t:Int) (w:World):Calls Tryz.prog 76 #[.int .i64 t] w fun e w' => e = .returned (.int .i64 (limT t))∧w=w':=by
 go_enter Tryz.func76,Tryz.ntmps76
 go_wp2_with (go_at_call 77; refine (clamp_temp _ _).mono ?_; rintro e w' ⟨rfl,rfl⟩)
 go_ret
 exact ⟨rfl,rfl⟩
theorem rfloor_any (a:Int) (w:World) (h0 : -10000000 ≤ a) (h1:a ≤ 10000000) :
  Calls Tryz.prog 78 #[.int .i64 a,.int .i64 1000] w fun e w' => e = .returned (.int .i64 (a / 1000))∧w=w':=by
 by_cases hp:0 ≤ a
 ·by_cases hm:a % 1000=0
  ·have e1:(a % 1000 != 0)=false:=by simp [hm]
   clear hm
   go_enter Tryz.func78,Tryz.ntmps78
   go_wp2_with (go_at_call 97; refine (rsat_any _ _ (by omega) (by omega)).mono ?_; rintro e w' ⟨rfl,rfl⟩)
   go_ret
   exact ⟨rfl,rfl⟩
  ·have e1:(a % 1000 != 0)=true:=by simp [hm]
   have e2:decide (a < 0)=false:=by simp; omega
   clear hm
   go_enter Tryz.func78,Tryz.ntmps78
   go_wp2_with (go_at_call 97; refine (rsat_any _ _ (by omega) (by omega)).mono ?_; rintro e w' ⟨rfl,rfl⟩)
   go_ret
   exact ⟨rfl,rfl⟩
 ·have hd:a.tdiv 1000 = -((-a) / 1000):=by
   have h:=Int.neg_tdiv (-a) 1000
   rw [Int.neg_neg] at h
   rw [h,Int.tdiv_eq_ediv_of_nonneg (by omega)]
  have hmod:a.tmod 1000=a - 1000 * a.tdiv 1000:=by have:=Int.tmod_add_mul_tdiv a 1000; omega
  by_cases hm:a.tmod 1000=0
  ·have e1:(a.tmod 1000 != 0)=false:=by simp [hm]
   have hr:a.tdiv 1000=a / 1000:=by omega
   have b1 : -10000000 ≤ a.tdiv 1000:=by omega
   have b2:a.tdiv 1000 ≤ 10000000:=by omega
   have HR:=Lib.hid hr
   clear hm hd hmod hr
   go_enter Tryz.func78,Tryz.ntmps78
   go_wp2_with (go_at_call 97; refine (rsat_any _ _ (by omega) (by omega)).mono ?_; rintro e w' ⟨rfl,rfl⟩)
   go_ret
   exact ⟨ret_int HR.out,rfl⟩
  ·have e1:(a.tmod 1000 != 0)=true:=by simp [hm]
   have hr:a.tdiv 1000 - 1=a / 1000:=by omega
   have b1 : -10000000 ≤ a.tdiv 1000:=by omega
   have b2:a.tdiv 1000 ≤ 10000000:=by omega
   have e2:decide (a < 0)=true:=by simp; omega
   have HR:=Lib.hid hr
   clear hm hd hmod hr
   go_enter Tryz.func78,Tryz.ntmps78
   go_wp2_with (go_at_call 97; refine (rsat_any _ _ (by omega) (by omega)).mono ?_; rintro e w' ⟨rfl,rfl⟩)
   go_ret
   exact ⟨ret_int HR.out,rfl⟩
set_option maxHeartbeats 4000000 in
theorem rtcheck_size (r:Rm) (A B:Option Addr) (c d:Nat) (n:Int) (w:World) (h:r.sizeOk n=false) :
  Calls Tryz.prog 19 #[r.v A c B d,.int .i64 n] w fun e w' => e = .returned (.int .i64 3)∧Below w.heap.size w w':=by
 simp only [Rm.v]
 rcases Rm.size_false h with k | ⟨k,k2⟩ | ⟨k,k2,k3⟩
 ·have hcs:n < 1 ∨ (1 ≤ n∧96 < n):=by omega
  clear h k
  rcases hcs with k | ⟨k,k'⟩
  all_goals
   go_enter Tryz.func19,Tryz.ntmps19
   go_wp2_with fail
   go_ret
   exact ⟨rfl,(Below.refl _ _).alloc (Nat.le_refl _) _⟩
 ·have h2:((r.low.length:Int) != n)=true:=by rw [bne_iff_ne]; exact k2
  obtain ⟨k1,k3⟩:=k
  clear h k2
  go_enter Tryz.func19,Tryz.ntmps19
  go_wp2_with fail
  go_ret
  exact ⟨rfl,(Below.refl _ _).alloc (Nat.le_refl _) _⟩
 ·have h2:((r.low.length:Int) != n)=false:=by rw [bne_eq_false_iff_eq]; exact k2
  have h3:((r.high.length:Int) != n)=true:=by rw [bne_iff_ne]; exact k3
  obtain ⟨k4,k5⟩:=k
  clear h k2 k3
  go_enter Tryz.func19,Tryz.ntmps19
  go_wp2_with fail
  go_ret
  exact ⟨rfl,(Below.refl _ _).alloc (Nat.le_refl _) _⟩
theorem nums_false {r:Rm} (h:r.numsOk=false):r.gain < 0 ∨ (0 ≤ r.gain∧100 < r.gain) ∨ (0 ≤ r.gain∧r.gain ≤ 100∧r.loss < 0) ∨ (0 ≤ r.gain∧r.gain ≤ 100∧0 ≤ r.loss∧1000 < r.loss) ∨
  (0 ≤ r.gain∧r.gain ≤ 100∧0 ≤ r.loss∧r.loss ≤ 1000∧r.steps < 0) ∨ (0 ≤ r.gain∧r.gain ≤ 100∧0 ≤ r.loss∧r.loss ≤ 1000∧0 ≤ r.steps∧40 < r.steps) ∨
  (0 ≤ r.gain∧r.gain ≤ 100∧0 ≤ r.loss∧r.loss ≤ 1000∧0 ≤ r.steps∧r.steps ≤ 40∧r.power < 0) ∨ (0 ≤ r.gain∧r.gain ≤ 100∧0 ≤ r.loss∧r.loss ≤ 1000∧0 ≤ r.steps∧r.steps ≤ 40∧0 ≤ r.power∧1000 < r.power):=by
 have:¬ ((0 ≤ r.gain∧r.gain ≤ 100)∧(0 ≤ r.loss∧r.loss ≤ 1000)∧(0 ≤ r.steps∧r.steps ≤ 40)∧(0 ≤ r.power∧r.power ≤ 1000)):=fun g => by
  have:r.numsOk=true:=by
   simp only [Rm.numsOk,Bool.and_eq_true,wT_true]
   exact g
  rw [this] at h; cases h
 omega
set_option maxHeartbeats 8000000 in
theorem rtcheck_nums (r:Rm) (A B:Option Addr) (c d:Nat) (n:Int) (w:World) (h:r.sizeOk n=true) (hn:r.numsOk=false) :
  Calls Tryz.prog 19 #[r.v A c B d,.int .i64 n] w fun e w' => e = .returned (.int .i64 2)∧Below w.heap.size w w':=by
 simp only [Rm.v]
 obtain ⟨k1,k2,k3,k4⟩:=Rm.size_true h
 have h2:((r.low.length:Int) != n)=false:=by rw [bne_eq_false_iff_eq]; exact k3
 have h3:((r.high.length:Int) != n)=false:=by rw [bne_eq_false_iff_eq]; exact k4
 have hcs:=nums_false hn
 clear h hn k3 k4
 rcases hcs with g | ⟨g,g2⟩ | ⟨g,g2,g3⟩ | ⟨g,g2,g3,g4⟩ | ⟨g,g2,g3,g4,g5⟩ | ⟨g,g2,g3,g4,g5,g6⟩ | ⟨g,g2,g3,g4,g5,g6,g7⟩ | ⟨g,g2,g3,g4,g5,g6,g7,g8⟩
 all_goals
  go_enter Tryz.func19,Tryz.ntmps19
  go_wp2_with fail
  go_ret
  exact ⟨rfl,(Below.refl _ _).alloc (Nat.le_refl _) _⟩
set_option maxHeartbeats 8000000 in
theorem rtcheck_slots (r:Rm) (A B:Option Addr) (c d:Nat) (w:World) (h:r.sizeOk r.low.length=true) (hn:r.numsOk=true) (hA:RInts w A r.low) (hB:RInts w B r.high) :
  Calls Tryz.prog 19 #[r.v A c B d,.int .i64 r.low.length] w fun e w' => e = .returned (.int .i64 (r.slotErr r.low.length))∧Below w.heap.size w w':=by
 simp only [Rm.v]
 obtain ⟨k1,k2,_,k4⟩:=Rm.size_true h
 have hLH:r.high.length=r.low.length:=by omega
 simp only [Rm.numsOk,Bool.and_eq_true,wT_true] at hn
 obtain ⟨⟨g1,g2⟩,⟨g3,g4⟩,⟨g5,g6⟩,g7,g8⟩:=hn
 have HLH:=Lib.hid hLH
 have HA:=Lib.hid hA
 have HB:=Lib.hid hB
 rw [hLH]
 clear h k4 hLH hA hB
 obtain ⟨L,hLe⟩:∃ L,L=r.low.length:=⟨_,rfl⟩
 rw [← hLe] at k1 k2 ⊢
 have HL:=Lib.hid hLe
 clear hLe
 have h2:((L:Int) != (L:Int))=false:=by simp
 have q1:decide ((L:Int) < 1)=false:=by rw [decide_eq_false_iff_not]; omega
 have q2:decide ((96:Int) < (L:Int))=false:=by rw [decide_eq_false_iff_not]; omega
 go_enter Tryz.func19,Tryz.ntmps19
 go_wp2_with fail
 go_loopw [5] (fun i wr => ∃ k:Nat,k ≤ L∧i = .int .i64 k∧Hid (r.slotsTo k=true) ∧
   Below (w.heap.size+1) (w.alloc (.cells #[.int .i64 r.gain,.int .i64 r.loss,.int .i64 r.steps,.int .i64 r.power,.slice A L c,.slice B L d] 28)) wr)
  (fun i _ => L - (intOf i).toNat)
 case atStart => exact ⟨0,by omega,rfl,(show r.slotsTo 0=true from rfl),Below.refl _ _⟩
 case round =>
  obtain ⟨k,hk,rfl,hsl,hBw⟩:=hrel
  by_cases hlt:k < L
  ·have hka:k < r.low.length:=by rw [← HL.out]; exact hlt
   have hkb:k < r.high.length:=by rw [HLH.out]; exact hka
   obtain ⟨ba,oa,hAe,hab,hac⟩:=HA.out.at' hka
   obtain ⟨bb,ob,hBe,hbb,hbc⟩:=HB.out.at' hkb
   subst hAe hBe
   rw [getD_eq hka] at hac
   rw [getD_eq hkb] at hbc
   have hss:=Lib.hid (Rm.slotsTo_succ r k)
   generalize r.low.getD k 0=lo at *
   generalize r.high.getD k 0=hi at *
   have hca:wr.cell? ⟨ba,oa+k,none⟩=some (.int .i64 lo):=(hBw.cell (p:=⟨ba,oa+k,none⟩) (Nat.lt_succ_of_lt hab)).trans ((World.cell?_alloc_lt w _ _ hab).trans hac)
   have hcb:wr.cell? ⟨bb,ob+k,none⟩=some (.int .i64 hi):=(hBw.cell (p:=⟨bb,ob+k,none⟩) (Nat.lt_succ_of_lt hbb)).trans ((World.cell?_alloc_lt w _ _ hbb).trans hbc)
   have hcs:(lo < -500∧slotOk lo hi=false) ∨ (-500 ≤ lo∧hi < lo∧slotOk lo hi=false) ∨ (-500 ≤ lo∧lo ≤ hi∧1000 < hi∧slotOk lo hi=false) ∨ (-500 ≤ lo∧lo ≤ hi∧hi ≤ 1000∧slotOk lo hi=true):=by
    cases e:slotOk lo hi
    ·have:¬ (-500 ≤ lo∧lo ≤ hi∧hi ≤ 1000):=fun g => by rw [slotOk_true.2 g] at e; cases e
     simp; omega
    ·have:=slotOk_true.1 e
     simp; omega
   have hcc:=(bcell' hBw).1 w.heap.size
   have x4:wr.cell? ⟨w.heap.size,4,none⟩=some (.slice (some ⟨ba,oa,none⟩) L c):=by rw [hcc _ (by omega)]; simp
   have x5:wr.cell? ⟨w.heap.size,5,none⟩=some (.slice (some ⟨bb,ob,none⟩) L d):=by rw [hcc _ (by omega)]; simp
   clear hac hbc hcc
   rcases hcs with ⟨m1,m2⟩ | ⟨m1,m2,m3⟩ | ⟨m1,m2,m3,m4⟩ | ⟨m1,m2,m3,m4⟩
   ·have hf:Hid (r.slotErr L=2):=by
     show _=_
     unfold Rm.slotErr
     rw [if_neg]
     rw [Rm.slotsTo_le (k:=k+1) (by rw [hss.out,m2,Bool.and_false]) (by omega)]; simp
    have p1:decide (lo < -500)=true:=by simpa using m1
    clear m2
    go_wp2_with fail
    go_quiet (fail)
    go_wp2
    go_ret
    exact ⟨ret_int hf.out.symm,((Below.refl _ _).alloc (Nat.le_refl _) _).trans ((below_drewN hBw _).mono (by omega))⟩
   ·have hf:Hid (r.slotErr L=2):=by
     show _=_
     unfold Rm.slotErr
     rw [if_neg]
     rw [Rm.slotsTo_le (k:=k+1) (by rw [hss.out,m3,Bool.and_false]) (by omega)]; simp
    have p1:decide (lo < -500)=false:=by simp; omega
    have p2:decide (hi < lo)=true:=by simpa using m2
    clear m3
    go_wp2_with fail
    go_quiet (fail)
    go_wp2
    go_ret
    exact ⟨ret_int hf.out.symm,((Below.refl _ _).alloc (Nat.le_refl _) _).trans ((below_drewN hBw _).mono (by omega))⟩
   ·have hf:Hid (r.slotErr L=2):=by
     show _=_
     unfold Rm.slotErr
     rw [if_neg]
     rw [Rm.slotsTo_le (k:=k+1) (by rw [hss.out,m4,Bool.and_false]) (by omega)]; simp
    have p1:decide (lo < -500)=false:=by simp; omega
    have p2:decide (hi < lo)=false:=by simp; omega
    have p3:decide (1000 < hi)=true:=by simpa using m3
    clear m4
    go_wp2_with fail
    go_quiet (fail)
    go_wp2
    go_ret
    exact ⟨ret_int hf.out.symm,((Below.refl _ _).alloc (Nat.le_refl _) _).trans ((below_drewN hBw _).mono (by omega))⟩
   ·have hn:Hid (r.slotsTo (k+1)=true):=by show _=_; rw [hss.out,hsl.out,m4]; rfl
    have p1:decide (lo < -500)=false:=by simp; omega
    have p2:decide (hi < lo)=false:=by simp; omega
    have p3:decide (1000 < hi)=false:=by simp; omega
    clear m4
    go_wp2_with fail
    go_quiet (fail)
    go_wp2
    go_roundw
    case rel => exact ⟨k+1,by omega,by go_num,hn,below_drewN hBw _⟩
    case measure => simp [intOf]; omega
  ·obtain rfl:k=L:=by omega
   go_wp2_with fail
   go_ret
   exact ⟨ret_int (by unfold Rm.slotErr; rw [if_pos hsl.out]),((Below.refl _ _).alloc (Nat.le_refl _) _).trans (hBw.mono (by omega))⟩
theorem rtcheck_any (r:Rm) (A B:Option Addr) (c d:Nat) (n:Int) (w:World) (hA:RInts w A r.low) (hB:RInts w B r.high) :
  Calls Tryz.prog 19 #[r.v A c B d,.int .i64 n] w fun e w' => e = .returned (.int .i64 (r.chk n))∧Below w.heap.size w w':=by
 by_cases h1:r.sizeOk n=true
 ·by_cases h2:r.numsOk=true
  ·have e:r.chk n=r.slotErr r.low.length:=by unfold Rm.chk Rm.slotErr; rw [if_pos h1,if_pos h2]
   obtain ⟨_,_,k3,_⟩:=Rm.size_true h1
   rw [e]
   subst k3
   exact rtcheck_slots r A B c d w h1 h2 hA hB
  ·simp only [Bool.not_eq_true] at h2
   rw [Rm.chk_nums h1 h2]; exact rtcheck_nums r A B c d n w h1 h2
 ·simp only [Bool.not_eq_true] at h1
  rw [Rm.chk_size h1]; exact rtcheck_size r A B c d n w h1
set_option maxHeartbeats 4000000 in
theorem rvalid_any (r:Rm) (A B:Option Addr) (c d:Nat) (w:World) (hA:RInts w A r.low) (hB:RInts w B r.high) :
  Calls Tryz.prog 50 #[r.v A c B d] w (RoomOut r.valid w):=by
 have hch:=fun w' hA' hB' => rtcheck_any r A B c d r.low.length w' hA' hB'
 by_cases hok:r.ok=true
 ·rw [Rm.valid_ok hok]
  rw [Rm.chk_of_ok hok] at hch
  have hA1:RInts ((w.alloc (.cells #[.int .i64 r.gain,.int .i64 r.loss,.int .i64 r.steps,.int .i64 r.power,.slice A r.low.length c,.slice B r.high.length d] 28)).alloc (.cells #[.int .i64 0,.int .i64 0,.int .i64 0,.int .i64 0,.slice none 0 0,.slice none 0 0] 28)) A r.low:=(hA.alloc _).alloc _
  have hB1:RInts ((w.alloc (.cells #[.int .i64 r.gain,.int .i64 r.loss,.int .i64 r.steps,.int .i64 r.power,.slice A r.low.length c,.slice B r.high.length d] 28)).alloc (.cells #[.int .i64 0,.int .i64 0,.int .i64 0,.int .i64 0,.slice none 0 0,.slice none 0 0] 28)) B r.high:=(hB.alloc _).alloc _
  simp only [Rm.v] at hch ⊢
  have HC:=Lib.hid hch
  have HA:=Lib.hid hA1
  have HB:=Lib.hid hB1
  have HA0:=Lib.hid hA
  have HB0:=Lib.hid hB
  clear hch hA hB hok hA1 hB1
  go_enter Tryz.func50,Tryz.ntmps50
  go_wp2_with fail
  refine (HC.out _ HA.out HB.out).mono ?_
  rintro e w1 ⟨rfl,hb⟩
  obtain ⟨hc,hf⟩:=bcell hb
  have hz:w.heap.size+1 < w1.heap.size:=by have:=hb.size; simp at this; omega
  go_wp2_with fail
  have hW:Below w.heap.size w w1:=(((Below.refl _ _).alloc (Nat.le_refl _) _).alloc (by simp) _).trans (hb.mono (by simp; omega))
  have hW6:=(((((hW.setCell (p:=⟨w.heap.size+1,0,none⟩) (by simp) (.int .i64 r.gain)).setCell (p:=⟨w.heap.size+1,1,none⟩) (by simp) (.int .i64 r.loss)).setCell (p:=⟨w.heap.size+1,2,none⟩) (by simp) (.int .i64 r.steps)).setCell (p:=⟨w.heap.size+1,3,none⟩) (by simp) (.int .i64 r.power)).setCell (p:=⟨w.heap.size+1,4,none⟩) (by simp) (.slice A r.low.length c)).setCell (p:=⟨w.heap.size+1,5,none⟩) (by simp) (.slice B r.high.length d)
  refine bodyPost_ret (v := .agg #[.int .i64 r.gain,.int .i64 r.loss,.int .i64 r.steps,.int .i64 r.power,.slice A r.low.length c,.slice B r.high.length d]) (by simp [results,Tryz.results50,go_sem,hc]) rfl ?_
  exact ⟨A,c,B,d,rfl,HA0.out.below hW6,HB0.out.below hW6,hW6⟩
 ·rw [Rm.valid_not hok]
  have hne:=Rm.chk_of_not hok
  have hA1:RInts ((w.alloc (.cells #[.int .i64 r.gain,.int .i64 r.loss,.int .i64 r.steps,.int .i64 r.power,.slice A r.low.length c,.slice B r.high.length d] 28)).alloc (.cells #[.int .i64 0,.int .i64 0,.int .i64 0,.int .i64 0,.slice none 0 0,.slice none 0 0] 28)) A r.low:=(hA.alloc _).alloc _
  have hB1:RInts ((w.alloc (.cells #[.int .i64 r.gain,.int .i64 r.loss,.int .i64 r.steps,.int .i64 r.power,.slice A r.low.length c,.slice B r.high.length d] 28)).alloc (.cells #[.int .i64 0,.int .i64 0,.int .i64 0,.int .i64 0,.slice none 0 0,.slice none 0 0] 28)) B r.high:=(hB.alloc _).alloc _
  simp only [Rm.v] at hch ⊢
  generalize r.chk r.low.length=k at *
  have hne':(k != 0)=true:=by rw [bne_iff_ne]; exact hne
  have HC:=Lib.hid hch
  have HA:=Lib.hid hA1
  have HB:=Lib.hid hB1
  clear hch hA hB hok hA1 hB1 hne
  go_enter Tryz.func50,Tryz.ntmps50
  go_wp2_with fail
  refine (HC.out _ HA.out HB.out).mono ?_
  rintro e w1 ⟨rfl,hb⟩
  obtain ⟨hc,hf⟩:=bcell hb
  have hz:w.heap.size+1 < w1.heap.size:=by have:=hb.size; simp at this; omega
  go_wp2_with fail
  have hW:Below w.heap.size w w1:=(((Below.refl _ _).alloc (Nat.le_refl _) _).alloc (by simp) _).trans (hb.mono (by simp; omega))
  have hW6:=(((((hW.setCell (p:=⟨w.heap.size+1,0,none⟩) (by simp) (.int .i64 0)).setCell (p:=⟨w.heap.size+1,1,none⟩) (by simp) (.int .i64 0)).setCell (p:=⟨w.heap.size+1,2,none⟩) (by simp) (.int .i64 0)).setCell (p:=⟨w.heap.size+1,3,none⟩) (by simp) (.int .i64 0)).setCell (p:=⟨w.heap.size+1,4,none⟩) (by simp) (.slice none 0 0)).setCell (p:=⟨w.heap.size+1,5,none⟩) (by simp) (.slice none 0 0)
  refine bodyPost_ret (v := .agg #[.int .i64 0,.int .i64 0,.int .i64 0,.int .i64 0,.slice none 0 0,.slice none 0 0]) (by simp [results,Tryz.results50,go_sem,hc]) rfl ?_
  exact ⟨none,0,none,0,rfl,RInts.nil,RInts.nil,hW6⟩
end Go.Proofs.YtnppngaabfhkpaaGreat
namespace Go.Proofs.YtnppngaabfhkpaaGreat
open Go.RowKit
attribute [local go_sem ↓] Go.wp_at_zero Go.wp_at_succ
set_option maxHeartbeats 2000000 in
theorem rtstep_any (r:Rm) (A B:Option Addr) (c d:Nat) (temp out heat:Int) (w:World) (hA:RInts w A r.low) (hB:RInts w B r.high) :
  Calls Tryz.prog 51 #[r.v A c B d,.int .i64 temp,.int .i64 out,.int .i64 heat] w fun e w' => e = .returned (.int .i64 (r.valid.step temp out heat))∧Below w.heap.size w w':=by
 have hv:=fun w' hA' hB' => rvalid_any r A B c d w' hA' hB'
 have hf:=r.fine
 generalize r.valid=s at *
 have hA1:RInts (w.alloc (.cells #[.int .i64 r.gain,.int .i64 r.loss,.int .i64 r.steps,.int .i64 r.power,.slice A r.low.length c,.slice B r.high.length d] 28)) A r.low:=hA.alloc _
 have hB1:RInts (w.alloc (.cells #[.int .i64 r.gain,.int .i64 r.loss,.int .i64 r.steps,.int .i64 r.power,.slice A r.low.length c,.slice B r.high.length d] 28)) B r.high:=hB.alloc _
 have g0:=hf.g0; have g1:=hf.g1; have l0:=hf.l0; have l1:=hf.l1; have s0:=hf.s0; have s1:=hf.s1
 have hHb:=heatT_bd (h:=heat) s0
 obtain ⟨m1,m2⟩:=mul_bd g0 g1 (show -40 ≤ heatT heat s.steps by omega) (by omega) (by omega)
 obtain ⟨t0,t1⟩:=limT_bd temp
 obtain ⟨o0,o1⟩:=limT_bd out
 obtain ⟨n1,n2⟩:=mul_bd l0 l1 (show -3000 ≤ limT temp - limT out by omega) (by omega) (by omega)
 have hlt:=rlimit_any temp
 have hlo:=rlimit_any out
 have hch:=fun w => clamp_heat heat s.steps w s0
 simp only [Rm.v] at hv ⊢
 unfold Rm.step stepT
 generalize limT temp=T at *
 generalize limT out=O at *
 generalize heatT heat s.steps=H at *
 have q1:IntKind.i64.wrap (T - O)=T - O:=IntWalk.i64_in _ (by omega)
 have q2:IntKind.i64.wrap (s.loss * (T - O))=s.loss * (T - O):=IntWalk.i64_in _ (by omega)
 have hfl:=fun w => rfloor_any (s.loss * (T - O)) w (by omega) (by omega)
 have q3 : -10000000 ≤ s.loss * (T - O) / 1000∧s.loss * (T - O) / 1000 ≤ 10000000:=by omega
 obtain ⟨q4,q5⟩:=q3
 have q6:IntKind.i64.wrap (s.gain * H)=s.gain * H:=IntWalk.i64_in _ (by omega)
 have q7:IntKind.i64.wrap (T+s.gain * H)=T+s.gain * H:=IntWalk.i64_in _ (by omega)
 have q8:IntKind.i64.wrap (T+s.gain * H - s.loss * (T - O) / 1000)=T+s.gain * H - s.loss * (T - O) / 1000:=IntWalk.i64_in _ (by omega)
 have HV:=Lib.hid hv
 have HA:=Lib.hid hA1
 have HB:=Lib.hid hB1
 have HLT:=Lib.hid hlt
 have HLO:=Lib.hid hlo
 have HCH:=Lib.hid hch
 have HFL:=Lib.hid hfl
 clear hv hA hB hA1 hB1 hf hlt hlo hch hfl hHb
 go_enter Tryz.func51,Tryz.ntmps51
 go_wp2_with fail
 refine (HV.out _ HA.out HB.out).mono ?_
 rintro e w1 ⟨A',c',B',d',rfl,_,_,hb1⟩
 have hW1:Below w.heap.size w w1:=((Below.refl _ _).alloc (Nat.le_refl _) _).trans (hb1.mono (by simp))
 clear HA HB HV hb1
 simp only [Rm.v]
 go_wp2_with fail
 refine (HLT.out _).mono ?_
 rintro e w2 ⟨rfl,hw2⟩
 subst hw2
 go_wp2_with fail
 go_quiet ((first | (go_at_call 77; exact quiet_left (HCH.out _)) | (go_at_call_of 76 (Value.int .i64 out); exact quiet_left (HLO.out _)) | (go_at_call 78; exact quiet_left (HFL.out _)) | (go_at_call 76; exact quiet_left (rlimit_any _ _))))
 go_wp2
 go_ret
 exact ⟨rfl,below_drewN (hW1.alloc hW1.size _) _⟩
set_option maxHeartbeats 2000000 in
theorem rtok_any (r:Rm) (A B:Option Addr) (c d:Nat) (i temp:Int) (w:World) (hA:RInts w A r.low) (hB:RInts w B r.high) :
  Calls Tryz.prog 106 #[r.v A c B d,.int .i64 i,.int .i64 temp] w fun e w' => e = .returned (.bool (r.valid.okAt i temp))∧Below w.heap.size w w':=by
 have hv:=fun w' hA' hB' => rvalid_any r A B c d w' hA' hB'
 have hf:=r.fine
 generalize r.valid=s at *
 have hA1:RInts (w.alloc (.cells #[.int .i64 r.gain,.int .i64 r.loss,.int .i64 r.steps,.int .i64 r.power,.slice A r.low.length c,.slice B r.high.length d] 28)) A r.low:=hA.alloc _
 have hB1:RInts (w.alloc (.cells #[.int .i64 r.gain,.int .i64 r.loss,.int .i64 r.steps,.int .i64 r.power,.slice A r.low.length c,.slice B r.high.length d] 28)) B r.high:=hB.alloc _
 simp only [Rm.v] at hv ⊢
 have HV:=Lib.hid hv
 have HA:=Lib.hid hA1
 have HB:=Lib.hid hB1
 have hl:=hf.len2
 have hl1:=hf.len1
 clear hv hA hB hA1 hB1 hf
 by_cases h0:0 ≤ i
 ·by_cases h1:i < (s.low.length:Int)
  ·rw [okAt_true h0 h1]
   obtain ⟨k,rfl⟩:=Int.eq_ofNat_of_zero_le h0
   have hka:k < s.low.length:=by omega
   have hkb:k < s.high.length:=by omega
   rw [Int.toNat_natCast]
   have gA:=Lib.hid (getD_eq hka)
   have gB:=Lib.hid (getD_eq hkb)
   go_enter Tryz.func106,Tryz.ntmps106
   go_wp2_with fail
   refine (HV.out _ HA.out HB.out).mono ?_
   rintro e w1 ⟨A',c',B',d',rfl,hA',hB',hb1⟩
   have hW1:Below w.heap.size w w1:=((Below.refl _ _).alloc (Nat.le_refl _) _).trans (hb1.mono (by simp))
   clear HA HB HV hb1
   obtain ⟨ba,oa,rfl,hab,hac⟩:=hA'.at' hka
   obtain ⟨bb,ob,rfl,hbb,hbc⟩:=hB'.at' hkb
   rw [gA.out] at hac
   rw [gB.out] at hbc
   generalize hlo:s.low.getD k 0=lo at *
   generalize hhi:s.high.getD k 0=hi at *
   have HLO:=Lib.hid hlo
   have HHI:=Lib.hid hhi
   clear hlo hhi gA gB hA' hB'
   simp only [Rm.v]
   rw [hl]
   have hca:=(World.cell?_alloc_lt w1 (.cells #[.int .i64 s.gain,.int .i64 s.loss,.int .i64 s.steps,.int .i64 s.power,.slice (some ⟨ba,oa,none⟩) s.low.length c',.slice (some ⟨bb,ob,none⟩) s.low.length d'] 28) ⟨ba,oa+k,none⟩ hab).trans hac
   have hcb:=(World.cell?_alloc_lt w1 (.cells #[.int .i64 s.gain,.int .i64 s.loss,.int .i64 s.steps,.int .i64 s.power,.slice (some ⟨ba,oa,none⟩) s.low.length c',.slice (some ⟨bb,ob,none⟩) s.low.length d'] 28) ⟨bb,ob+k,none⟩ hbb).trans hbc
   clear hac hbc hkb hl
   generalize s.low.length=L at *
   by_cases k1:lo ≤ temp
   ·go_wp2_with fail
    go_ret
    exact ⟨ret_bool (by show _=wT temp (s.low.getD k 0) (s.high.getD k 0); rw [HLO.out,HHI.out]; simp [wT,k1]),hW1.alloc hW1.size _⟩
   ·have hf:Hid (wT temp lo hi=false):=wT_false.2 (by omega)
    go_wp2_with fail
    go_ret
    exact ⟨ret_bool (by show _=wT temp (s.low.getD k 0) (s.high.getD k 0); rw [HLO.out,HHI.out]; exact hf.out.symm),hW1.alloc hW1.size _⟩
  ·rw [okAt_out (by omega)]
   have h1':(s.low.length:Int) ≤ i:=by omega
   clear h1
   go_enter Tryz.func106,Tryz.ntmps106
   go_wp2_with fail
   refine (HV.out _ HA.out HB.out).mono ?_
   rintro e w1 ⟨A',c',B',d',rfl,hA',hB',hb1⟩
   have hW1:Below w.heap.size w w1:=((Below.refl _ _).alloc (Nat.le_refl _) _).trans (hb1.mono (by simp))
   clear HA HB HV hb1 hA' hB'
   simp only [Rm.v]
   go_wp2_with fail
   go_ret
   exact ⟨rfl,hW1.alloc hW1.size _⟩
 ·rw [okAt_out (by omega)]
  have h0':i < 0:=by omega
  clear h0
  go_enter Tryz.func106,Tryz.ntmps106
  go_wp2_with fail
  refine (HV.out _ HA.out HB.out).mono ?_
  rintro e w1 ⟨A',c',B',d',rfl,hA',hB',hb1⟩
  have hW1:Below w.heap.size w w1:=((Below.refl _ _).alloc (Nat.le_refl _) _).trans (hb1.mono (by simp))
  clear HA HB HV hb1 hA' hB'
  simp only [Rm.v]
  go_wp2_with fail
  go_ret
  exact ⟨rfl,hW1.alloc hW1.size _⟩
def roomX (s:Rm) (A:Option Addr) (c:Nat) (B:Option Addr) (d:Nat) (w1:World):World :=
 w1.alloc (.cells #[.int .i64 s.gain,.int .i64 s.loss,.int .i64 s.steps,.int .i64 s.power,.slice A s.low.length c,.slice B s.high.length d] 28)
structure RoomX (s:Rm) (A:Option Addr) (c:Nat) (B:Option Addr) (d:Nat) (w1 W:World):Prop where
 below:Below (w1.heap.size+1) (roomX s A c B d w1) W
 lo:RInts w1 A s.low
 hi:RInts w1 B s.high
section
variable {s:Rm} {A B:Option Addr} {c d:Nat} {w1 W W':World}
theorem roomX_size:(roomX s A c B d w1).heap.size=w1.heap.size+1:=by simp [roomX]
theorem RoomX.size (h:RoomX s A c B d w1 W):w1.heap.size+1 ≤ W.heap.size:=by have:=h.below.size; rw [roomX_size] at this; exact this
theorem RoomX.mk' (h:RoomX s A c B d w1 W) (hb:Below W.heap.size W W'):RoomX s A c B d w1 W':=⟨h.below.trans (hb.mono h.size),h.lo,h.hi⟩
theorem RoomX.from1 (h:RoomX s A c B d w1 W):Below w1.heap.size w1 W:=((Below.refl _ _).alloc (Nat.le_refl _) _).trans (h.below.mono (by omega))
theorem RoomX.low (h:RoomX s A c B d w1 W):RInts W A s.low:=h.lo.below h.from1
theorem RoomX.high (h:RoomX s A c B d w1 W):RInts W B s.high:=h.hi.below h.from1
theorem RoomX.cells (h:RoomX s A c B d w1 W):W.cell? ⟨w1.heap.size,0,none⟩=some (.int .i64 s.gain)∧W.cell? ⟨w1.heap.size,1,none⟩=some (.int .i64 s.loss)∧W.cell? ⟨w1.heap.size,2,none⟩=some (.int .i64 s.steps) ∧
  W.cell? ⟨w1.heap.size,3,none⟩=some (.int .i64 s.power)∧W.cell? ⟨w1.heap.size,4,none⟩=some (.slice A s.low.length c)∧W.cell? ⟨w1.heap.size,5,none⟩=some (.slice B s.high.length d):=by
 have hc:=(bcell' h.below).1
 refine ⟨?_,?_,?_,?_,?_,?_⟩ <;> (rw [hc _ _ (by omega)]; simp [roomX])
end
section
variable {s:Rm} {A B:Option Addr} {c d:Nat} {w1 W:World}
theorem RoomX.rstep (h:RoomX s A c B d w1 W) (hv:s.valid=s) (temp out heat:Int) :
  Calls Tryz.prog 51 #[.agg #[.int .i64 s.gain,.int .i64 s.loss,.int .i64 s.steps,.int .i64 s.power,.slice A s.low.length c,.slice B s.high.length d],.int .i64 temp,.int .i64 out,.int .i64 heat] W fun e w' => e = .returned (.int .i64 (stepT s.gain s.loss s.steps temp out heat))∧Below W.heap.size W w':=by
 have h1:=rtstep_any s A B c d temp out heat W h.low h.high
 rw [hv] at h1
 exact h1
theorem RoomX.heldL {b o:Nat} {x:Int} {W':World} (h:RoomX s A c B d w1 W) (hl:W.cell? ⟨b,o,none⟩=some (.int .i64 x)) (hb:Below W.heap.size W W'):Below W.heap.size W W'∧W'.cell? ⟨w1.heap.size,0,none⟩=some (.int .i64 s.gain)∧W'.cell? ⟨w1.heap.size,1,none⟩=some (.int .i64 s.loss)∧W'.cell? ⟨w1.heap.size,2,none⟩=some (.int .i64 s.steps) ∧
  W'.cell? ⟨w1.heap.size,3,none⟩=some (.int .i64 s.power)∧W'.cell? ⟨w1.heap.size,4,none⟩=some (.slice A s.low.length c)∧W'.cell? ⟨w1.heap.size,5,none⟩=some (.slice B s.high.length d)∧W'.cell? ⟨b,o,none⟩=some (.int .i64 x):=by
 obtain ⟨y0,y1,y2,y3,y4,y5⟩:=(h.mk' hb).cells
 exact ⟨hb,y0,y1,y2,y3,y4,y5,(hb.cell (p:=⟨b,o,none⟩) (World.block_lt_of_cell? _ _ hl)).trans hl⟩
end
theorem hold_le {s:Rm} {j:Nat} {temp out:Int}:∀ {n:Nat},(∀ x:Int,0 ≤ x→x < (n:Int)→decide (s.low.getD j 0 ≤ stepT s.gain s.loss s.steps temp out x)=false)→holdTo (fun h => decide (s.low.getD j 0 ≤ stepT s.gain s.loss s.steps temp out h)) n=(n:Int):=fun h => holdTo_none h
set_option maxHeartbeats 4000000 in
theorem rthold_any (r:Rm) (A B:Option Addr) (c d:Nat) (i temp out:Int) (w:World) (hA:RInts w A r.low) (hB:RInts w B r.high) :
  Calls Tryz.prog 27 #[r.v A c B d,.int .i64 i,.int .i64 temp,.int .i64 out] w fun e w' => e = .returned (.int .i64 (r.valid.hold i temp out))∧Below w.heap.size w w':=by
 have hv:=fun w' hA' hB' => rvalid_any r A B c d w' hA' hB'
 have hf:=r.fine
 have hvv:=r.valid_valid
 generalize r.valid=s at *
 have hA1:RInts (w.alloc (.cells #[.int .i64 r.gain,.int .i64 r.loss,.int .i64 r.steps,.int .i64 r.power,.slice A r.low.length c,.slice B r.high.length d] 28)) A r.low:=hA.alloc _
 have hB1:RInts (w.alloc (.cells #[.int .i64 r.gain,.int .i64 r.loss,.int .i64 r.steps,.int .i64 r.power,.slice A r.low.length c,.slice B r.high.length d] 28)) B r.high:=hB.alloc _
 simp only [Rm.v] at hv ⊢
 have HV:=Lib.hid hv
 have HA:=Lib.hid hA1
 have HB:=Lib.hid hB1
 have HF:=Lib.hid hf
 have HVV:=Lib.hid hvv
 have s0:=hf.s0
 have s1:=hf.s1
 have hl96:=hf.len1
 clear hv hA hB hA1 hB1 hf hvv
 by_cases hin:0 ≤ i∧i < (s.low.length:Int)
 ·obtain ⟨hi0,hi1⟩:=hin
  rw [hold_in hi0 hi1]
  obtain ⟨j,rfl⟩:=Int.eq_ofNat_of_zero_le hi0
  rw [Int.toNat_natCast]
  have hj:j < s.low.length:=by omega
  have hgd:=Lib.hid (getD_eq hj)
  have q1:decide ((j:Int) < 0)=false:=by simp
  have q2:decide (s.low.length ≤ j)=false:=by simp; omega
  go_enter Tryz.func27,Tryz.ntmps27
  go_wp2_with fail
  refine (HV.out _ HA.out HB.out).mono ?_
  rintro e w1 ⟨A',c',B',d',rfl,hA',hB',hb1⟩
  have hW1:Below w.heap.size w w1:=((Below.refl _ _).alloc (Nat.le_refl _) _).trans (hb1.mono (by simp))
  clear HA HB HV hb1
  simp only [Rm.v]
  have hS0:RoomX s A' c' B' d' w1 (roomX s A' c' B' d' w1):=⟨by rw [← roomX_size (s:=s) (A:=A') (B:=B') (c:=c') (d:=d')]; exact Below.refl _ _,hA',hB'⟩
  have HS:=Lib.hid hS0
  clear hA' hB' hS0
  go_wp2_with fail
  go_loopw [10] (fun i' wr => ∃ k:Nat,(k:Int) ≤ s.steps+1∧i' = .int .i64 k∧Hid (∀ x:Int,0 ≤ x→x < (k:Int)→decide (s.low.getD j 0 ≤ stepT s.gain s.loss s.steps temp out x)=false)∧RoomX s A' c' B' d' w1 wr)
   (fun i' _ => (s.steps+1).toNat - (intOf i').toNat)
  case atStart => exact ⟨0,by omega,rfl,fun x h0 h1 => by omega,HS.out⟩
  case round =>
   obtain ⟨k,hk,rfl,hno,hS⟩:=hrel
   obtain ⟨x0,x1,x2,x3,x4,x5⟩:=hS.cells
   by_cases hlt:(k:Int) ≤ s.steps
   ·obtain ⟨ba,oa,hAe,hab,hlc⟩:=hS.low.at' hj
    subst hAe
    rw [hgd.out] at hlc
    generalize hlo:s.low.getD j 0=lo at *
    generalize hu:stepT s.gain s.loss s.steps temp out ↑k=u at *
    have HU:=Lib.hid hu
    have HLO:=Lib.hid hlo
    clear hu hlo
    by_cases hge:lo ≤ u
    ·have hret:Hid (holdTo (fun h => decide (lo ≤ stepT s.gain s.loss s.steps temp out h)) s.steps.toNat=(k:Int)):=by
      show _=_
      by_cases he:(k:Int) < s.steps
      ·exact holdTo_hit (by rw [HU.out]; simpa using hge) hno.out (by omega)
      ·rw [show s.steps.toNat=k by omega]
       exact holdTo_none hno.out
     have q3:decide (lo ≤ u)=true:=by simpa using hge
     go_wp2_with fail
     clear x0 x1 x2 x3 x4 x5
     go_region_held3 (fun w' => Below wr.heap.size wr w'∧w'.cell? ⟨w1.heap.size,0,none⟩=some (.int .i64 s.gain)∧w'.cell? ⟨w1.heap.size,1,none⟩=some (.int .i64 s.loss)∧w'.cell? ⟨w1.heap.size,2,none⟩=some (.int .i64 s.steps)∧w'.cell? ⟨w1.heap.size,3,none⟩=some (.int .i64 s.power)∧w'.cell? ⟨w1.heap.size,4,none⟩=some (.slice (some ⟨ba,oa,none⟩) s.low.length c')∧w'.cell? ⟨w1.heap.size,5,none⟩=some (.slice B' s.high.length d')∧w'.cell? ⟨ba,oa+j,none⟩=some (.int .i64 lo))
      (first | exact hS.heldL hlc (Below.refl _ _) | exact hS.heldL hlc (Below.drew (Below.refl _ _)) | exact hS.heldL hlc (Below.trans (by first | assumption | exact And.left (by assumption) | exact Below.refl _ _ | exact Below.drew (Below.refl _ _)) (Below.mono (by assumption) (Below.size (by first | assumption | exact And.left (by assumption) | exact Below.refl _ _ | exact Below.drew (Below.refl _ _))))))
      (first | (go_at_call 51; refine ((hS.mk' (by first | assumption | exact And.left (by assumption) | exact Below.refl _ _ | exact Below.drew (Below.refl _ _))).rstep HVV.out temp out _).mono ?_; rintro e w3 ⟨rfl,hb3⟩; rw [HU.out]))
     go_wp2_with fail
     go_ret
     rw [HLO.out,hret.out]
     exact ⟨rfl,hW1.trans ((hS.mk' (by first | assumption | exact And.left (by assumption))).from1.mono hW1.size)⟩
    ·have q3:decide (lo ≤ u)=false:=by simpa using hge
     have hno':Hid (∀ x:Int,0 ≤ x→x < ((k+1:Nat):Int)→decide (lo ≤ stepT s.gain s.loss s.steps temp out x)=false):=by
      intro x h0 h1
      by_cases hx:x < (k:Int)
      ·exact hno.out x h0 hx
      ·rw [show x=(k:Int) by omega,HU.out]; exact q3
     go_wp2_with fail
     clear x0 x1 x2 x3 x4 x5
     go_region_held3 (fun w' => Below wr.heap.size wr w'∧w'.cell? ⟨w1.heap.size,0,none⟩=some (.int .i64 s.gain)∧w'.cell? ⟨w1.heap.size,1,none⟩=some (.int .i64 s.loss)∧w'.cell? ⟨w1.heap.size,2,none⟩=some (.int .i64 s.steps)∧w'.cell? ⟨w1.heap.size,3,none⟩=some (.int .i64 s.power)∧w'.cell? ⟨w1.heap.size,4,none⟩=some (.slice (some ⟨ba,oa,none⟩) s.low.length c')∧w'.cell? ⟨w1.heap.size,5,none⟩=some (.slice B' s.high.length d')∧w'.cell? ⟨ba,oa+j,none⟩=some (.int .i64 lo))
      (first | exact hS.heldL hlc (Below.refl _ _) | exact hS.heldL hlc (Below.drew (Below.refl _ _)) | exact hS.heldL hlc (Below.trans (by first | assumption | exact And.left (by assumption) | exact Below.refl _ _ | exact Below.drew (Below.refl _ _)) (Below.mono (by assumption) (Below.size (by first | assumption | exact And.left (by assumption) | exact Below.refl _ _ | exact Below.drew (Below.refl _ _))))))
      (first | (go_at_call 51; refine ((hS.mk' (by first | assumption | exact And.left (by assumption) | exact Below.refl _ _ | exact Below.drew (Below.refl _ _))).rstep HVV.out temp out _).mono ?_; rintro e w3 ⟨rfl,hb3⟩; rw [HU.out]))
     go_wp2_with fail
     go_roundw
     case rel => exact ⟨k+1,by omega,by go_num,hno',hS.mk' (by first | assumption | exact And.left (by assumption))⟩
     case measure => simp [intOf]; omega
   ·have hret:Hid (holdTo (fun h => decide (s.low.getD j 0 ≤ stepT s.gain s.loss s.steps temp out h)) s.steps.toNat=s.steps):=by
     show _=_
     rw [hold_le (n:=s.steps.toNat) (fun x h0 h1 => hno.out x h0 (by omega))]
     omega
    go_wp2_with fail
    go_ret
    exact ⟨ret_int (by rw [hgd.out]; exact hret.out.symm),hW1.trans (hS.from1.mono hW1.size)⟩
 ·rw [hold_out (by omega)]
  have hcs:i < 0 ∨ (0 ≤ i∧(s.low.length:Int) ≤ i):=by omega
  clear hin
  rcases hcs with h | ⟨h,h'⟩
  all_goals
   go_enter Tryz.func27,Tryz.ntmps27
   go_wp2_with fail
   refine (HV.out _ HA.out HB.out).mono ?_
   rintro e w1 ⟨A',c',B',d',rfl,hA',hB',hb1⟩
   have hW1:Below w.heap.size w w1:=((Below.refl _ _).alloc (Nat.le_refl _) _).trans (hb1.mono (by simp))
   clear HA HB HV hb1
   simp only [Rm.v]
   go_wp2_with fail
   go_ret
   exact ⟨rfl,hW1.alloc hW1.size _⟩
end Go.Proofs.YtnppngaabfhkpaaGreat
