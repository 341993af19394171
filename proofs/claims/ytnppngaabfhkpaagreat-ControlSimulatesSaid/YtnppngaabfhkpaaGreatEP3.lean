/-
  The walks of layer 38 (tariff), part 3: Check of the reference.
-/
import Derived.Test.YtnppngaabfhkpaaGreatEP2
namespace Go.Proofs.YtnppngaabfhkpaaGreat
open Go.RowKit
attribute [local go_sem ↓] Go.wp_at_zero Go.wp_at_succ
theorem Tf.nums_buy {t:Tf} (h:allB t.buy 0 1000000=false):t.nums=false:=by unfold Tf.nums; rw [h]; rfl
theorem Tf.nums_sell {t:Tf} (h:allB t.sell 0 1000000=false):t.nums=false:=by unfold Tf.nums; rw [h]; simp
theorem Tf.nums_fuse {t:Tf} (h:wB t.fuse 1 1000=false):t.nums=false:=by unfold Tf.nums; rw [h]; simp
theorem Tf.nums_yes {t:Tf} (h:allB t.buy 0 1000000=true) (h2:allB t.sell 0 1000000=true) (h3:wB t.fuse 1 1000=true):t.nums=true:=by unfold Tf.nums; rw [h,h2,h3]; rfl
set_option maxRecDepth 100000 in
set_option maxHeartbeats 16000000 in
theorem rtfcheck_rest (t:Tf) (A B:Option Addr) (c d:Nat) (w:World) (hA:RInts w A t.buy) (hB:RInts w B t.sell) (h:t.lim=true) :
  Calls Tryz.prog 16 #[t.v A c B d] w fun e w' => e = .returned (.int .i64 t.chk)∧Below w.heap.size w w':=by
 simp only [Tf.v]
 obtain ⟨l1,l2,l3⟩:=Tf.lim_yes h
 obtain ⟨n,hn⟩:∃ n,n=t.buy.length:=⟨_,rfl⟩
 obtain ⟨m,hm⟩:∃ m,m=t.sell.length:=⟨_,rfl⟩
 have hmn:((m:Int) != (n:Int))=false:=by rw [bne_eq_false_iff_eq]; omega
 have HA:=Lib.hid hA
 have HB:=Lib.hid hB
 have HN:=Lib.hid hn
 have HM:=Lib.hid hm
 have HL3:=Lib.hid l3
 have hO:Hid (∀ cs,Below w.heap.size w (w.alloc (.cells cs 24))):=fun cs => (Below.refl _ _).alloc (Nat.le_refl _) _
 have hbad:=Lib.hid (fun (h2:t.nums=true) (h3:t.orderTo t.buy.length=false) => Tf.chk_order h h2 h3)
 have hgood:=Lib.hid (fun (h2:t.nums=true) (h3:t.orderTo t.buy.length=true) => Tf.chk_ok h h2 h3)
 have hnum:=Lib.hid (fun (h2:t.nums=false) => Tf.chk_nums h h2)
 have hmn2:(m:Int)=(n:Int):=by omega
 rw [← hn] at l1 l2 ⊢
 rw [← hm]
 clear hn hm l3 hA hB h
 go_enter Tryz.func16,Tryz.ntmps16
 go_wp2_with fail
 go_loopw [3] (fun i' wr => ∃ k:Nat,k ≤ n∧i' = .int .i64 k∧Hid (allB (t.buy.take k) 0 1000000=true)∧Hid (allB (t.sell.take k) 0 1000000=true)∧w.alloc (.cells #[.slice A n c,.slice B m d,.int .i64 t.fuse] 24)=wr)
  (fun i' _ => n - (intOf i').toNat)
 case atStart => exact ⟨0,by omega,rfl,rfl,rfl,rfl⟩
 case round =>
  obtain ⟨k,hk,rfl,hok,hok2,rfl⟩:=hrel
  by_cases hlt:k < n
  ·have hkb:k < t.buy.length:=by have:=HN.out; omega
   have hks:k < t.sell.length:=by have:=HN.out; have:=HL3.out; omega
   obtain ⟨ba,oa,hAe,_,x0⟩:=(HA.out.below (hO.out #[.slice A n c,.slice B m d,.int .i64 t.fuse])).at' hkb
   obtain ⟨bb,ob,hBe,_,y0⟩:=(HB.out.below (hO.out #[.slice A n c,.slice B m d,.int .i64 t.fuse])).at' hks
   subst hAe hBe
   have i1:(0:Int) ≤ (k:Int):=by omega
   have i2:(k:Int) < (n:Int):=by omega
   have i3:(k:Int) < (m:Int):=by omega
   rcases wB_cases t.buy[k] 0 1000000 with ⟨g,hu⟩ | ⟨g,g2,hu⟩ | ⟨g,g2,hu⟩
   ·have hbd:Hid (t.chk=2):=hnum.out (Tf.nums_buy (allB_hit hkb hu))
    clear hu
    generalize t.buy[k]=x at *
    generalize t.sell[k]=y at *
    go_wp2_with fail
    go_ret
    exact ⟨ret_int hbd.out.symm,hO.out _⟩
   ·have hbd:Hid (t.chk=2):=hnum.out (Tf.nums_buy (allB_hit hkb hu))
    clear hu
    generalize t.buy[k]=x at *
    generalize t.sell[k]=y at *
    go_wp2_with fail
    go_ret
    exact ⟨ret_int hbd.out.symm,hO.out _⟩
   ·rcases wB_cases t.sell[k] 0 1000000 with ⟨g3,hv⟩ | ⟨g3,g4,hv⟩ | ⟨g3,g4,hv⟩
    ·have hbd:Hid (t.chk=2):=hnum.out (Tf.nums_sell (allB_hit hks hv))
     clear hu hv
     generalize t.buy[k]=x at *
     generalize t.sell[k]=y at *
     go_wp2_with fail
     go_ret
     exact ⟨ret_int hbd.out.symm,hO.out _⟩
    ·have hbd:Hid (t.chk=2):=hnum.out (Tf.nums_sell (allB_hit hks hv))
     clear hu hv
     generalize t.buy[k]=x at *
     generalize t.sell[k]=y at *
     go_wp2_with fail
     go_ret
     exact ⟨ret_int hbd.out.symm,hO.out _⟩
    ·have hok':=Lib.hid (allB_take hkb hok.out hu)
     have hok2':=Lib.hid (allB_take hks hok2.out hv)
     clear hu hv
     generalize t.buy[k]=x at *
     generalize t.sell[k]=y at *
     go_wp2_with fail
     go_roundw
     case rel => exact ⟨k+1,by omega,by go_num,hok',hok2',trivial⟩
     case measure => simp [intOf]; omega
  ·have hab:Hid (allB t.buy 0 1000000=true):=allB_end hok.out (by have:=HN.out; omega)
   have has:Hid (allB t.sell 0 1000000=true):=allB_end hok2.out (by have:=HN.out; have:=HL3.out; omega)
   clear hok hok2
   rcases wB_cases t.fuse 1 1000 with ⟨g,hu⟩ | ⟨g,g2,hu⟩ | ⟨g,g2,hu⟩
   ·have hbd:Hid (t.chk=2):=hnum.out (Tf.nums_fuse hu)
    clear hu
    go_wp2_with fail
    go_ret
    exact ⟨ret_int hbd.out.symm,hO.out _⟩
   ·have hbd:Hid (t.chk=2):=hnum.out (Tf.nums_fuse hu)
    clear hu
    go_wp2_with fail
    go_ret
    exact ⟨ret_int hbd.out.symm,hO.out _⟩
   ·have hny:=Tf.nums_yes hab.out has.out hu
    have hbad2:=Lib.hid (hbad.out hny)
    have hgood2:=Lib.hid (hgood.out hny)
    clear hu hny hbad hgood
    go_wp2_with fail
    go_loopw [4] (fun i' wr => ∃ k:Nat,k ≤ n∧i' = .int .i64 k∧Hid (t.orderTo k=true)∧Below (w.heap.size+1) (w.alloc (.cells #[.slice A n c,.slice B m d,.int .i64 t.fuse] 24)) wr)
     (fun i' _ => n - (intOf i').toNat)
    case atStart => exact ⟨0,by omega,rfl,rfl,Below.refl _ _⟩
    case round =>
     obtain ⟨k,hk,rfl,hok,hBw⟩:=hrel
     have HW:=Lib.hid hBw
     have hO2:=Lib.hid ((hO.out #[.slice A n c,.slice B m d,.int .i64 t.fuse]).trans (hBw.mono (by omega)))
     have hc:=(bcell' hBw).1
     have z0:wr.cell? ⟨w.heap.size,0,none⟩=some (.slice A n c):=by rw [hc _ _ (by omega)]; simp [World.cell?_alloc_new]
     have z1:wr.cell? ⟨w.heap.size,1,none⟩=some (.slice B m d):=by rw [hc _ _ (by omega)]; simp [World.cell?_alloc_new]
     clear hBw hc
     by_cases hlt:k < n
     ·have hkb:k < t.buy.length:=by have:=HN.out; omega
      have hks:k < t.sell.length:=by have:=HN.out; have:=HL3.out; omega
      obtain ⟨ba,oa,hAe,_,x0⟩:=(HA.out.below hO2.out).at' hkb
      obtain ⟨bb,ob,hBe,_,y0⟩:=(HB.out.below hO2.out).at' hks
      have hsu:=Lib.hid (Tf.orderTo_succ t k)
      have hxe:=Lib.hid (getD_eq hkb)
      have hye:=Lib.hid (getD_eq hks)
      have hle:=Lib.hid (fun (h:t.orderTo (k+1)=false) => Tf.orderTo_le h (show k+1 ≤ t.buy.length by have:=HN.out; omega))
      subst hAe hBe
      have i1:(0:Int) ≤ (k:Int):=by omega
      have i2:(k:Int) < (n:Int):=by omega
      have i3:(k:Int) < (m:Int):=by omega
      by_cases hgt:t.buy[k] < t.sell[k]
      ·have hbd:Hid (t.chk=4):=hbad2.out (hle.out (by rw [hsu.out,hok.out, ← hxe.out, ← hye.out]; simp; omega))
       clear hsu hxe hye hle hbad2 hgood2
       generalize t.buy[k]=x at *
       generalize t.sell[k]=y at *
       go_wp2_with fail
       go_quiet (fail)
       go_wp2_with fail
       go_ret
       exact ⟨ret_int hbd.out.symm,below_drewN hO2.out _⟩
      ·have hok':Hid (t.orderTo (k+1)=true):=by
        show _=_
        rw [hsu.out,hok.out, ← hxe.out, ← hye.out]; simp; omega
       clear hsu hxe hye hle
       generalize t.buy[k]=x at *
       generalize t.sell[k]=y at *
       go_wp2_with fail
       go_quiet (fail)
       go_wp2_with fail
       go_roundw
       case rel => exact ⟨k+1,by omega,by go_num,hok',below_drewN HW.out _⟩
       case measure => simp [intOf]; omega
     ·have hgd:Hid (t.chk=0):=hgood2.out (by have:=HN.out; rw [← HN.out,show n=k by omega]; exact hok.out)
      go_wp2_with fail
      go_ret
      exact ⟨ret_int hgd.out.symm,hO2.out⟩
theorem rtfcheck_any (t:Tf) (A B:Option Addr) (c d:Nat) (w:World) (hA:RInts w A t.buy) (hB:RInts w B t.sell) :
  Calls Tryz.prog 16 #[t.v A c B d] w fun e w' => e = .returned (.int .i64 t.chk)∧Below w.heap.size w w':=by
 cases h:t.lim
 ·exact rtfcheck_lim t A B c d w h
 ·exact rtfcheck_rest t A B c d w hA hB h
theorem mulI {x y:Int} (h0 : -1000 ≤ x) (h1:x ≤ 1000) (g0:0 ≤ y) (g1:y ≤ 1000000):IntKind.i64.wrap (x * y)=x * y:=by
 have:=mulP h0 h1 g0 g1
 exact IntWalk.i64_in _ (by omega)
theorem amount_any (b s net:Int) (w:World) (hb:0 ≤ b) (hb1:b ≤ 1000000) (hs:0 ≤ s) (hs1:s ≤ 1000000) :
  Calls Tryz.prog 103 #[.agg #[.int .i64 b,.int .i64 s],.int .i64 net] w fun e w' => e = .returned (.int .i64 (amountZ b s net))∧Below w.heap.size w w':=by
 have hc:=Lib.hid (fun W => pclamp_any net W)
 have hbd:=limP_bd net
 have m1:=mulP hbd.1 hbd.2 hb hb1
 have m2:=mulP hbd.1 hbd.2 hs hs1
 have w1:=mulI hbd.1 hbd.2 hb hb1
 have w2:=mulI hbd.1 hbd.2 hs hs1
 unfold amountZ
 generalize limP net=x at *
 by_cases h:x < 0
 ·rw [if_pos h]
  go_enter Tryz.func103,Tryz.ntmps103
  go_wp2_with fail
  refine (hc.out _).mono ?_
  rintro e w1 ⟨rfl,rfl⟩
  go_wp2_with fail
  go_ret
  exact ⟨rfl,(Below.refl _ _).alloc (Nat.le_refl _) _⟩
 ·rw [if_neg h]
  go_enter Tryz.func103,Tryz.ntmps103
  go_wp2_with fail
  refine (hc.out _).mono ?_
  rintro e w1 ⟨rfl,rfl⟩
  go_wp2_with fail
  go_ret
  exact ⟨rfl,(Below.refl _ _).alloc (Nat.le_refl _) _⟩
def Tf.slot (t:Tf) (i:Int):Bool:=decide (0 ≤ i) && (decide (i < (t.buy.length:Int)) && decide (t.chk=0))
def Tf.price (t:Tf) (i:Int):Int × Int:=if t.slot i=true then (t.buy.getD i.toNat 0,t.sell.getD i.toNat 0) else (0,0)
set_option maxRecDepth 100000 in
set_option maxHeartbeats 8000000 in
theorem prices_any (t:Tf) (A B:Option Addr) (c d:Nat) (i:Int) (w:World) (hA:RInts w A t.buy) (hB:RInts w B t.sell) :
  Calls Tryz.prog 102 #[t.v A c B d,.int .i64 i] w fun e w' => e = .returned (.tuple #[.agg #[.int .i64 (t.price i).1,.int .i64 (t.price i).2],.bool (t.slot i)])∧Below w.heap.size w w':=by
 have hk0:=fun W (h:RInts W A t.buy) (h2:RInts W B t.sell) => tfcheck_any t A B c d W h h2
 have HA:=Lib.hid hA
 have HB:=Lib.hid hB
 simp only [Tf.v] at hk0 ⊢
 by_cases h0:0 ≤ i
 ·by_cases h1:i < (t.buy.length:Int)
  ·by_cases h2:t.chk=0
   ·have hsl:t.slot i=true:=by simp [Tf.slot,h0,h1,h2]
    have hg:=Tf.good h2
    have hpr:t.price i=(t.buy.getD i.toNat 0,t.sell.getD i.toNat 0):=by unfold Tf.price; rw [if_pos hsl]
    obtain ⟨k,rfl⟩:∃ k:Nat,i=(k:Int):=⟨i.toNat,by omega⟩
    have hkb:k < t.buy.length:=by omega
    have hks:k < t.sell.length:=by have:=hg.len; omega
    rw [Int.toNat_natCast, ← getD_eq hkb, ← getD_eq hks] at hpr
    rw [h2] at hk0
    rw [hpr,hsl]
    have hK:=Lib.hid hk0
    have hXA:=Lib.hid (fun W (h:RInts W A t.buy) => h.at' hkb)
    have hXB:=Lib.hid (fun W (h:RInts W B t.sell) => h.at' hks)
    have hlen:=hg.len
    simp only []
    generalize t.buy[k]=x at *
    generalize t.sell[k]=y at *
    have hn96:=hg.n1
    clear hk0 h2 hsl hg hpr hA hB
    obtain ⟨n,hn⟩:∃ n,n=t.buy.length:=⟨_,rfl⟩
    obtain ⟨m,hm⟩:∃ m,m=t.sell.length:=⟨_,rfl⟩
    rw [← hn] at h1 hK hkb hn96 ⊢
    rw [← hm] at hK hks ⊢
    clear hn hm hlen
    go_enter Tryz.func102,Tryz.ntmps102
    go_wp2_with fail
    have hO:Below w.heap.size w ((w.alloc (.cells #[.slice A n c,.slice B m d,.int .i64 t.fuse] 24)).alloc (.cells #[.int .i64 0,.int .i64 0] 134)):=((Below.refl _ _).alloc (Nat.le_refl _) _).alloc (by simp) _
    refine (hK.out _ (HA.out.below hO) (HB.out.below hO)).mono ?_
    rintro e w1 ⟨rfl,hb1⟩
    obtain ⟨q1,q2,q3,q4⟩:=two_boxes hb1
    have y0:=q1.cell 0
    have y1:=q1.cell 1
    have u0:=q2.cell 0
    have u1:=q2.cell 1
    have uf:=q2.frozen 0
    have uf1:=q2.frozen 1
    have HQ4:=Lib.hid q4
    simp at y0 y1 u0 u1
    obtain ⟨ba,oa,hAe,hba,x0⟩:=hXA.out w1 (HA.out.below q4)
    obtain ⟨bb,ob,hBe,hbb,x1⟩:=hXB.out w1 (HB.out.below q4)
    subst hAe hBe
    clear hb1 hO
    go_wp2_with fail
    go_region
    go_wp2_with fail
    refine bodyPost_ret (v := .tuple #[.agg #[.int .i64 x,.int .i64 y],.bool true]) (by simp [results,Tryz.results102,go_sem,u0,u1]) rfl ?_
    exact ⟨rfl,by
     first
     | exact ((HQ4.out.drew.setCell (by simp) _).setCell (by simp) _)
     | exact ((HQ4.out.setCell (by simp) _).setCell (by simp) _).drew
     | exact (((HQ4.out.drew.setCell (by simp) _).setCell (by simp) _))⟩
   ·have hsl:t.slot i=false:=by simp [Tf.slot,h2]
    have hpr:t.price i=(0,0):=by unfold Tf.price; rw [if_neg (by simp [hsl])]
    rw [hpr,hsl]
    have hne:(t.chk != 0)=true:=by simpa using h2
    have hK:=Lib.hid hk0
    simp only []
    generalize t.chk=ck at *
    clear hk0 h2 hsl hpr hA hB
    obtain ⟨n,hn⟩:∃ n,n=t.buy.length:=⟨_,rfl⟩
    obtain ⟨m,hm⟩:∃ m,m=t.sell.length:=⟨_,rfl⟩
    rw [← hn] at h1 hK ⊢
    rw [← hm] at hK ⊢
    clear hn hm
    go_enter Tryz.func102,Tryz.ntmps102
    go_wp2_with fail
    have hO:Below w.heap.size w ((w.alloc (.cells #[.slice A n c,.slice B m d,.int .i64 t.fuse] 24)).alloc (.cells #[.int .i64 0,.int .i64 0] 134)):=((Below.refl _ _).alloc (Nat.le_refl _) _).alloc (by simp) _
    refine (hK.out _ (HA.out.below hO) (HB.out.below hO)).mono ?_
    rintro e w1 ⟨rfl,hb1⟩
    obtain ⟨q1,q2,q3,q4⟩:=two_boxes hb1
    have u0:=q2.cell 0
    have u1:=q2.cell 1
    have uf:=q2.frozen 0
    have uf1:=q2.frozen 1
    have HQ4:=Lib.hid q4
    simp at u0 u1
    clear hb1 hO q1
    go_wp2_with fail
    refine bodyPost_ret (v := .tuple #[.agg #[.int .i64 0,.int .i64 0],.bool false]) (by simp [results,Tryz.results102,go_sem,u0,u1]) rfl ?_
    exact ⟨rfl,(HQ4.out.setCell (by simp) _).setCell (by simp) _⟩
  ·have hsl:t.slot i=false:=by simp [Tf.slot,h1]
   have hpr:t.price i=(0,0):=by unfold Tf.price; rw [if_neg (by simp [hsl])]
   rw [hpr,hsl]
   simp only []
   clear hk0 hsl hpr hA hB
   generalize t.buy.length=n at *
   generalize t.sell.length=m at *
   go_enter Tryz.func102,Tryz.ntmps102
   go_wp2_with fail
   refine bodyPost_ret (v := .tuple #[.agg #[.int .i64 0,.int .i64 0],.bool false]) (by simp [results,Tryz.results102,go_sem]) rfl ?_
   exact ⟨rfl,((Below.refl _ _).alloc (Nat.le_refl _) _).alloc (by simp) _⟩
 ·have hsl:t.slot i=false:=by simp [Tf.slot,h0]
  have hpr:t.price i=(0,0):=by unfold Tf.price; rw [if_neg (by simp [hsl])]
  rw [hpr,hsl]
  simp only []
  clear hk0 hsl hpr hA hB
  generalize t.buy.length=n at *
  generalize t.sell.length=m at *
  go_enter Tryz.func102,Tryz.ntmps102
  go_wp2_with fail
  refine bodyPost_ret (v := .tuple #[.agg #[.int .i64 0,.int .i64 0],.bool false]) (by simp [results,Tryz.results102,go_sem]) rfl ?_
  exact ⟨rfl,((Below.refl _ _).alloc (Nat.le_refl _) _).alloc (by simp) _⟩
def Tf.fits (t:Tf) (i net:Int):Bool:=t.slot i && wB net (-t.fuse) t.fuse
set_option maxRecDepth 100000 in
set_option maxHeartbeats 8000000 in
theorem fits_any (t:Tf) (A B:Option Addr) (c d:Nat) (i net:Int) (w:World) (hA:RInts w A t.buy) (hB:RInts w B t.sell) (_hf0 : -9223372036854775808 ≤ t.fuse) (_hf1:t.fuse ≤ 9223372036854775807) :
  Calls Tryz.prog 92 #[t.v A c B d,.int .i64 i,.int .i64 net] w fun e w' => e = .returned (.bool (t.fits i net))∧Below w.heap.size w w':=by
 have hk0:=fun W (h:RInts W A t.buy) (h2:RInts W B t.sell) => prices_any t A B c d i W h h2
 have HA:=Lib.hid hA
 have HB:=Lib.hid hB
 simp only [Tf.v] at hk0 ⊢
 generalize t.price i=pr at *
 have hr:Hid (∀ b:Bool,t.slot i=b→t.fits i net=(b && wB net (-t.fuse) t.fuse)):=fun b hb => by unfold Tf.fits; rw [hb]
 have hfu:t.slot i=true→1 ≤ t.fuse∧t.fuse ≤ 1000:=fun h => by
  simp only [Tf.slot,Bool.and_eq_true,decide_eq_true_eq] at h
  have g:=Tf.good h.2.2
  exact ⟨g.f0,g.f1⟩
 cases hsl:t.slot i
 ·have hz:=Lib.hid (hr.out _ hsl)
  rw [hsl] at hk0
  have hK:=Lib.hid hk0
  clear hk0 hr hfu hsl hA hB
  generalize t.buy.length=n at *
  generalize t.sell.length=m at *
  go_enter Tryz.func92,Tryz.ntmps92
  go_wp2_with fail
  have hO:∀ cs,Below w.heap.size w (w.alloc (.cells cs 24)):=fun cs => (Below.refl _ _).alloc (Nat.le_refl _) _
  refine (hK.out _ (HA.out.below (hO _)) (HB.out.below (hO _))).mono ?_
  rintro e w1 ⟨rfl,hb1⟩
  obtain ⟨q1,q3,q4⟩:=one_box hb1
  have u0:=q1.cell 0
  have u1:=q1.cell 1
  have u2:=q1.cell 2
  have HQ4:=Lib.hid q4
  simp at u0 u1 u2
  clear hb1 hO q1
  go_wp2_with fail
  go_ret
  exact ⟨ret_bool (by rw [hz.out]; rfl),HQ4.out.alloc (by omega) _⟩
 ·have hz:=Lib.hid (hr.out _ hsl)
  have hf:=hfu hsl
  rw [hsl] at hk0
  have hK:=Lib.hid hk0
  have hcs:(net < -t.fuse∧t.fits i net=false) ∨ (¬ net < -t.fuse∧t.fuse < net∧t.fits i net=false) ∨ (¬ net < -t.fuse∧¬ t.fuse < net∧t.fits i net=true):=by
   rw [hz.out,Bool.true_and]
   exact wB_cases net (-t.fuse) t.fuse
  clear hk0 hr hfu hsl hA hB
  generalize t.buy.length=n at *
  generalize t.sell.length=m at *
  have hwr:IntKind.i64.wrap (-t.fuse) = -t.fuse:=IntWalk.i64_in _ (by omega)
  rcases hcs with ⟨g,hq⟩ | ⟨g,g2,hq⟩ | ⟨g,g2,hq⟩
  all_goals
   rw [hq]
   clear hq hz
   go_enter Tryz.func92,Tryz.ntmps92
   go_wp2_with fail
   have hO:∀ cs,Below w.heap.size w (w.alloc (.cells cs 24)):=fun cs => (Below.refl _ _).alloc (Nat.le_refl _) _
   refine (hK.out _ (HA.out.below (hO _)) (HB.out.below (hO _))).mono ?_
   rintro e w1 ⟨rfl,hb1⟩
   obtain ⟨q1,q3,q4⟩:=one_box hb1
   have u0:=q1.cell 0
   have u1:=q1.cell 1
   have u2:=q1.cell 2
   have HQ4:=Lib.hid q4
   simp at u0 u1 u2
   clear hb1 hO q1
   go_wp2_with fail
   go_ret
   exact ⟨ret_bool (by first | rfl | (simp; done) | (simp; omega)),HQ4.out.alloc (by omega) _⟩
def Tf.slots (t:Tf):Nat:=if t.chk=0 then t.buy.length else 0
theorem rslots_any (t:Tf) (A B:Option Addr) (c d:Nat) (w:World) (hA:RInts w A t.buy) (hB:RInts w B t.sell) :
  Calls Tryz.prog 112 #[t.v A c B d] w fun e w' => e = .returned (.int .i64 t.slots)∧Below w.heap.size w w':=by
 have hk0:=fun W (h:RInts W A t.buy) (h2:RInts W B t.sell) => rtfcheck_any t A B c d W h h2
 have HA:=Lib.hid hA
 have HB:=Lib.hid hB
 simp only [Tf.v] at hk0 ⊢
 by_cases h:t.chk=0
 ·have hs:t.slots=t.buy.length:=by unfold Tf.slots; rw [if_pos h]
  rw [hs]
  rw [h] at hk0
  have hK:=Lib.hid hk0
  clear hk0 hs h hA hB
  generalize t.buy.length=n at *
  generalize t.sell.length=m at *
  go_enter Tryz.func112,Tryz.ntmps112
  go_wp2_with fail
  have hO:∀ cs,Below w.heap.size w (w.alloc (.cells cs 24)):=fun cs => (Below.refl _ _).alloc (Nat.le_refl _) _
  refine (hK.out _ (HA.out.below (hO _)) (HB.out.below (hO _))).mono ?_
  rintro e w1 ⟨rfl,hb1⟩
  obtain ⟨q1,q3,q4⟩:=one_box hb1
  have u0:=q1.cell 0
  have HQ4:=Lib.hid q4
  simp at u0
  clear hb1 hO q1
  go_wp2_with fail
  go_ret
  exact ⟨rfl,HQ4.out⟩
 ·have hs:t.slots=0:=by unfold Tf.slots; rw [if_neg h]
  have hne:(t.chk != 0)=true:=by simpa using h
  rw [hs]
  have hK:=Lib.hid hk0
  clear hk0 hs h hA hB
  generalize t.chk=ck at *
  generalize t.buy.length=n at *
  generalize t.sell.length=m at *
  go_enter Tryz.func112,Tryz.ntmps112
  go_wp2_with fail
  have hO:∀ cs,Below w.heap.size w (w.alloc (.cells cs 24)):=fun cs => (Below.refl _ _).alloc (Nat.le_refl _) _
  refine (hK.out _ (HA.out.below (hO _)) (HB.out.below (hO _))).mono ?_
  rintro e w1 ⟨rfl,hb1⟩
  have HQ4:=Lib.hid (one_box hb1).2.2
  clear hb1 hO
  go_wp2_with fail
  go_ret
  exact ⟨rfl,HQ4.out⟩
def Tf.costI (t:Tf) (i net:Int):Int:=if t.slot i=true then amountZ (t.buy.getD i.toNat 0) (t.sell.getD i.toNat 0) net else 0
set_option maxRecDepth 100000 in
set_option maxHeartbeats 8000000 in
theorem rcost_any (t:Tf) (A B:Option Addr) (c d:Nat) (i net:Int) (w:World) (hA:RInts w A t.buy) (hB:RInts w B t.sell) :
  Calls Tryz.prog 113 #[t.v A c B d,.int .i64 i,.int .i64 net] w fun e w' => e = .returned (.int .i64 (t.costI i net))∧Below w.heap.size w w':=by
 have hk0:=fun W (h:RInts W A t.buy) (h2:RInts W B t.sell) => rslots_any t A B c d W h h2
 have HA:=Lib.hid hA
 have HB:=Lib.hid hB
 have hO:Hid (∀ cs,Below w.heap.size w (w.alloc (.cells cs 24))):=fun cs => (Below.refl _ _).alloc (Nat.le_refl _) _
 simp only [Tf.v] at hk0 ⊢
 have hcs:(i < 0∧t.slot i=false) ∨ (0 ≤ i∧(t.slots:Int) ≤ i∧t.slot i=false) ∨ (0 ≤ i∧i < (t.slots:Int)∧t.slot i=true):=by
  unfold Tf.slot Tf.slots
  by_cases h:t.chk=0
  ·by_cases h2:0 ≤ i <;> by_cases h3:i < (t.buy.length:Int) <;> simp [h,h2,h3] <;> omega
  ·by_cases h2:0 ≤ i <;> simp [h,h2] <;> omega
 rcases hcs with ⟨g,hs⟩ | ⟨g,g2,hs⟩ | ⟨g,g2,hs⟩
 ·have hr:t.costI i net=0:=by unfold Tf.costI; rw [if_neg (by simp [hs])]
  rw [hr]
  clear hk0 hs hr hA hB
  generalize t.buy.length=n at *
  generalize t.sell.length=m at *
  go_enter Tryz.func113,Tryz.ntmps113
  go_wp2_with fail
  go_ret
  exact ⟨rfl,hO.out _⟩
 ·have hr:t.costI i net=0:=by unfold Tf.costI; rw [if_neg (by simp [hs])]
  rw [hr]
  have hK:=Lib.hid hk0
  clear hk0 hs hr hA hB
  generalize t.slots=q at *
  generalize t.buy.length=n at *
  generalize t.sell.length=m at *
  go_enter Tryz.func113,Tryz.ntmps113
  go_wp2_with fail
  refine (hK.out _ (HA.out.below (hO.out _)) (HB.out.below (hO.out _))).mono ?_
  rintro e w1 ⟨rfl,hb1⟩
  have HQ4:=Lib.hid (one_box hb1).2.2
  clear hb1
  go_wp2_with fail
  go_ret
  exact ⟨rfl,HQ4.out⟩
 ·have hc:t.chk=0:=by simp only [Tf.slot,Bool.and_eq_true,decide_eq_true_eq] at hs; exact hs.2.2
  have hg:=Tf.good hc
  obtain ⟨k,rfl⟩:∃ k:Nat,i=(k:Int):=⟨i.toNat,by omega⟩
  have hsl:t.slots=t.buy.length:=by unfold Tf.slots; rw [if_pos hc]
  have hkb:k < t.buy.length:=by rw [← hsl]; omega
  have hks:k < t.sell.length:=by have:=hg.len; omega
  have hr:t.costI k net=amountZ (t.buy.getD k 0) (t.sell.getD k 0) net:=by unfold Tf.costI; rw [if_pos hs]; rfl
  have hb:=hg.b k
  have hsb:=hg.s k
  rw [← getD_eq hkb, ← getD_eq hks] at hr
  rw [← getD_eq hkb] at hb
  rw [← getD_eq hks] at hsb
  rw [hr]
  have hK:=Lib.hid hk0
  have hXA:=Lib.hid (fun W (h:RInts W A t.buy) => h.at' hkb)
  have hXB:=Lib.hid (fun W (h:RInts W B t.sell) => h.at' hks)
  have hcl:=Lib.hid (fun W => rpclamp_any net W)
  have hn96:=hg.n1
  have hlen:=hg.len
  generalize t.buy[k]=x at *
  generalize t.sell[k]=y at *
  clear hk0 hs hc hg hr hA hB
  rw [hsl] at hK g2
  clear hsl
  obtain ⟨n,hn⟩:∃ n,n=t.buy.length:=⟨_,rfl⟩
  obtain ⟨m,hm⟩:∃ m,m=t.sell.length:=⟨_,rfl⟩
  rw [← hn] at g2 hK hkb hn96 ⊢
  rw [← hm] at hK hks ⊢
  have hmn:(m:Int)=n:=by omega
  clear hn hm hlen
  have hbd:=limP_bd net
  have m1:=mulP hbd.1 hbd.2 hb.1 hb.2
  have m2:=mulP hbd.1 hbd.2 hsb.1 hsb.2
  unfold amountZ
  generalize limP net=z at *
  have i3:(k:Int) < (m:Int):=by omega
  by_cases hz:z < 0
  ·rw [if_pos hz]
   go_enter Tryz.func113,Tryz.ntmps113
   go_wp2_with fail
   refine (hK.out _ (HA.out.below (hO.out _)) (HB.out.below (hO.out _))).mono ?_
   rintro e w1 ⟨rfl,hb1⟩
   obtain ⟨q1,q3,q4⟩:=one_box hb1
   have u0:=q1.cell 0
   have u1:=q1.cell 1
   have HQ4:=Lib.hid q4
   simp at u0 u1
   obtain ⟨ba,oa,hAe,hba,x0⟩:=hXA.out w1 (HA.out.below q4)
   obtain ⟨bb,ob,hBe,hbb,x1⟩:=hXB.out w1 (HB.out.below q4)
   subst hAe hBe
   clear hb1 q1
   go_wp2_with fail
   refine (hcl.out _).mono ?_
   rintro e w2 ⟨rfl,rfl⟩
   go_wp2_with fail
   go_ret
   exact ⟨rfl,HQ4.out⟩
  ·rw [if_neg hz]
   go_enter Tryz.func113,Tryz.ntmps113
   go_wp2_with fail
   refine (hK.out _ (HA.out.below (hO.out _)) (HB.out.below (hO.out _))).mono ?_
   rintro e w1 ⟨rfl,hb1⟩
   obtain ⟨q1,q3,q4⟩:=one_box hb1
   have u0:=q1.cell 0
   have u1:=q1.cell 1
   have HQ4:=Lib.hid q4
   simp at u0 u1
   obtain ⟨ba,oa,hAe,hba,x0⟩:=hXA.out w1 (HA.out.below q4)
   obtain ⟨bb,ob,hBe,hbb,x1⟩:=hXB.out w1 (HB.out.below q4)
   subst hAe hBe
   clear hb1 q1
   go_wp2_with fail
   refine (hcl.out _).mono ?_
   rintro e w2 ⟨rfl,rfl⟩
   go_wp2_with fail
   go_ret
   exact ⟨rfl,HQ4.out⟩
end Go.Proofs.YtnppngaabfhkpaaGreat
