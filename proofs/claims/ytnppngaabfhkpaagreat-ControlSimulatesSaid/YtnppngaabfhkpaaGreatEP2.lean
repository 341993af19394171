/-
  The walks of layer 38 (tariff), part 2: Check of the program and of the reference.
-/
import Derived.Test.YtnppngaabfhkpaaGreatEP1
import Derived.Test.YtnppngaabfhkpaaGreatET3
namespace Go.Proofs.YtnppngaabfhkpaaGreat
open Go.RowKit
attribute [local go_sem ↓] Go.wp_at_zero Go.wp_at_succ
def Tf.v (t:Tf) (A:Option Addr) (c:Nat) (B:Option Addr) (d:Nat):Value := .agg #[.slice A t.buy.length c,.slice B t.sell.length d,.int .i64 t.fuse]
theorem Tf.lim_cases {t:Tf} (h:t.lim=false):((t.buy.length:Int) < 1) ∨ (¬ (t.buy.length:Int) < 1∧96 < (t.buy.length:Int)) ∨ (¬ (t.buy.length:Int) < 1∧¬ 96 < (t.buy.length:Int)∧(t.sell.length:Int) ≠ (t.buy.length:Int)):=by
 simp only [Tf.lim,decide_eq_false_iff_not] at h
 omega
theorem Tf.lim_yes {t:Tf} (h:t.lim=true):¬ (t.buy.length:Int) < 1∧¬ 96 < (t.buy.length:Int)∧t.sell.length=t.buy.length:=by
 simp only [Tf.lim,decide_eq_true_eq] at h
 omega
set_option maxRecDepth 100000 in
set_option maxHeartbeats 4000000 in
theorem tfcheck_lim (t:Tf) (A B:Option Addr) (c d:Nat) (w:World) (h:t.lim=false) :
  Calls Tryz.prog 38 #[t.v A c B d] w fun e w' => e = .returned (.int .i64 t.chk)∧Below w.heap.size w w':=by
 rw [Tf.chk_lim h]
 simp only [Tf.v]
 rcases Tf.lim_cases h with g | ⟨g,g2⟩ | ⟨g,g2,g3⟩
 ·clear h
  go_enter Tryz.func38,Tryz.ntmps38
  go_wp2_with fail
  go_ret
  exact ⟨rfl,(Below.refl _ _).alloc (Nat.le_refl _) _⟩
 ·clear h
  go_enter Tryz.func38,Tryz.ntmps38
  go_wp2_with fail
  go_ret
  exact ⟨rfl,(Below.refl _ _).alloc (Nat.le_refl _) _⟩
 ·have g4:((t.sell.length:Int) != (t.buy.length:Int))=true:=by rw [bne_iff_ne]; exact g3
  clear h g3
  go_enter Tryz.func38,Tryz.ntmps38
  go_wp2_with fail
  go_ret
  exact ⟨rfl,(Below.refl _ _).alloc (Nat.le_refl _) _⟩
set_option maxRecDepth 100000 in
set_option maxHeartbeats 4000000 in
theorem rtfcheck_lim (t:Tf) (A B:Option Addr) (c d:Nat) (w:World) (h:t.lim=false) :
  Calls Tryz.prog 16 #[t.v A c B d] w fun e w' => e = .returned (.int .i64 t.chk)∧Below w.heap.size w w':=by
 rw [Tf.chk_lim h]
 simp only [Tf.v]
 rcases Tf.lim_cases h with g | ⟨g,g2⟩ | ⟨g,g2,g3⟩
 ·clear h
  go_enter Tryz.func16,Tryz.ntmps16
  go_wp2_with fail
  go_ret
  exact ⟨rfl,(Below.refl _ _).alloc (Nat.le_refl _) _⟩
 ·clear h
  go_enter Tryz.func16,Tryz.ntmps16
  go_wp2_with fail
  go_ret
  exact ⟨rfl,(Below.refl _ _).alloc (Nat.le_refl _) _⟩
 ·have g4:((t.sell.length:Int) != (t.buy.length:Int))=true:=by rw [bne_iff_ne]; exact g3
  clear h g3
  go_enter Tryz.func16,Tryz.ntmps16
  go_wp2_with fail
  go_ret
  exact ⟨rfl,(Below.refl _ _).alloc (Nat.le_refl _) _⟩
set_option maxRecDepth 100000 in
set_option maxHeartbeats 8000000 in
theorem tfcheck_nums (t:Tf) (A B:Option Addr) (c d:Nat) (w:World) (hA:RInts w A t.buy) (hB:RInts w B t.sell) (h:t.lim=true) (h2:t.nums=false) :
  Calls Tryz.prog 38 #[t.v A c B d] w fun e w' => e = .returned (.int .i64 t.chk)∧Below w.heap.size w w':=by
 rw [Tf.chk_nums h h2]
 simp only [Tf.v]
 obtain ⟨l1,l2,l3⟩:=Tf.lim_yes h
 obtain ⟨n,hn⟩:∃ n,n=t.buy.length:=⟨_,rfl⟩
 obtain ⟨m,hm⟩:∃ m,m=t.sell.length:=⟨_,rfl⟩
 have hmn:((m:Int) != (n:Int))=false:=by rw [bne_eq_false_iff_eq]; omega
 have hb0:∀ W,RInts W A t.buy→_:=fun W hW => contains_high A c t.buy W hW (by omega)
 have hs0:∀ W,RInts W B t.sell→_:=fun W hW => contains_high B d t.sell W hW (by omega)
 have HA:=Lib.hid hA
 have HB:=Lib.hid hB
 have hO:Hid (∀ cs,Below w.heap.size w (w.alloc (.cells cs 24))):=fun cs => (Below.refl _ _).alloc (Nat.le_refl _) _
 have hcs:(allB t.buy 0 1000000=false) ∨ (allB t.buy 0 1000000=true∧allB t.sell 0 1000000=false) ∨ (allB t.buy 0 1000000=true∧allB t.sell 0 1000000=true∧(t.fuse < 1 ∨ (¬ t.fuse < 1∧1000 < t.fuse))):=by
  cases e1:allB t.buy 0 1000000
  ·exact .inl rfl
  ·cases e2:allB t.sell 0 1000000
   ·exact .inr (.inl ⟨rfl,rfl⟩)
   ·refine .inr (.inr ⟨rfl,rfl,?_⟩)
    simp only [Tf.nums,e1,e2,Bool.true_and] at h2
    have:=wB_false.1 h2
    omega
 rw [← hn] at hb0 l1 l2 ⊢
 rw [← hm] at hs0 ⊢
 clear hn hm l3 hA hB h h2
 rcases hcs with e1 | ⟨e1,e2⟩ | ⟨e1,e2,e3⟩
 ·rw [e1] at hb0
  have hb:=Lib.hid hb0
  clear hb0 hs0 e1
  go_enter Tryz.func38,Tryz.ntmps38
  go_wp2_with fail
  refine (hb.out _ (HA.out.below (hO.out _))).mono ?_
  rintro e w1 ⟨rfl,rfl⟩
  go_wp2_with fail
  go_ret
  exact ⟨rfl,hO.out _⟩
 ·rw [e1] at hb0
  rw [e2] at hs0
  have hb:=Lib.hid hb0
  have hs:=Lib.hid hs0
  clear hb0 hs0 e1 e2
  go_enter Tryz.func38,Tryz.ntmps38
  go_wp2_with fail
  refine (hb.out _ (HA.out.below (hO.out _))).mono ?_
  rintro e w1 ⟨rfl,rfl⟩
  go_wp2_with fail
  refine (hs.out _ (HB.out.below (hO.out _))).mono ?_
  rintro e w1 ⟨rfl,rfl⟩
  go_wp2_with fail
  go_ret
  exact ⟨rfl,hO.out _⟩
 ·rw [e1] at hb0
  rw [e2] at hs0
  have hb:=Lib.hid hb0
  have hs:=Lib.hid hs0
  clear hb0 hs0 e1 e2
  rcases e3 with e3 | ⟨e3,e4⟩
  all_goals
   go_enter Tryz.func38,Tryz.ntmps38
   go_wp2_with fail
   refine (hb.out _ (HA.out.below (hO.out _))).mono ?_
   rintro e w1 ⟨rfl,rfl⟩
   go_wp2_with fail
   refine (hs.out _ (HB.out.below (hO.out _))).mono ?_
   rintro e w1 ⟨rfl,rfl⟩
   go_wp2_with fail
   go_ret
   exact ⟨rfl,hO.out _⟩
set_option maxRecDepth 100000 in
set_option maxHeartbeats 8000000 in
theorem tfcheck_order (t:Tf) (A B:Option Addr) (c d:Nat) (w:World) (hA:RInts w A t.buy) (hB:RInts w B t.sell) (h:t.lim=true) (h2:t.nums=true) :
  Calls Tryz.prog 38 #[t.v A c B d] w fun e w' => e = .returned (.int .i64 t.chk)∧Below w.heap.size w w':=by
 simp only [Tf.v]
 obtain ⟨l1,l2,l3⟩:=Tf.lim_yes h
 obtain ⟨n,hn⟩:∃ n,n=t.buy.length:=⟨_,rfl⟩
 obtain ⟨m,hm⟩:∃ m,m=t.sell.length:=⟨_,rfl⟩
 have hmn:((m:Int) != (n:Int))=false:=by rw [bne_eq_false_iff_eq]; omega
 have hb0:∀ W,RInts W A t.buy→_:=fun W hW => contains_high A c t.buy W hW (by omega)
 have hs0:∀ W,RInts W B t.sell→_:=fun W hW => contains_high B d t.sell W hW (by omega)
 have HA:=Lib.hid hA
 have HB:=Lib.hid hB
 have HN:=Lib.hid hn
 have HM:=Lib.hid hm
 have HL3:=Lib.hid l3
 have hO:Hid (∀ cs,Below w.heap.size w (w.alloc (.cells cs 24))):=fun cs => (Below.refl _ _).alloc (Nat.le_refl _) _
 have hbad:=Lib.hid (fun (h3:t.orderTo t.buy.length=false) => Tf.chk_order h h2 h3)
 have hgood:=Lib.hid (fun (h3:t.orderTo t.buy.length=true) => Tf.chk_ok h h2 h3)
 have h2':=h2
 simp only [Tf.nums,Bool.and_eq_true] at h2'
 obtain ⟨e1,e2,e3⟩:=h2'
 have e3:=wB_true.1 e3
 obtain ⟨f1,f2⟩:=e3
 rw [e1] at hb0
 rw [e2] at hs0
 rw [← hn] at hb0 l1 l2 ⊢
 rw [← hm] at hs0 ⊢
 have hb:=Lib.hid hb0
 have hs:=Lib.hid hs0
 clear hn hm l3 hA hB h h2 hb0 hs0 e1 e2
 go_enter Tryz.func38,Tryz.ntmps38
 go_wp2_with fail
 refine (hb.out _ (HA.out.below (hO.out _))).mono ?_
 rintro e w1 ⟨rfl,rfl⟩
 go_wp2_with fail
 refine (hs.out _ (HB.out.below (hO.out _))).mono ?_
 rintro e w1 ⟨rfl,rfl⟩
 go_wp2_with fail
 go_loopw [4,5,48] (fun _ _ i' wr => ∃ k:Nat,k ≤ n∧i' = .int .i64 k∧Hid (t.orderTo k=true)∧w.alloc (.cells #[.slice A n c,.slice B m d,.int .i64 t.fuse] 24)=wr)
  (fun _ _ i' _ => n - (intOf i').toNat)
 case atStart => exact ⟨0,by omega,rfl,rfl,rfl⟩
 case round =>
  obtain ⟨k,hk,rfl,hok,rfl⟩:=hrel
  have hmn2:(m:Int)=(n:Int):=by simpa using hmn
  by_cases hlt:k < n
  ·have hkb:k < t.buy.length:=by have:=HN.out; omega
   have hks:k < t.sell.length:=by have:=HN.out; have:=HL3.out; omega
   obtain ⟨ba,oa,hAe,_,x0⟩:=(HA.out.below (hO.out #[.slice A n c,.slice B m d,.int .i64 t.fuse])).at' hkb
   obtain ⟨bb,ob,hBe,_,y0⟩:=(HB.out.below (hO.out #[.slice A n c,.slice B m d,.int .i64 t.fuse])).at' hks
   have hsu:=Lib.hid (Tf.orderTo_succ t k)
   have hxe:=Lib.hid (getD_eq hkb)
   have hye:=Lib.hid (getD_eq hks)
   have hle:=Lib.hid (fun (h:t.orderTo (k+1)=false) => Tf.orderTo_le h (show k+1 ≤ t.buy.length by have:=HN.out; omega))
   subst hAe hBe
   have i1:(0:Int) ≤ (k:Int):=by omega
   have i2:(k:Int) < (n:Int):=by omega
   have i3:(k:Int) < (m:Int):=by omega
   by_cases hgt:t.buy[k] < t.sell[k]
   ·have hbd:Hid (t.chk=4):=hbad.out (hle.out (by rw [hsu.out,hok.out, ← hxe.out, ← hye.out]; simp; omega))
    clear hsu hxe hye hle hbad hgood
    generalize t.buy[k]=x at *
    generalize t.sell[k]=y at *
    go_wp2_with fail
    go_ret
    exact ⟨ret_int hbd.out.symm,hO.out _⟩
   ·have hok':Hid (t.orderTo (k+1)=true):=by
     show _=_
     rw [hsu.out,hok.out, ← hxe.out, ← hye.out]; simp; omega
    clear hsu hxe hye hle
    generalize t.buy[k]=x at *
    generalize t.sell[k]=y at *
    go_wp2_with fail
    go_roundw
    case rel => exact ⟨k+1,by omega,by go_num,hok',trivial⟩
    case measure => simp [intOf]; omega
  ·have hgd:Hid (t.chk=0):=hgood.out (by have:=HN.out; rw [← HN.out,show n=k by omega]; exact hok.out)
   go_wp2_with fail
   go_ret
   exact ⟨ret_int hgd.out.symm,hO.out _⟩
theorem tfcheck_any (t:Tf) (A B:Option Addr) (c d:Nat) (w:World) (hA:RInts w A t.buy) (hB:RInts w B t.sell) :
  Calls Tryz.prog 38 #[t.v A c B d] w fun e w' => e = .returned (.int .i64 t.chk)∧Below w.heap.size w w':=by
 cases h:t.lim
 ·exact tfcheck_lim t A B c d w h
 ·cases h2:t.nums
  ·exact tfcheck_nums t A B c d w hA hB h h2
  ·exact tfcheck_order t A B c d w hA hB h h2
end Go.Proofs.YtnppngaabfhkpaaGreat
