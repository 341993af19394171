/-
  The walks of layer 38 (tariff), part 5: Total of the program and of the reference.
-/
import Derived.Test.YtnppngaabfhkpaaGreatEP3
import Derived.Test.YtnppngaabfhkpaaGreatEL16
namespace Go.Proofs.YtnppngaabfhkpaaGreat
open Go.RowKit
attribute [local go_sem ↓] Go.wp_at_zero Go.wp_at_succ
theorem Tf.total_slots (t:Tf) (l:List Int):t.total l=t.totalTo l (min l.length t.slots):=by
 unfold Tf.total Tf.slots
 by_cases h:t.chk=0
 ·rw [if_pos h,if_pos h]
 ·rw [if_neg h,if_neg h,Nat.min_zero,Tf.totalTo_zero]
theorem Tf.slots_bd (t:Tf):t.slots ≤ 96:=by
 unfold Tf.slots
 by_cases h:t.chk=0
 ·rw [if_pos h]; exact (Tf.good h).n1
 ·rw [if_neg h]; omega
theorem Tf.slots_ok {t:Tf} {k:Nat} (h:k < t.slots):t.chk=0∧k < t.buy.length:=by
 unfold Tf.slots at h
 by_cases hc:t.chk=0
 ·rw [if_pos hc] at h; exact ⟨hc,h⟩
 ·rw [if_neg hc] at h; omega
theorem Tf.costI_eq {t:Tf} {k:Nat} (h:k < t.slots) (net:Int):t.costI k net=t.cost k net:=by
 obtain ⟨hc,hk⟩:=Tf.slots_ok h
 unfold Tf.costI Tf.cost
 rw [if_pos (by simp [Tf.slot,hc,hk])]
 rfl
set_option maxRecDepth 100000 in
set_option maxHeartbeats 8000000 in
theorem rtotal_any (t:Tf) (A B C:Option Addr) (c d e0:Nat) (l:List Int) (w:World) (hA:RInts w A t.buy) (hB:RInts w B t.sell) (hC:RInts w C l) (hl:l.length < 9223372036854775807) :
  Calls Tryz.prog 107 #[t.v A c B d,.slice C l.length e0] w fun e w' => e = .returned (.int .i64 (t.total l))∧Below w.heap.size w w':=by
 have hK:=Lib.hid (fun W (h:RInts W A t.buy) (h2:RInts W B t.sell) => rslots_any t A B c d W h h2)
 have hR:=Lib.hid (fun W (h:RInts W A t.buy) (h2:RInts W B t.sell) i net => rcost_any t A B c d i net W h h2)
 have HA:=Lib.hid hA
 have HB:=Lib.hid hB
 have HC:=Lib.hid hC
 rw [Tf.total_slots]
 have hq:=t.slots_bd
 have hci:=Lib.hid (fun k (h:k < t.slots) net => Tf.costI_eq h net)
 have htb:=Lib.hid (fun k (h:k < t.slots) => Tf.totalTo_bd (Tf.good (Tf.slots_ok h).1) l k)
 have hcb:=Lib.hid (fun k (h:k < t.slots) net => Tf.cost_bd (Tf.good (Tf.slots_ok h).1) k net)
 have hsu:=Lib.hid (fun k => Tf.totalTo_succ t l k)
 have hz:=Lib.hid (Tf.totalTo_zero t l)
 simp only [Tf.v] at hK hR ⊢
 generalize t.slots=q at *
 generalize t.buy.length=n at *
 generalize t.sell.length=m at *
 obtain ⟨L,hL⟩:∃ L,L=l.length:=⟨_,rfl⟩
 have HL:=Lib.hid hL
 rw [← hL] at hl ⊢
 clear hL hA hB hC
 go_enter Tryz.func107,Tryz.ntmps107
 go_wp2_with fail
 go_loopw [5,6] (fun s' i' wr => ∃ k:Nat,k ≤ min L q∧i' = .int .i64 k∧s' = .int .i64 (t.totalTo l k)∧Below (w.heap.size+1) (w.alloc (.cells #[.slice A n c,.slice B m d,.int .i64 t.fuse] 24)) wr)
  (fun _ i' _ => min L q - (intOf i').toNat)
 case atStart => exact ⟨0,by omega,rfl,by rw [hz.out],Below.refl _ _⟩
 case round =>
  obtain ⟨k,hk,rfl,rfl,hBw⟩:=hrel
  obtain ⟨wo,hwo⟩:∃ wo:World,wo=wr:=⟨_,rfl⟩
  subst hwo
  have HW:=Lib.hid hBw
  have HO:=Lib.hid (((Below.refl w.heap.size w).alloc (Nat.le_refl _) (.cells #[.slice A n c,.slice B m d,.int .i64 t.fuse] 24)).trans (hBw.mono (by omega)))
  have hc:=(bcell' hBw).1
  have z0:wo.cell? ⟨w.heap.size,0,none⟩=some (.slice A n c):=by rw [hc _ _ (by omega)]; simp [World.cell?_alloc_new]
  have z1:wo.cell? ⟨w.heap.size,1,none⟩=some (.slice B m d):=by rw [hc _ _ (by omega)]; simp [World.cell?_alloc_new]
  have z2:wo.cell? ⟨w.heap.size,2,none⟩=some (.int .i64 t.fuse):=by rw [hc _ _ (by omega)]; simp [World.cell?_alloc_new]
  have hsz:w.heap.size+1 ≤ wo.heap.size:=by have:=hBw.size; simpa using this
  clear hBw hc
  go_wp2_with fail
  refine (hK.out _ (HA.out.below HO.out) (HB.out.below HO.out)).mono ?_
  rintro e w1 ⟨rfl,hb1⟩
  have y0:=cell_below z0 hb1
  have y1:=cell_below z1 hb1
  have y2:=cell_below z2 hb1
  have HO1:=Lib.hid (HO.out.trans (hb1.mono HO.out.size))
  have HW1:=Lib.hid (HW.out.trans (hb1.mono hsz))
  have hs1:w.heap.size+1 ≤ w1.heap.size:=Nat.le_trans hsz hb1.size
  clear z0 z1 z2 hb1 hsz
  by_cases hkq:k < q
  ·by_cases hkl:k < L
   ·have hkl2:k < l.length:=by have:=HL.out; omega
    obtain ⟨bc,oc,hCe,hcc,x0⟩:=(HC.out.below HO1.out).at' hkl2
    have hci':=hci.out k hkq l[k]
    have htb':=htb.out k hkq
    have hcb':=hcb.out k hkq l[k]
    have hsu':Hid (t.totalTo l (k+1)=t.totalTo l k+t.cost k l[k]):=by
     show _=_
     rw [getD_eq hkl2]; exact hsu.out k
    have hR':=Lib.hid (fun W (h:RInts W A t.buy) (h2:RInts W B t.sell) => hR.out W h h2 (k:Int) l[k])
    rw [hci'] at hR'
    subst hCe
    clear hci' hci htb hcb hsu
    generalize l[k]=x at *
    generalize t.cost k x=cz at *
    generalize hT:t.totalTo l (k+1)=T1 at *
    generalize hT0:t.totalTo l k=T0 at *
    have HSU:=hsu'
    have i1:(0:Int) ≤ (k:Int):=by omega
    have i2:(k:Int) < (L:Int):=by omega
    have i3:(k:Int) < (q:Int):=by omega
    have hwr:IntKind.i64.wrap (T0+cz)=T0+cz:=IntWalk.i64_in _ (by omega)
    have HKT:=Lib.hid hT
    have HKT0:=Lib.hid hT0
    clear hT hT0 hsu'
    have HK:Hid (∀ W,Below w1.heap.size w1 W→Below w1.heap.size w1 W∧W.cell? ⟨w.heap.size,0,none⟩=some (.slice A n c)∧W.cell? ⟨w.heap.size,1,none⟩=some (.slice B m d)∧W.cell? ⟨w.heap.size,2,none⟩=some (.int .i64 t.fuse)∧W.cell? ⟨bc,oc+k,none⟩=some (.int .i64 x)):=fun W hb => ⟨hb,cell_below y0 hb,cell_below y1 hb,cell_below y2 hb,cell_below x0 hb⟩
    go_wp2_with fail
    go_region_held3 (fun w' => Below w1.heap.size w1 w'∧w'.cell? ⟨w.heap.size,0,none⟩=some (.slice A n c)∧w'.cell? ⟨w.heap.size,1,none⟩=some (.slice B m d)∧w'.cell? ⟨w.heap.size,2,none⟩=some (.int .i64 t.fuse)∧w'.cell? ⟨bc,oc+k,none⟩=some (.int .i64 x))
     (first | exact HK.out _ (Below.refl _ _) | exact HK.out _ (Below.drew (Below.refl _ _)) | exact HK.out _ (Below.drew (by assumption)) | exact HK.out _ (Below.drew (And.left (by assumption))) | exact HK.out _ (Below.trans (by first | assumption | exact And.left (by assumption) | exact Below.refl _ _ | exact Below.drew (Below.refl _ _) | exact Below.drew (by assumption) | exact Below.drew (And.left (by assumption))) (Below.mono (by assumption) (Below.size (by first | assumption | exact And.left (by assumption) | exact Below.refl _ _ | exact Below.drew (Below.refl _ _) | exact Below.drew (by assumption) | exact Below.drew (And.left (by assumption)))))))
     (first | (go_at_call 113; refine (hR'.out _ (HA.out.below (HO1.out.trans (Below.mono (by first | assumption | exact And.left (by assumption) | exact Below.refl _ _ | exact Below.drew (by assumption) | exact Below.drew (Below.refl _ _)) HO1.out.size))) (HB.out.below (HO1.out.trans (Below.mono (by first | assumption | exact And.left (by assumption) | exact Below.refl _ _ | exact Below.drew (by assumption) | exact Below.drew (Below.refl _ _)) HO1.out.size)))).mono ?_; rintro e' w7 ⟨rfl,hb7⟩))
    go_wp2_with fail
    go_roundw
    case rel => exact ⟨k+1,by omega,by go_num,by rw [HKT.out,HSU.out],HW1.out.trans (Below.mono (by first | assumption | exact And.left (by assumption) | exact Below.refl _ _ | exact Below.drew (Below.refl _ _) | exact Below.drew (by assumption) | exact Below.drew (And.left (by assumption))) hs1)⟩
    case measure => simp [intOf]; omega
   ·have hfin:Hid (min L q=k):=by show _=_; omega
    go_wp2_with fail
    go_ret
    exact ⟨ret_int (by rw [hfin.out]),HO1.out⟩
  ·have hfin:Hid (min L q=k):=by show _=_; omega
   go_wp2_with fail
   go_ret
   exact ⟨ret_int (by rw [hfin.out]),HO1.out⟩
end Go.Proofs.YtnppngaabfhkpaaGreat
