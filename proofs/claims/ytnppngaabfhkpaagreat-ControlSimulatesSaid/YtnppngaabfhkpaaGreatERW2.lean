/-
  The walks of layer 44's reference: Shift with capacities.
-/
import Derived.Test.YtnppngaabfhkpaaGreatECS0
import Derived.Deep.RegionHeld3
import Derived.Deep.DrawnRows
namespace Go.Proofs.YtnppngaabfhkpaaGreat
open Go.RowKit
attribute [local go_sem ↓] Go.wp_at_zero Go.wp_at_succ
theorem shift_cutC {w1 w5:World} {A':Option Addr} {c' n:Nat} {l:List Int} (hn:n=l.length) (h:w5.ownsRow w1.heap.size 3 1 (.slice A' (0+n) c') (0+n) ([] ++ ints l)) :
  RInts w5 A' l∧n ≤ c'∧∀ ad,A'=some ad→w1.heap.size ≤ ad.block∧ad.block < w5.heap.size:=by
 subst hn
 rw [Nat.zero_add,List.nil_append] at h
 exact ⟨Reads.of_own h,own_cap h,fun ad e => by subst e; exact h.lt ad.block (by simp [Value.ownBlock])⟩
def ShiftMidC (r:Ld) (n:Nat) (K:Int) (w1:World) (s6:Value) (wx:World):Prop :=
 ∃ (g:Nat) (A':Option Addr) (c':Nat),s6 = .pointer (some ⟨g,0,none⟩)∧w1.heap.size ≤ g∧Blk wx g 54 #[.string r.name,.slice A' n c',.int .i64 (r.early - K),.int .i64 (r.late - K)]∧RInts wx A' r.prof∧n ≤ c'∧(∀ ad,A'=some ad→w1.heap.size ≤ ad.block∧ad.block ≠ g)∧Below w1.heap.size w1 wx
section
variable {r:Ld} {n:Nat} {K:Int} {w1 w5:World} {A':Option Addr} {c' g:Nat}
theorem mid_newC (hn:n=r.prof.length) (hown5:w5.ownsRow w1.heap.size 3 1 (.slice A' (0+n) c') (0+n) ([] ++ ints r.prof)) (hB5:Below w1.heap.size w1 w5) :
  ShiftMidC r n K w1 (.pointer (some ⟨w5.heap.size,0,none⟩)) (w5.alloc (.cells #[.string r.name,.slice A' n c',.int .i64 (r.early - K),.int .i64 (r.late - K)] 54)):=by
 have hcl:=shift_cutC hn hown5
 exact ⟨w5.heap.size,A',c',rfl,hB5.size,Blk.new _ _ _,hcl.1.alloc _,hcl.2.1,fun ad e => ⟨(hcl.2.2 ad e).1,Nat.ne_of_lt (hcl.2.2 ad e).2⟩,hB5.alloc hB5.size _⟩
theorem mid_oldC (hn:n=r.prof.length) (hown5:w5.ownsRow w1.heap.size 3 1 (.slice A' (0+n) c') (0+n) ([] ++ ints r.prof)) (hz:Blk w5 g 54 #[.string ⟨#[]⟩,.slice none 0 0,.int .i64 0,.int .i64 0]) (hg:w1.heap.size ≤ g) (hB5:Below w1.heap.size w1 w5) :
  ShiftMidC r n K w1 (.pointer (some ⟨g,0,none⟩)) ((((w5.setCell ⟨g,0,none⟩ (.string r.name)).setCell ⟨g,1,none⟩ (.slice A' n c')).setCell ⟨g,2,none⟩ (.int .i64 (r.early - K))).setCell ⟨g,3,none⟩ (.int .i64 (r.late - K))):=by
 have hcl:=shift_cutC hn hown5
 have hne:∀ ad,A'=some ad→ad.block ≠ g:=fun ad e hh => own_blk_ne hown5 hz (by decide) (by subst e; simp [Value.ownBlock,hh])
 exact ⟨g,A',c',rfl,hg,(((hz.set_ 0 _).set_ 1 _).set_ 2 _).set_ 3 _,(((hcl.1.setFar hne _).setFar hne _).setFar hne _).setFar hne _,hcl.2.1,fun ad e => ⟨(hcl.2.2 ad e).1,hne ad e⟩,(((hB5.setCell hg _).setCell hg _).setCell hg _).setCell hg _⟩
end
set_option maxRecDepth 100000 in
set_option maxHeartbeats 8000000 in
theorem rlshiftC_any (r:Ld) (A:Option Addr) (c:Nat) (k:Int) (w:World) (hA0:RInts w A r.prof) (hn:r.name.size ≤ maxLen) (hl:r.prof.length < 1000000000) :
  Calls Tryz.prog 54 #[r.v A c,.int .i64 k] w (LdOutC (r.shift k) (r.canShift k) w):=by
 have hck0:=fun W (h:RInts W A r.prof) => rlcheck_any r A c 96 W h hn
 have hA:=Lib.hid hA0
 simp only [Ld.v] at hck0 ⊢
 have hone:=ints_one r.prof
 obtain ⟨i0,hi,hz0,hz1,hz2⟩:=info_parts Tryz.infoInt
 by_cases hc:r.chk 96=0
 ·have g:=Ld.good hc
  have e0:=g.e0; have l1:=g.l1; have el:=g.el; have p0:=g.p
  obtain ⟨K,hK⟩:∃ K,K=if k < 0 then 0 else k:=⟨_,rfl⟩
  have hcs:(k < 0∧K=0) ∨ (¬ k < 0∧K=k):=by
   rw [hK]
   by_cases h:k < 0
   ·rw [if_pos h]; omega
   ·rw [if_neg h]; omega
  have hKc:Hid ((K ≤ r.late - (r.prof.length:Int)→clampK k=K∧K ≤ 96)∧(r.late - (r.prof.length:Int) < K→¬ (r.prof.length:Int) ≤ r.late - clampK k)):=by
   have hp:=g.p0
   refine ⟨fun h => ?_,fun h => ?_⟩
   ·unfold clampK; rcases hcs with ⟨a,b⟩ | ⟨a,b⟩
    ·rw [if_pos a]; omega
    ·rw [if_neg a,if_neg (by omega)]; omega
   ·unfold clampK; rcases hcs with ⟨a,b⟩ | ⟨a,b⟩
    ·rw [if_pos a]; omega
    ·rw [if_neg a]; split <;> omega
  have hno:=Lib.hid (fun (h:¬ (r.prof.length:Int) ≤ r.late - clampK k) => Ld.can_len (r:=r) (k:=k) h)
  have hyes:=Lib.hid (fun (h:(r.prof.length:Int) ≤ r.late - clampK k) => Ld.can_yes hc h)
  have hmv:=Lib.hid (show (r.moved k).name=r.name∧(r.moved k).prof=r.prof∧(r.moved k).early=(if r.early - clampK k < 0 then 0 else r.early - clampK k)∧(r.moved k).late=r.late - clampK k from ⟨rfl,rfl,rfl,rfl⟩)
  have hs1:=Lib.hid (fun (h:r.canShift k=false) => Ld.shift_no h)
  have hs2:=Lib.hid (fun (h:r.canShift k=true) => Ld.shift_yes h)
  rw [hc] at hck0
  have hck:=Lib.hid hck0
  have hK0:0 ≤ K:=by omega
  clear hck0 hA0 hc g hK
  obtain ⟨n,hn⟩:∃ n,n=r.prof.length:=⟨_,rfl⟩
  have HN:=Lib.hid hn
  rw [← hn] at hl p0 hno hyes hck hKc ⊢
  clear hn
  go_enter Tryz.func54,Tryz.ntmps54
  go_upto_if 8 with (fail)
  go_cut [1] (fun s1 wx => s1 = .int .i64 K∧wx=((w.alloc (.cells #[.string r.name,.slice A n c,.int .i64 r.early,.int .i64 r.late] 54)).alloc (.cells #[.string ⟨#[]⟩,.slice none 0 0,.int .i64 0,.int .i64 0] 54)))
  case first =>
   rcases hcs with ⟨q1,rfl⟩ | ⟨q1,rfl⟩
   all_goals
    go_wp2_with fail
    go_meet
    exact ⟨rfl,rfl⟩
  case rest =>
   obtain ⟨rfl,rfl⟩:=hcut
   clear hcs
   by_cases hlen:K ≤ r.late - (n:Int)
   ·have hKe:=hKc.out.1 hlen
    rw [hKe.1] at hyes hno hmv
    have hok:=hyes.out (by omega)
    have hsh:=hs2.out hok
    have hmv':=hmv.out
    have hKle:=hKe.2
    obtain ⟨E,hE⟩:∃ E,E=(if r.early - K < 0 then 0 else r.early - K):=⟨_,rfl⟩
    have HE:=Lib.hid hE
    have hce:(E=0∧r.early - K < 0) ∨ (E=r.early - K∧¬ r.early - K < 0):=by
     rw [hE]
     by_cases h:r.early - K < 0
     ·rw [if_pos h]; omega
     ·rw [if_neg h]; omega
    have hres:Hid (∀ A c w',RInts w' A r.prof→n ≤ c→(∀ ad,A=some ad→w.heap.size ≤ ad.block)→Below w.heap.size w w'→LdOutC (r.shift k) (r.canShift k) w (.returned (.tuple #[.agg #[.string r.name,.slice A n c,.int .i64 E,.int .i64 (r.late - K)],.bool true])) w'):=by
     intro A c w' h1 hcc h2 h3
     rw [hok,hsh]
     refine ⟨A,c,?_,by rw [hmv'.2.1]; exact h1,by rw [hmv'.2.1, ← HN.out]; exact hcc,h2,h3⟩
     rw [hmv'.1,hmv'.2.1,hmv'.2.2.1,hmv'.2.2.2,HE.out,HN.out]
    clear hok hsh hmv' hE hKe hyes hno hmv hs1 hs2 hKc
    go_wp2_with fail
    refine (hck.out _ ((hA.out.alloc _).alloc _)).mono ?_
    rintro e w1 ⟨rfl,hb⟩
    obtain ⟨k1,k2,hz,hW⟩:=two_boxes hb
    have HW:=Lib.hid hW
    have y0:=k1.cell 0; have y1:=k1.cell 1; have y2:=k1.cell 2; have y3:=k1.cell 3
    have K1:=Lib.hid k1
    have K2:=Lib.hid k2
    simp only [List.getElem?_toArray,List.getElem?_cons_zero,List.getElem?_cons_succ] at y0 y1 y2 y3
    have HK:Hid (∀ W,Below w1.heap.size w1 W→Below w1.heap.size w1 W∧W.cell? ⟨w.heap.size,0,none⟩=some (.string r.name)∧W.cell? ⟨w.heap.size,1,none⟩=some (.slice A n c)∧W.cell? ⟨w.heap.size,2,none⟩=some (.int .i64 r.early)∧W.cell? ⟨w.heap.size,3,none⟩=some (.int .i64 r.late)):=fun W hb => ⟨hb,cell_below y0 hb,cell_below y1 hb,cell_below y2 hb,cell_below y3 hb⟩
    have HRD:Hid (∀ W,Below w1.heap.size w1 W→Reads W w1.heap.size 1 A n (ints r.prof)):=by
     intro W hb
     have h:=hA.out.below HW.out
     unfold RInts at h
     rw [← HN.out] at h
     exact Reads.below h hb
    have hoC:Hid (((w1.alloc (.cells #[.string ⟨#[]⟩,.slice none 0 0,.int .i64 0,.int .i64 0] 54)).alloc (.cells #[] 3)).ownsRow w1.heap.size 3 1 (.slice (some ⟨w1.heap.size+1,0,none⟩) 0 0) 0 []):=by
     have h:=World.ownsRow_lit (base:=w1.heap.size) (e:=3) (size:=1) (w1.alloc (.cells #[.string ⟨#[]⟩,.slice none 0 0,.int .i64 0,.int .i64 0] 54)) #[] 0 (by simp) (by unfold maxLen; omega) rfl
     show World.ownsRow _ _ _ _ _ _ _
     simpa using h
    clear hb hW k1 k2
    go_upto_region 5 with fail
    clear y0 y1 y2 y3
    go_cut [6] (fun s6 wx => ShiftMidC r n K w1 s6 wx)
    case first =>
     have ws1:IntKind.i64.wrap (r.early - K)=r.early - K:=IntWalk.i64_in _ (by omega)
     have ws2:IntKind.i64.wrap (r.late - K)=r.late - K:=IntWalk.i64_in _ (by omega)
     go_region_held3 (fun w' => Below w1.heap.size w1 w'∧w'.cell? ⟨w.heap.size,0,none⟩=some (.string r.name)∧w'.cell? ⟨w.heap.size,1,none⟩=some (.slice A n c)∧w'.cell? ⟨w.heap.size,2,none⟩=some (.int .i64 r.early)∧w'.cell? ⟨w.heap.size,3,none⟩=some (.int .i64 r.late))
      (first | exact HK.out _ (Below.refl _ _) | exact HK.out _ (Below.drew (Below.refl _ _)) | exact HK.out _ (Below.drew ((Below.refl _ _).alloc (Nat.le_refl _) _)) | exact HK.out _ (Below.drew (((Below.refl _ _).alloc (Nat.le_refl _) _).alloc (by simp) _)) | exact HK.out _ hB5 | exact HK.out _ (hB5.alloc hsz5 _) | exact HK.out _ ((((hB5.setCell (by simp) _).setCell (by simp) _).setCell (by simp) _).setCell (by simp) _))
      (first
       | (refine step_append_any _ (by rfl) _ _ _ (by rfl) w1.heap.size 3 i0 _ 1 8 Tryz.underlying22 hi hz0 hz1 hz2 rfl (by omega) _ 0 [] (by rfl) (World.ownsRow_lit w1 #[] 0 (Nat.le_refl _) (by unfold maxLen; omega) rfl).drew w1.heap.size A n c (ints r.prof) (by rfl) (HRD.out _ (Below.drew ((Below.refl _ _).alloc (Nat.le_refl _) _))) hone (by unfold maxLen; omega) (by omega) (by first | (simp; done) | (simp; omega)) ?_; intro v' w5 hown5 hg5 hv5; obtain ⟨A',c',rfl⟩:=own_form hown5; have hB5:=(Below.drew ((Below.refl w1.heap.size w1).alloc (Nat.le_refl _) (.cells #[] 3))).grown hg5 (by simp) (by simp [Value.ownBlock]); have hsz5:=hB5.size)
       | (refine step_append_any _ (by rfl) _ _ _ (by rfl) w1.heap.size 3 i0 _ 1 8 Tryz.underlying22 hi hz0 hz1 hz2 rfl (by omega) _ 0 [] (by rfl) ((World.ownsRow_lit w1 #[] 0 (Nat.le_refl _) (by unfold maxLen; omega) rfl).alloc _).drew w1.heap.size A n c (ints r.prof) (by rfl) (HRD.out _ (Below.drew (((Below.refl _ _).alloc (Nat.le_refl _) _).alloc (by simp) _))) hone (by unfold maxLen; omega) (by omega) (by first | (simp; done) | (simp; omega)) ?_; intro v' w5 hown5 hg5 hv5; obtain ⟨A',c',rfl⟩:=own_form hown5; have hB5:=(Below.drew (((Below.refl w1.heap.size w1).alloc (Nat.le_refl _) (.cells #[] 3)).alloc (by simp) (.cells #[.string ⟨#[]⟩,.slice none 0 0,.int .i64 0,.int .i64 0] 54))).grown hg5 (by simp; omega) (by simp [Value.ownBlock]); have hsz5:=hB5.size; have kz0:=Blk.new (w1.alloc (.cells #[] 3)) 54 #[.string ⟨#[]⟩,.slice none 0 0,.int .i64 0,.int .i64 0]; simp only [World.size_alloc] at kz0; have kz:=(Blk.drew kz0).grown hg5 (by simp [Value.ownBlock]); have q0:=kz.cell 0; have q1:=kz.cell 1; have q2:=kz.cell 2; have q3:=kz.cell 3; have qf:=kz.frozen; have hlt5:=kz.lt; simp only [List.getElem?_toArray,List.getElem?_cons_zero,List.getElem?_cons_succ] at q0 q1 q2 q3; have KZ:=Lib.hid kz; clear kz kz0)
       | (refine step_append_any _ (by rfl) _ _ _ (by rfl) w1.heap.size 3 i0 _ 1 8 Tryz.underlying22 hi hz0 hz1 hz2 rfl (by omega) _ 0 [] (by rfl) (hoC.out).drew w1.heap.size A n c (ints r.prof) (by rfl) (HRD.out _ (Below.drew (((Below.refl _ _).alloc (Nat.le_refl _) _).alloc (by simp) _))) hone (by unfold maxLen; omega) (by omega) (by first | (simp; done) | (simp; omega)) ?_; intro v' w5 hown5 hg5 hv5; obtain ⟨A',c',rfl⟩:=own_form hown5; have hB5:=(Below.drew (((Below.refl w1.heap.size w1).alloc (Nat.le_refl _) (.cells #[.string ⟨#[]⟩,.slice none 0 0,.int .i64 0,.int .i64 0] 54)).alloc (by simp) (.cells #[] 3))).grown hg5 (by simp; omega) (by simp [Value.ownBlock]); have hsz5:=hB5.size; have kz0:=(Blk.new w1 54 #[.string ⟨#[]⟩,.slice none 0 0,.int .i64 0,.int .i64 0]).alloc (.cells #[] 3); have kz:=(Blk.drew kz0).grown hg5 (by simp [Value.ownBlock]); have q0:=kz.cell 0; have q1:=kz.cell 1; have q2:=kz.cell 2; have q3:=kz.cell 3; have qf:=kz.frozen; have hlt5:=kz.lt; simp only [List.getElem?_toArray,List.getElem?_cons_zero,List.getElem?_cons_succ] at q0 q1 q2 q3; have KZ:=Lib.hid kz; clear kz kz0))
     all_goals
      go_wp2_with fail
      go_meet
      first
       | exact mid_newC HN.out hown5 hB5
       | exact mid_oldC HN.out hown5 KZ.out (Nat.le_refl _) hB5
       | exact mid_oldC HN.out hown5 KZ.out (Nat.le_succ _) hB5
    case rest =>
     obtain ⟨g,A',c',rfl,hg,hblk,hr,hccc,hfar,hBx⟩:=hcut
     have HCC:=Lib.hid hccc
     have b1:=K2.out.below hBx hz
     have x0:=hblk.cell 0; have x1:=hblk.cell 1; have x2:=hblk.cell 2; have x3:=hblk.cell 3
     have u0:=b1.cell 0; have u1:=b1.cell 1; have u2:=b1.cell 2; have u3:=b1.cell 3
     have f0:=hblk.frozen; have f1:=b1.frozen
     have hlt1:=b1.lt
     have hlt2:=hblk.lt
     simp only [List.getElem?_toArray,List.getElem?_cons_zero,List.getElem?_cons_succ] at x0 x1 x2 x3 u0 u1 u2 u3
     have HR:=Lib.hid hr
     have HF:Hid ((∀ ad,A'=some ad→ad.block ≠ g)∧(∀ ad,A'=some ad→ad.block ≠ w.heap.size+1)∧(∀ ad,A'=some ad→w.heap.size ≤ ad.block)) :=
      ⟨fun ad e => (hfar ad e).2,fun ad e => by have:=(hfar ad e).1; omega,fun ad e => by have:=(hfar ad e).1; omega⟩
     have HBX:=Lib.hid (HW.out.trans (hBx.mono (show w.heap.size ≤ w1.heap.size by omega)))
     have hgne:g ≠ w.heap.size+1:=by omega
     clear hblk b1 hr hccc hfar hBx
     rcases hce with ⟨q0,q1⟩ | ⟨q0,q1⟩
     ·have Q0:=Lib.hid q0
      clear q0
      go_wp2_with fail
      refine bodyPost_ret (v := .tuple #[.agg #[.string r.name,.slice A' n c',.int .i64 E,.int .i64 (r.late - K)],.bool true]) (by simp [results,Tryz.results54,go_sem,u0,u1,u2,u3,Q0.out]) rfl ?_
      refine hres.out A' c' _ ?_ HCC.out HF.out.2.2 ?_
      ·exact ((((HR.out.setFar HF.out.1 _).setFar HF.out.2.1 _).setFar HF.out.2.1 _).setFar HF.out.2.1 _).setFar HF.out.2.1 _
      ·exact ((((HBX.out.setCell (by simp; omega) _).setCell (by simp) _).setCell (by simp) _).setCell (by simp) _).setCell (by simp) _
     ·have Q0:=Lib.hid q0
      clear q0
      go_wp2_with fail
      refine bodyPost_ret (v := .tuple #[.agg #[.string r.name,.slice A' n c',.int .i64 E,.int .i64 (r.late - K)],.bool true]) (by simp [results,Tryz.results54,go_sem,u0,u1,u2,u3,Q0.out]) rfl ?_
      refine hres.out A' c' _ ?_ HCC.out HF.out.2.2 ?_
      ·exact (((HR.out.setFar HF.out.2.1 _).setFar HF.out.2.1 _).setFar HF.out.2.1 _).setFar HF.out.2.1 _
      ·exact (((HBX.out.setCell (by simp) _).setCell (by simp) _).setCell (by simp) _).setCell (by simp) _
   ·have hlt:r.late - (n:Int) < K:=by omega
    have hres:Hid (LdOutC (r.shift k) (r.canShift k) w=LdOutC Ld.zero false w):=by
     have h:=hno.out (hKc.out.2 hlt)
     show _=_
     rw [h,hs1.out h]
    clear hyes hno hmv hs1 hs2 hKc hlen
    go_wp2_with fail
    refine (hck.out _ ((hA.out.alloc _).alloc _)).mono ?_
    rintro e w1 ⟨rfl,hb⟩
    obtain ⟨k1,k2,hz,hW⟩:=two_boxes hb
    have HW:=Lib.hid hW
    have y0:=k1.cell 0; have y1:=k1.cell 1; have y2:=k1.cell 2; have y3:=k1.cell 3
    have x0:=k2.cell 0; have x1:=k2.cell 1; have x2:=k2.cell 2; have x3:=k2.cell 3
    have f0:=k1.frozen; have f1:=k2.frozen
    simp only [List.getElem?_toArray,List.getElem?_cons_zero,List.getElem?_cons_succ] at y0 y1 y2 y3 x0 x1 x2 x3
    clear hb hW k1 k2
    go_wp2_with fail
    refine bodyPost_ret (v := .tuple #[.agg #[.string ⟨#[]⟩,.slice none 0 0,.int .i64 0,.int .i64 0],.bool false]) (by simp [results,Tryz.results54,go_sem,x0,x1,x2,x3]) rfl ?_
    rw [hres.out]
    refine zero_outC ?_
    exact (((HW.out.setCell (by simp) _).setCell (by simp) _).setCell (by simp) _).setCell (by simp) _
 ·have hres:Hid (LdOutC (r.shift k) (r.canShift k) w=LdOutC Ld.zero false w):=by
   have h:=Ld.can_chk (k:=k) hc
   show _=_
   rw [h,Ld.shift_no h]
  have hne:(r.chk 96 != 0)=true:=by simpa using hc
  have hcs:k < 0 ∨ ¬ k < 0:=by omega
  clear hA0 hc hone hi hz0 hz1 hz2
  generalize r.chk 96=ch at *
  have hck:=Lib.hid hck0
  clear hck0
  rcases hcs with q | q
  all_goals
   go_enter Tryz.func54,Tryz.ntmps54
   go_wp2_with fail
   refine (hck.out _ ((hA.out.alloc _).alloc _)).mono ?_
   rintro e w1 ⟨rfl,hb⟩
   obtain ⟨k1,k2,hz,hW⟩:=two_boxes hb
   have HW:=Lib.hid hW
   have y0:=k1.cell 0; have y1:=k1.cell 1; have y2:=k1.cell 2; have y3:=k1.cell 3
   have x0:=k2.cell 0; have x1:=k2.cell 1; have x2:=k2.cell 2; have x3:=k2.cell 3
   have f0:=k1.frozen; have f1:=k2.frozen
   simp only [List.getElem?_toArray,List.getElem?_cons_zero,List.getElem?_cons_succ] at y0 y1 y2 y3 x0 x1 x2 x3
   clear hb hW k1 k2
   go_wp2_with fail
   refine bodyPost_ret (v := .tuple #[.agg #[.string ⟨#[]⟩,.slice none 0 0,.int .i64 0,.int .i64 0],.bool false]) (by simp [results,Tryz.results54,go_sem,x0,x1,x2,x3]) rfl ?_
   rw [hres.out]
   refine zero_outC ?_
   exact (((HW.out.setCell (by simp) _).setCell (by simp) _).setCell (by simp) _).setCell (by simp) _
end Go.Proofs.YtnppngaabfhkpaaGreat
