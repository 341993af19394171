/-
  Words for control (layer 44): the memory of a simulation.
-/
import Derived.Test.YtnppngaabfhkpaaGreatEC6
import Derived.Laws.OwnMore
import Derived.Test.YtnppngaabfhkpaaGreatEOP7
namespace Go.Proofs.YtnppngaabfhkpaaGreat
open Go.RowKit
def Off {α : Type} (M:Nat→Prop) (A:Option Addr) (l:List α):Prop:=l = [] ∨ ∀ ad,A=some ad→¬ M ad.block
theorem Off.more {α : Type} {M M':Nat→Prop} {A:Option Addr} {l:List α} {B:Nat} (h:Off M A l) (hlt:l ≠ []→∀ ad,A=some ad→ad.block < B) (hM:∀ k,M' k→M k ∨ B ≤ k):Off M' A l:=by
 rcases h with h | h
 ·exact .inl h
 ·by_cases hl:l = []
  ·exact .inl hl
  ·refine .inr fun ad e hm => ?_
   rcases hM _ hm with h1 | h1
   ·exact h ad e h1
   ·have:=hlt hl ad e; omega
theorem RInts.stepM {w w':World} {A:Option Addr} {l:List Int} {M:Nat→Prop} {r:Option Nat} (h:RInts w A l) (ho:Off M A l) (hg:w.grownBy w' r) (hr:∀ k,r=some k→M k):RInts w' A l:=by
 rcases ho with ho | ho
 ·rw [ho]; exact RInts.nil
 ·exact h.other hg fun ad e h2 => ho ad e (hr _ h2.symm)
theorem RLoads.stepM {w w':World} {A:Option Addr} {l:List LdM} {M:Nat→Prop} {r:Option Nat} (h:RLoads w A l) (ho:Off M A l) (hp:∀ y ∈ l,Off M y.A y.r.prof) (hg:w.grownBy w' r) (hr:∀ k,r=some k→M k):RLoads w' A l:=by
 rcases ho with ho | ho
 ·rw [ho]; exact ⟨⟨by simp [ldCells],fun h => absurd h (by simp)⟩,by simp⟩
 ·refine ⟨⟨h.cells.1,fun hn => ?_⟩,fun y hy => (h.profs y hy).stepM (hp y hy) hg hr⟩
  obtain ⟨ad,e,hb,hc⟩:=h.cells.2 hn
  refine ⟨ad,e,Nat.lt_of_lt_of_le hb hg.size,fun j u hu => ?_⟩
  rw [World.cell?_of_block (hg.block (ad.add j).block (by rw [block_of_add]; exact hb) (by rw [block_of_add]; intro h2; exact ho ad e (hr _ h2.symm)))]
  exact hc j u hu
structure PbOff (M:Nat→Prop) (x:PbM):Prop where
 buy:Off M x.buy.A x.buy.l
 sell:Off M x.sell.A x.sell.l
 solar:Off M x.solar.A x.solar.l
 demand:Off M x.demand.A x.demand.l
 outside:Off M x.outside.A x.outside.l
 low:Off M x.low.A x.low.l
 high:Off M x.high.A x.high.l
 loads:Off M x.LA x.loads
 profs:∀ y ∈ x.loads,Off M y.A y.r.prof
theorem RLoads.lt {w:World} {A:Option Addr} {l:List LdM} (h:RLoads w A l) (hl:l ≠ []):∀ ad,A=some ad→ad.block < w.heap.size:=by
 intro ad e
 obtain ⟨ad',e',hb,_⟩:=h.cells.2 (List.length_pos_iff.2 hl)
 rw [e] at e'; injection e' with e'; subst e'; exact hb
section
variable {M M':Nat→Prop} {w w':World} {x:PbM} {r:Option Nat}
theorem RPb.stepM (h:RPb w x) (ho:PbOff M x) (hg:w.grownBy w' r) (hr:∀ k,r=some k→M k):RPb w' x :=
 ⟨h.buy.stepM ho.buy hg hr,h.sell.stepM ho.sell hg hr,h.solar.stepM ho.solar hg hr,h.demand.stepM ho.demand hg hr,h.outside.stepM ho.outside hg hr,h.low.stepM ho.low hg hr,h.high.stepM ho.high hg hr,h.loads.stepM ho.loads ho.profs hg hr⟩
theorem PbOff.more (ho:PbOff M x) (h:RPb w x) (hM:∀ k,M' k→M k ∨ w.heap.size ≤ k):PbOff M' x :=
 ⟨ho.buy.more h.buy.lt hM,ho.sell.more h.sell.lt hM,ho.solar.more h.solar.lt hM,ho.demand.more h.demand.lt hM,ho.outside.more h.outside.lt hM,ho.low.more h.low.lt hM,ho.high.more h.high.lt hM,ho.loads.more h.loads.lt hM,fun y hy => (ho.profs y hy).more (h.loads.profs y hy).lt hM⟩
end
def SimM (w:World) (g:Nat) (vc vh vs:Value) (k:Nat):Prop:=k=w.heap.size ∨ k=g ∨ some k=vc.ownBlock ∨ some k=vh.ownBlock ∨ some k=vs.ownBlock
structure SX44 (w wr:World) (x:PbM) (g:Nat) (vc vh vs:Value) (lc lh ls:List Int) (Ai:Option Addr) (is:List Nat):Prop where
 p2:Blk wr w.heap.size 31 x.cs
 p3:Blk wr (w.heap.size+1) 69 #[.func (.func 9) #[] #[]]
 p4:Blk wr (w.heap.size+2) 48 PnM.zero.cs
 p6:Blk wr g 48 #[vc,vh,vs]
 oc:wr.ownsRow (g+1) 3 1 vc lc.length (ints lc)
 oh:wr.ownsRow (g+1) 3 1 vh lh.length (ints lh)
 os:wr.ownsRow (g+1) 3 1 vs ls.length (ints ls)
 nch:∀ q,vc.ownBlock=some q→vh.ownBlock ≠ some q
 ncs:∀ q,vc.ownBlock=some q→vs.ownBlock ≠ some q
 nhs:∀ q,vh.ownBlock=some q→vs.ownBlock ≠ some q
 lt:w.heap.size+3 ≤ g
 r:RPb wr x
 off:PbOff (SimM w g vc vh vs) x
 ri:RInts wr Ai (natI is)
 offi:Off (SimM w g vc vh vs) Ai is
 bel:Below w.heap.size w wr
theorem ne_none {v u:Value} (h:∀ q,v.ownBlock=some q→u.ownBlock ≠ some q):u.ownBlock=none ∨ u.ownBlock ≠ v.ownBlock:=by
 cases e:v.ownBlock with
 | none => cases e2:u.ownBlock with
  | none => exact .inl rfl
  | some q => exact .inr (by simp)
 | some q => exact .inr (h q e)
theorem ne_none' {v u:Value} (h:∀ q,v.ownBlock=some q→u.ownBlock ≠ some q):v.ownBlock=none ∨ v.ownBlock ≠ u.ownBlock:=by
 cases e:v.ownBlock with
 | none => exact .inl rfl
 | some q => exact .inr fun e2 => h q e e2.symm
section
variable {w wr w1:World} {x:PbM} {g:Nat} {vc vh vs v':Value} {lc lh ls:List Int} {Ai:Option Addr} {is:List Nat}
theorem natI_nil {l:List Nat}:natI l = [] ↔ l = []:=by simp [natI]
theorem SX44.gsz (h:SX44 w wr x g vc vh vs lc lh ls Ai is):g+1 ≤ wr.heap.size:=h.p6.lt
theorem SX44.below (h:SX44 w wr x g vc vh vs lc lh ls Ai is) (hb:Below wr.heap.size wr w1):SX44 w w1 x g vc vh vs lc lh ls Ai is :=
 ⟨h.p2.below hb h.p2.lt,h.p3.below hb h.p3.lt,h.p4.below hb h.p4.lt,h.p6.below hb h.p6.lt,own_below h.oc hb,own_below h.oh hb,own_below h.os hb,h.nch,h.ncs,h.nhs,h.lt,h.r.below hb,h.off,h.ri.below hb,h.offi,h.bel.trans (hb.mono h.bel.size)⟩
theorem own_small {v:Value} {n:Nat} {xs:List Value} {e:TypeId} {s:Nat} (ho:wr.ownsRow (g+1) e s v n xs) {k:Nat} (hk:k ≤ g):some k ≠ v.ownBlock:=fun e => by
 have:=(ho.lt k e.symm).1
 omega
theorem SX44.keep (h:SX44 w wr x g vc vh vs lc lh ls Ai is) {v:Value} {n:Nat} {xs:List Value} {e:TypeId} {s:Nat} (ho:wr.ownsRow (g+1) e s v n xs) (hg:wr.grownBy w1 v.ownBlock) (hM:∀ k,v.ownBlock=some k→SimM w g vc vh vs k) :
  Blk w1 w.heap.size 31 x.cs∧Blk w1 (w.heap.size+1) 69 #[.func (.func 9) #[] #[]]∧Blk w1 (w.heap.size+2) 48 PnM.zero.cs∧Blk w1 g 48 #[vc,vh,vs]∧RPb w1 x∧RInts w1 Ai (natI is)∧Below w.heap.size w w1:=by
 have hlt:=h.lt
 refine ⟨h.p2.grown hg (fun e => own_small ho (by omega) e),h.p3.grown hg (fun e => own_small ho (by omega) e),h.p4.grown hg (fun e => own_small ho (by omega) e),h.p6.grown hg (fun e => own_small ho (Nat.le_refl _) e),h.r.stepM h.off hg hM,?_,h.bel.grown hg h.bel.size (fun k e => by have:=(ho.lt k e).1; omega)⟩
 refine RInts.stepM (M:=SimM w g vc vh vs) h.ri ?_ hg hM
 rcases h.offi with h1 | h1
 ·exact .inl (natI_nil.2 h1)
 ·exact .inr h1
theorem SX44.offiI (h:SX44 w wr x g vc vh vs lc lh ls Ai is):Off (SimM w g vc vh vs) Ai (natI is):=by
 rcases h.offi with h1 | h1
 ·exact .inl (natI_nil.2 h1)
 ·exact .inr h1
theorem SX44.offi_more (h:SX44 w wr x g vc vh vs lc lh ls Ai is) {M':Nat→Prop} (hM:∀ k,M' k→SimM w g vc vh vs k ∨ wr.heap.size ≤ k):Off M' Ai is :=
 h.offi.more (fun hl ad e => h.ri.lt (fun h2 => hl (natI_nil.1 h2)) ad e) hM
theorem SX44.pushC (h:SX44 w wr x g vc vh vs lc lh ls Ai is) {c:Int} (hown:w1.ownsRow (g+1) 3 1 v' (lc.length+1) (ints lc ++ [.int .i64 c])) (hg:wr.grownBy w1 vc.ownBlock) (hv:v'.ownBlock=vc.ownBlock ∨ ∃ q,v'.ownBlock=some q∧wr.heap.size ≤ q) :
  Blk w1 g 48 #[vc,vh,vs]∧SX44 w (w1.setCell ⟨g,0,none⟩ v') x g v' vh vs (lc ++ [c]) lh ls Ai is:=by
 obtain ⟨k1,k2,k3,k4,k5,k6,k7⟩:=h.keep h.oc hg (fun k e => .inr (.inr (.inl e.symm)))
 refine ⟨k4,?_⟩
 have hlt:=h.lt
 have hs:w1.grownBy (w1.setCell ⟨g,0,none⟩ v') (some g):=only_setCell (grown_id _ _) (.inl rfl) _
 have hM:∀ k,SimM w g v' vh vs k→SimM w g vc vh vs k ∨ wr.heap.size ≤ k:=by
  rintro k (e | e | e | e | e)
  ·exact .inl (.inl e)
  ·exact .inl (.inr (.inl e))
  ·rcases hv with hv | ⟨q,hv,hq⟩
   ·exact .inl (.inr (.inr (.inl (by rw [← hv]; exact e))))
   ·rw [hv] at e; injection e with e; exact .inr (by omega)
  ·exact .inl (.inr (.inr (.inr (.inl e))))
  ·exact .inl (.inr (.inr (.inr (.inr e))))
 have hn:∀ {u:Value} {n:Nat} {xs:List Value},wr.ownsRow (g+1) 3 1 u n xs→(∀ q,vc.ownBlock=some q→u.ownBlock ≠ some q)→∀ q,v'.ownBlock=some q→u.ownBlock ≠ some q:=by
  intro u n xs ho hne q hq
  rcases hv with hv | ⟨q2,hv,hq2⟩
  ·exact hne q (by rw [← hv]; exact hq)
  ·rw [hv] at hq; injection hq with hq
   intro e
   have:=(ho.lt q e).2
   omega
 have hoff:=h.off.more h.r hM
 have hoffi:=h.offi_more hM
 refine ⟨k1.grown hs (by intro e; injection e with e; omega),k2.grown hs (by intro e; injection e with e; omega),k3.grown hs (by intro e; injection e with e; omega),by have:=k4.set_ 0 v'; simpa using this,?_,own_setCell (own_keep h.oh hg (ne_none h.nch)) (Nat.lt_succ_self g) _,own_setCell (own_keep h.os hg (ne_none h.ncs)) (Nat.lt_succ_self g) _,hn h.oh h.nch,hn h.os h.ncs,h.nhs,hlt,k5.stepM hoff hs (fun k e => .inr (.inl (by injection e with e; exact e.symm))),hoff,?_,hoffi,k7.grown hs k7.size (fun k e => by injection e with e; omega)⟩
 ·rw [List.length_append,ints_append]
  exact own_setCell hown (Nat.lt_succ_self g) _
 ·refine RInts.stepM (M:=SimM w g v' vh vs) k6 ?_ hs (fun k e => .inr (.inl (by injection e with e; exact e.symm)))
  rcases hoffi with h1 | h1
  ·exact .inl (natI_nil.2 h1)
  ·exact .inr h1
theorem SX44.pushH (h:SX44 w wr x g vc vh vs lc lh ls Ai is) {c:Int} (hown:w1.ownsRow (g+1) 3 1 v' (lh.length+1) (ints lh ++ [.int .i64 c])) (hg:wr.grownBy w1 vh.ownBlock) (hv:v'.ownBlock=vh.ownBlock ∨ ∃ q,v'.ownBlock=some q∧wr.heap.size ≤ q) :
  Blk w1 g 48 #[vc,vh,vs]∧SX44 w (w1.setCell ⟨g,1,none⟩ v') x g vc v' vs lc (lh ++ [c]) ls Ai is:=by
 obtain ⟨k1,k2,k3,k4,k5,k6,k7⟩:=h.keep h.oh hg (fun k e => .inr (.inr (.inr (.inl e.symm))))
 refine ⟨k4,?_⟩
 have hlt:=h.lt
 have hs:w1.grownBy (w1.setCell ⟨g,1,none⟩ v') (some g):=only_setCell (grown_id _ _) (.inl rfl) _
 have hM:∀ k,SimM w g vc v' vs k→SimM w g vc vh vs k ∨ wr.heap.size ≤ k:=by
  rintro k (e | e | e | e | e)
  ·exact .inl (.inl e)
  ·exact .inl (.inr (.inl e))
  ·exact .inl (.inr (.inr (.inl e)))
  ·rcases hv with hv | ⟨q,hv,hq⟩
   ·exact .inl (.inr (.inr (.inr (.inl (by rw [← hv]; exact e)))))
   ·rw [hv] at e; injection e with e; exact .inr (by omega)
  ·exact .inl (.inr (.inr (.inr (.inr e))))
 have hoff:=h.off.more h.r hM
 have hoffi:=h.offi_more hM
 refine ⟨k1.grown hs (by intro e; injection e with e; omega),k2.grown hs (by intro e; injection e with e; omega),k3.grown hs (by intro e; injection e with e; omega),by have:=k4.set_ 1 v'; simpa using this,own_setCell (own_keep h.oc hg (ne_none' h.nch)) (Nat.lt_succ_self g) _,?_,own_setCell (own_keep h.os hg (ne_none h.nhs)) (Nat.lt_succ_self g) _,?_,h.ncs,?_,hlt,k5.stepM hoff hs (fun k e => .inr (.inl (by injection e with e; exact e.symm))),hoff,?_,hoffi,k7.grown hs k7.size (fun k e => by injection e with e; omega)⟩
 ·rw [List.length_append,ints_append]
  exact own_setCell hown (Nat.lt_succ_self g) _
 ·intro q hq e
  rcases hv with hv | ⟨q2,hv,hq2⟩
  ·exact h.nch q hq (by rw [← hv]; exact e)
  ·rw [hv] at e; injection e with e
   have:=(h.oc.lt q hq).2
   omega
 ·intro q hq e
  rcases hv with hv | ⟨q2,hv,hq2⟩
  ·exact h.nhs q (by rw [← hv]; exact hq) e
  ·rw [hv] at hq; injection hq with hq
   have:=(h.os.lt q e).2
   omega
 ·refine RInts.stepM (M:=SimM w g vc v' vs) k6 ?_ hs (fun k e => .inr (.inl (by injection e with e; exact e.symm)))
  rcases hoffi with h1 | h1
  ·exact .inl (natI_nil.2 h1)
  ·exact .inr h1
theorem SX44.pushS (h:SX44 w wr x g vc vh vs lc lh ls Ai is) {c:Int} (hown:w1.ownsRow (g+1) 3 1 v' (ls.length+1) (ints ls ++ [.int .i64 c])) (hg:wr.grownBy w1 vs.ownBlock) (hv:v'.ownBlock=vs.ownBlock ∨ ∃ q,v'.ownBlock=some q∧wr.heap.size ≤ q) :
  Blk w1 g 48 #[vc,vh,vs]∧SX44 w (w1.setCell ⟨g,2,none⟩ v') x g vc vh v' lc lh (ls ++ [c]) Ai is:=by
 obtain ⟨k1,k2,k3,k4,k5,k6,k7⟩:=h.keep h.os hg (fun k e => .inr (.inr (.inr (.inr e.symm))))
 refine ⟨k4,?_⟩
 have hlt:=h.lt
 have hs:w1.grownBy (w1.setCell ⟨g,2,none⟩ v') (some g):=only_setCell (grown_id _ _) (.inl rfl) _
 have hM:∀ k,SimM w g vc vh v' k→SimM w g vc vh vs k ∨ wr.heap.size ≤ k:=by
  rintro k (e | e | e | e | e)
  ·exact .inl (.inl e)
  ·exact .inl (.inr (.inl e))
  ·exact .inl (.inr (.inr (.inl e)))
  ·exact .inl (.inr (.inr (.inr (.inl e))))
  ·rcases hv with hv | ⟨q,hv,hq⟩
   ·exact .inl (.inr (.inr (.inr (.inr (by rw [← hv]; exact e)))))
   ·rw [hv] at e; injection e with e; exact .inr (by omega)
 have hn:∀ {u:Value} {n:Nat} {xs:List Value},wr.ownsRow (g+1) 3 1 u n xs→(∀ q,u.ownBlock=some q→vs.ownBlock ≠ some q)→∀ q,u.ownBlock=some q→v'.ownBlock ≠ some q:=by
  intro u n xs ho hne q hq e
  rcases hv with hv | ⟨q2,hv,hq2⟩
  ·exact hne q hq (by rw [← hv]; exact e)
  ·rw [hv] at e; injection e with e
   have:=(ho.lt q hq).2
   omega
 have hoff:=h.off.more h.r hM
 have hoffi:=h.offi_more hM
 refine ⟨k1.grown hs (by intro e; injection e with e; omega),k2.grown hs (by intro e; injection e with e; omega),k3.grown hs (by intro e; injection e with e; omega),by have:=k4.set_ 2 v'; simpa using this,own_setCell (own_keep h.oc hg (ne_none' h.ncs)) (Nat.lt_succ_self g) _,own_setCell (own_keep h.oh hg (ne_none' h.nhs)) (Nat.lt_succ_self g) _,?_,h.nch,hn h.oc h.ncs,hn h.oh h.nhs,hlt,k5.stepM hoff hs (fun k e => .inr (.inl (by injection e with e; exact e.symm))),hoff,?_,hoffi,k7.grown hs k7.size (fun k e => by injection e with e; omega)⟩
 ·rw [List.length_append,ints_append]
  exact own_setCell hown (Nat.lt_succ_self g) _
 ·refine RInts.stepM (M:=SimM w g vc vh v') k6 ?_ hs (fun k e => .inr (.inl (by injection e with e; exact e.symm)))
  rcases hoffi with h1 | h1
  ·exact .inl (natI_nil.2 h1)
  ·exact .inr h1
theorem ints_set (l:List Int) (j:Nat) (u:Int):ints (l.set j u)=(ints l).set j (.int .i64 u):=by simp [ints,List.map_set]
theorem SX44.setS {q c:Nat} (h:SX44 w wr x g vc vh (.slice (some ⟨q,0,none⟩) ls.length c) lc lh ls Ai is) (j:Nat) (u:Int) :
  SX44 w (wr.setCell ⟨q,j,none⟩ (.int .i64 u)) x g vc vh (.slice (some ⟨q,0,none⟩) (ls.set j u).length c) lc lh (ls.set j u) Ai is:=by
 obtain ⟨o1,hg⟩:=h.os.stored j (.int .i64 u)
 have hlt:=h.lt
 have hq:=(h.os.lt q rfl).1
 have hM:∀ k,some q=some k→SimM w g vc vh (.slice (some ⟨q,0,none⟩) ls.length c) k:=fun k e => .inr (.inr (.inr (.inr e.symm)))
 have e1:(ls.set j u).length=ls.length:=List.length_set ..
 rw [e1]
 refine ⟨h.p2.grown hg (by intro e; injection e with e; omega),h.p3.grown hg (by intro e; injection e with e; omega),h.p4.grown hg (by intro e; injection e with e; omega),h.p6.grown hg (by intro e; injection e with e; omega),own_keep h.oc hg (ne_none' h.ncs),own_keep h.oh hg (ne_none' h.nhs),by rw [e1,ints_set]; exact o1,h.nch,h.ncs,h.nhs,hlt,h.r.stepM h.off hg hM,h.off,RInts.stepM h.ri h.offiI hg hM,h.offi,h.bel.grown hg h.bel.size (fun k e => by injection e with e; omega)⟩
theorem SX44.setS' {q n c:Nat} (h:SX44 w wr x g vc vh (.slice (some ⟨q,0,none⟩) n c) lc lh ls Ai is) (hn:ls.length=n) (j:Nat) (u:Int) :
  SX44 w (wr.setCell ⟨q,j,none⟩ (.int .i64 u)) x g vc vh (.slice (some ⟨q,0,none⟩) n c) lc lh (ls.set j u) Ai is:=by
 subst hn
 have h1:=h.setS j u
 rw [show (ls.set j u).length=ls.length from List.length_set ..] at h1
 exact h1
theorem SX44.turn (h:SX44 w wr x g vc vh vs lc lh ls Ai is) {y:PbM} {Aj:Option Addr} {js:List Nat} (hB:Blk w1 w.heap.size 31 y.cs) (hg:wr.grownBy w1 (some w.heap.size)) (hr:RPb wr y) (ho:PbOff (SimM w g vc vh vs) y) (hj:RInts wr Aj (natI js)) (hoj:Off (SimM w g vc vh vs) Aj js) :
  SX44 w w1 y g vc vh vs lc lh ls Aj js:=by
 have hlt:=h.lt
 have hM:∀ k,some w.heap.size=some k→SimM w g vc vh vs k:=fun k e => .inl (by injection e with e; exact e.symm)
 have hne:∀ {u:Value} {n:Nat} {xs:List Value},wr.ownsRow (g+1) 3 1 u n xs→u.ownBlock=none ∨ u.ownBlock ≠ some w.heap.size:=fun ho => .inr fun e => by have:=(ho.lt _ e).1; omega
 have hoj2:Off (SimM w g vc vh vs) Aj (natI js):=by
  rcases hoj with h1 | h1
  ·exact .inl (natI_nil.2 h1)
  ·exact .inr h1
 exact ⟨hB,h.p3.grown hg (by intro e; injection e with e; omega),h.p4.grown hg (by intro e; injection e with e; omega),h.p6.grown hg (by intro e; injection e with e; omega),own_keep h.oc hg (hne h.oc),own_keep h.oh hg (hne h.oh),own_keep h.os hg (hne h.os),h.nch,h.ncs,h.nhs,hlt,hr.stepM ho hg hM,ho,RInts.stepM hj hoj2 hg hM,hoj,h.bel.grown hg h.bel.size (fun k e => by injection e with e; omega)⟩
end
theorem PbNew.off {M:Nat→Prop} {B:Nat} {x:PbM} (h:PbNew B x) (hM:∀ k,M k→k < B):PbOff M x:=by
 have a:∀ {α : Type} {A:Option Addr} {l:List α},(∀ ad,A=some ad→B ≤ ad.block)→Off M A l:=fun h => .inr fun ad e hm => by have h1:=h ad e; have h2:=hM _ hm; omega
 exact ⟨a h.buy,a h.sell,a h.solar,a h.demand,a h.outside,a h.low,a h.high,a h.loads,fun y hy => a (h.profs y hy)⟩
theorem PbOff.none (x:PbM):PbOff (fun _ => False) x :=
 ⟨.inr fun _ _ h => h,.inr fun _ _ h => h,.inr fun _ _ h => h,.inr fun _ _ h => h,.inr fun _ _ h => h,.inr fun _ _ h => h,.inr fun _ _ h => h,.inr fun _ _ h => h,fun _ _ => .inr fun _ _ h => h⟩
section
variable {w wr w1:World} {x:PbM} {g q n k:Nat} {vc vh vs v':Value} {lc lh ls:List Int} {Ai:Option Addr} {is:List Nat}
theorem SX44.lt_all (h:SX44 w wr x g vc vh vs lc lh ls Ai is):∀ k,SimM w g vc vh vs k→k < wr.heap.size:=by
 have h1:=h.gsz
 have h2:=h.lt
 rintro k (e | e | e | e | e)
 ·omega
 ·omega
 ·exact (h.oc.lt k e.symm).2
 ·exact (h.oh.lt k e.symm).2
 ·exact (h.os.lt k e.symm).2
theorem SX44.apart (h:SX44 w wr x g vc vh vs lc lh ls none []) (hP:RPb w x) (hg:wr.grownBy w1 (some k)) (hk:g < k) (n1:vc.ownBlock ≠ some k) (n2:vh.ownBlock ≠ some k) (n3:vs.ownBlock ≠ some k):SX44 w w1 x g vc vh vs lc lh ls none []:=by
 have hlt:=h.lt
 have hb:Below w.heap.size w w1:=h.bel.grown hg h.bel.size (fun q e => by injection e with e; omega)
 exact ⟨h.p2.grown hg (by intro e; injection e with e; omega),h.p3.grown hg (by intro e; injection e with e; omega),h.p4.grown hg (by intro e; injection e with e; omega),h.p6.grown hg (by intro e; injection e with e; omega),own_keep h.oc hg (.inr n1),own_keep h.oh hg (.inr n2),own_keep h.os hg (.inr n3),h.nch,h.ncs,h.nhs,hlt,hP.below hb,h.off,RInts.nil,.inl rfl,hb⟩
theorem SX44.start (hP:RPb w x):SX44 w ((((w.alloc (.cells x.cs 31)).alloc (.cells #[.func (.func 9) #[] #[]] 69)).alloc (.cells PnM.zero.cs 48)).alloc (.cells PnM.zero.cs 48)) x (w.heap.size+3) (.slice none 0 0) (.slice none 0 0) (.slice none 0 0) [] [] [] none []:=by
 obtain ⟨h1,h2,h3,h4,h5⟩:=three_boxes (w:=w) (cs:=x.cs) (t:=31) (cs2:=#[.func (.func 9) #[] #[]]) (t2:=69) (cs3:=PnM.zero.cs) (t3:=48) (Below.refl _ _)
 have hsz:(((w.alloc (.cells x.cs 31)).alloc (.cells #[.func (.func 9) #[] #[]] 69)).alloc (.cells PnM.zero.cs 48)).heap.size=w.heap.size+3:=by simp
 generalize ((w.alloc (.cells x.cs 31)).alloc (.cells #[.func (.func 9) #[] #[]] 69)).alloc (.cells PnM.zero.cs 48)=W at *
 have hb:Below W.heap.size W (W.alloc (.cells PnM.zero.cs 48)):=(Below.refl _ _).alloc (Nat.le_refl _) _
 have hk:=Blk.new W 48 PnM.zero.cs
 rw [hsz] at hk
 refine ⟨h1.below hb h1.lt,h2.below hb h2.lt,h3.below hb h3.lt,hk,World.ownsRow_nil _ _ _ _,World.ownsRow_nil _ _ _ _,World.ownsRow_nil _ _ _ _,(fun _ h => by cases h),(fun _ h => by cases h),(fun _ h => by cases h),Nat.le_refl _,(hP.below h5).below hb,(PbOff.none x).more hP ?_,RInts.nil,.inl rfl,h5.trans (hb.mono h5.size)⟩
 rintro k (e | e | e | e | e)
 ·exact .inr (by omega)
 ·exact .inr (by omega)
 ·cases e
 ·cases e
 ·cases e
theorem simM_c (hv:v'.ownBlock=vc.ownBlock ∨ ∃ q,v'.ownBlock=some q∧wr.heap.size ≤ q):∀ k,SimM w g v' vh vs k→SimM w g vc vh vs k ∨ wr.heap.size ≤ k:=by
 rintro k (e | e | e | e | e)
 ·exact .inl (.inl e)
 ·exact .inl (.inr (.inl e))
 ·rcases hv with hv | ⟨q,hv,hq⟩
  ·exact .inl (.inr (.inr (.inl (by rw [← hv]; exact e))))
  ·rw [hv] at e; injection e with e; exact .inr (by omega)
 ·exact .inl (.inr (.inr (.inr (.inl e))))
 ·exact .inl (.inr (.inr (.inr (.inr e))))
theorem simM_h (hv:v'.ownBlock=vh.ownBlock ∨ ∃ q,v'.ownBlock=some q∧wr.heap.size ≤ q):∀ k,SimM w g vc v' vs k→SimM w g vc vh vs k ∨ wr.heap.size ≤ k:=by
 rintro k (e | e | e | e | e)
 ·exact .inl (.inl e)
 ·exact .inl (.inr (.inl e))
 ·exact .inl (.inr (.inr (.inl e)))
 ·rcases hv with hv | ⟨q,hv,hq⟩
  ·exact .inl (.inr (.inr (.inr (.inl (by rw [← hv]; exact e)))))
  ·rw [hv] at e; injection e with e; exact .inr (by omega)
 ·exact .inl (.inr (.inr (.inr (.inr e))))
def idsRow (n k:Nat):List Int:=(List.range n).map fun (i:Nat) => if i < k then (i:Int) else 0
theorem idsRow_len (n k:Nat):(idsRow n k).length=n:=by simp [idsRow]
theorem idsRow_zero (n:Nat):idsRow n 0=List.replicate n 0:=by
 apply List.ext_getElem (by simp [idsRow])
 intro j h1 h2
 simp [idsRow]
theorem idsRow_set (n k:Nat):(idsRow n k).set k (k:Int)=idsRow n (k+1):=by
 apply List.ext_getElem (by simp [idsRow])
 intro j h1 h2
 simp only [idsRow,List.getElem_set,List.getElem_map,List.getElem_range]
 by_cases e:k=j
 ·subst e; rw [if_pos rfl,if_pos (by omega)]
 ·rw [if_neg e]
  by_cases e2:j < k
  ·rw [if_pos e2,if_pos (by omega)]
  ·rw [if_neg e2,if_neg (by omega)]
theorem idsRow_full (n:Nat):idsRow n n=natI (List.range n):=by
 apply List.ext_getElem (by simp [idsRow,natI])
 intro j h1 h2
 have hj:j < n:=by simpa [idsRow] using h1
 simp [idsRow,natI,hj]
theorem repl_snoc (k:Nat):List.replicate k (-1:Int) ++ [-1]=List.replicate (k+1) (-1):=by rw [List.replicate_succ']
structure SI44 (w wr:World) (x:PbM) (g:Nat) (vs:Value) (q n k:Nat):Prop where
 sx:SX44 w wr x g (.slice none 0 0) (.slice none 0 0) vs [] [] (List.replicate k (-1)) none []
 own:wr.ownsRow (g+1) 3 1 (.slice (some ⟨q,0,none⟩) n n) n (ints (idsRow n k))
 ne:vs.ownBlock ≠ some q
theorem SI44.setI (h:SI44 w wr x g vs q n k) (hP:RPb w x):SX44 w (wr.setCell ⟨q,k,none⟩ (.int .i64 k)) x g (.slice none 0 0) (.slice none 0 0) vs [] [] (List.replicate k (-1)) none []∧(wr.setCell ⟨q,k,none⟩ (.int .i64 k)).ownsRow (g+1) 3 1 (.slice (some ⟨q,0,none⟩) n n) n (ints (idsRow n (k+1))):=by
 obtain ⟨o1,hg⟩:=h.own.stored k (.int .i64 k)
 refine ⟨h.sx.apart hP hg (h.own.lt q rfl).1 (fun e => by cases e) (fun e => by cases e) h.ne,?_⟩
 rw [← idsRow_set,ints_set]; exact o1
theorem SI44.push (h:SX44 w wr x g (.slice none 0 0) (.slice none 0 0) vs [] [] (List.replicate k (-1)) none []) (ho:wr.ownsRow (g+1) 3 1 (.slice (some ⟨q,0,none⟩) n n) n (ints (idsRow n (k+1)))) (hne:vs.ownBlock ≠ some q)
  (hown:w1.ownsRow (g+1) 3 1 v' (k+1) (ints (List.replicate k (-1)) ++ [.int .i64 (-1)])) (hg:wr.grownBy w1 vs.ownBlock) (hv:v'.ownBlock=vs.ownBlock ∨ ∃ q,v'.ownBlock=some q∧wr.heap.size ≤ q) :
  Blk w1 g 48 #[.slice none 0 0,.slice none 0 0,vs]∧SI44 w (w1.setCell ⟨g,2,none⟩ v') x g v' q n (k+1):=by
 obtain ⟨k1,k2⟩:=h.pushS (c := -1) (by rw [List.length_replicate]; exact hown) hg hv
 refine ⟨k1,by rw [← repl_snoc]; exact k2,own_setCell (own_keep ho hg (.inr fun e => hne e.symm)) (Nat.lt_succ_self g) _,fun e => ?_⟩
 rcases hv with hv | ⟨q2,hv,hq2⟩
 ·exact hne (by rw [← hv]; exact e)
 ·rw [hv] at e; injection e with e
  have:=(ho.lt q rfl).2
  omega
theorem SI44.made (h:SI44 w wr x g vs q n n):SX44 w wr x g (.slice none 0 0) (.slice none 0 0) vs [] [] (List.replicate n (-1)) (some ⟨q,0,none⟩) (List.range n):=by
 have h1:=(h.own.lt q rfl).1
 have hs:=h.sx
 have hl:=h.sx.lt
 refine ⟨hs.p2,hs.p3,hs.p4,hs.p6,hs.oc,hs.oh,hs.os,hs.nch,hs.ncs,hs.nhs,hs.lt,hs.r,hs.off,?_,?_,hs.bel⟩
 ·have hr:=Reads.of_own h.own
  rw [idsRow_full] at hr
  unfold RInts
  rw [natI_len,List.length_range]
  exact hr
 ·refine .inr fun ad e hm => ?_
  injection e with e
  subst e
  rcases hm with e | e | e | e | e
  ·simp at e; omega
  ·simp at e; omega
  ·cases e
  ·cases e
  ·exact h.ne e.symm
theorem SI44.start (hP:RPb w x) (h:SX44 w wr x g (.slice none 0 0) (.slice none 0 0) (.slice none 0 0) [] [] [] none []) (hn:n ≤ 1000000000):SI44 w (wr.alloc (.cells (madeCells #[.int .i64 0] n) 3)) x g (.slice none 0 0) wr.heap.size n 0:=by
 refine ⟨h.apart hP (World.grownBy_alloc wr _ _) h.gsz (fun e => by cases e) (fun e => by cases e) (fun e => by cases e),?_,fun e => by cases e⟩
 have:=World.ownsRow_lit (base:=g+1) (e:=3) (size:=1) wr (madeCells #[.int .i64 0] n) n h.gsz (by unfold maxLen; omega) (by simp [madeCells])
 rw [toList_madeCells_one] at this
 rw [idsRow_zero,show ints (List.replicate n 0)=List.replicate n (.int .i64 0) by simp [ints]]
 exact this
structure SD44 (M:Nat→Prop) (wr:World) (gd:Nat) (m:DcM):Prop where
 dd:Blk wr gd 39 m.cs
 rd:RBools wr m.A m.l
 offd:¬ M gd
 offl:Off M m.A m.l
theorem SD44.step {M M':Nat→Prop} {gd:Nat} {m:DcM} {r:Option Nat} (h:SD44 M wr gd m) (hg:wr.grownBy w1 r) (hr:∀ k,r=some k→M k) (hM:∀ k,M' k→M k ∨ wr.heap.size ≤ k):SD44 M' w1 gd m:=by
 refine ⟨h.dd.grown hg (fun e => h.offd (hr _ e.symm)),?_,fun e => ?_,h.offl.more (fun hl ad e => h.rd.lt hl ad e) hM⟩
 ·rcases h.offl with h1 | h1
  ·rw [h1]; exact RBools.nil
  ·exact h.rd.other hg fun ad e h2 => h1 ad e (hr _ h2.symm)
 ·rcases hM _ e with h1 | h1
  ·exact h.offd h1
  ·have:=h.dd.lt; omega
theorem SD44.below {M:Nat→Prop} {gd:Nat} {m:DcM} (h:SD44 M wr gd m) (hb:Below wr.heap.size wr w1):SD44 M w1 gd m :=
 ⟨h.dd.below hb h.dd.lt,h.rd.below hb,h.offd,h.offl⟩
end
end Go.Proofs.YtnppngaabfhkpaaGreat
namespace Go.Proofs.YtnppngaabfhkpaaGreat
open Go.RowKit
attribute [local go_sem ↓] Go.wp_at_zero Go.wp_at_succ
def AdvanceOut (p:Pb) (d:Dc) (w:World) (e:Ending) (w':World):Prop :=
 (p.advE d=0∧∃ m:PbM,e = .returned (.tuple #[m.v,.int .i64 0])∧m.p=p.adv d∧RPb w' m∧m.Fit∧m.Cap∧Below w.heap.size w w') ∨
 (p.advE d ≠ 0∧e = .returned (.tuple #[PbM.nil.v,.int .i64 (p.advE d)])∧Below w.heap.size w w')
theorem RInts.behind {w w':World} {A:Option Addr} {l:List Int} {B k:Nat} (h:RInts w A l) (hA:∀ ad,A=some ad→B ≤ ad.block) (hg:w.grownBy w' (some k)) (hk:k < B):RInts w' A l :=
 h.other hg fun ad e h2 => by injection h2 with h2; have:=hA ad e; omega
theorem RPb.behind {w w':World} {x:PbM} {B k:Nat} (h:RPb w x) (hn:PbNew B x) (hg:w.grownBy w' (some k)) (hk:k < B):RPb w' x :=
 ⟨h.buy.behind hn.buy hg hk,h.sell.behind hn.sell hg hk,h.solar.behind hn.solar hg hk,h.demand.behind hn.demand hg hk,h.outside.behind hn.outside hg hk,h.low.behind hn.low hg hk,h.high.behind hn.high hg hk,
  h.loads.far hg (fun ad e => by have:=hn.loads ad e; omega) fun y hy ad e => by have:=hn.profs y hy ad e; omega⟩
theorem RPb.nil (w:World):RPb w PbM.nil :=
 ⟨RInts.nil,RInts.nil,RInts.nil,RInts.nil,RInts.nil,RInts.nil,RInts.nil,⟨⟨by simp [ldCells,PbM.nil],fun h => absurd h (by simp [PbM.nil])⟩,by simp [PbM.nil]⟩⟩
theorem PbNew.nil (B:Nat):PbNew B PbM.nil :=
 ⟨fun _ h => by simp [PbM.nil] at h,fun _ h => by simp [PbM.nil] at h,fun _ h => by simp [PbM.nil] at h,fun _ h => by simp [PbM.nil] at h,fun _ h => by simp [PbM.nil] at h,fun _ h => by simp [PbM.nil] at h,fun _ h => by simp [PbM.nil] at h,fun _ h => by simp [PbM.nil] at h,fun _ h => by simp [PbM.nil] at h⟩
theorem Advance_ret {tmps:Array Value} {w W:World} {cs:Array Value} {er:Int} {P:Ending→World→Prop} {t:TypeId} (hs:cs.size=20) (h:Blk W (w.heap.size+2) t cs)
  (h4:tmps.getD 4 undef = .pointer (some ⟨w.heap.size+2,0,none⟩)) (h5:tmps.getD 5 undef = .int .i64 er)
  (hP:P (.returned (.tuple #[.agg cs,.int .i64 er])) W) :
  bodyPost Tryz.prog Tryz.f21 P .ret { tmps:=tmps,defers := [] } W:=by
 have hl:=run_load_blk (P:=Tryz.prog) (ty:=31) (by kernel_rfl) (by rw [hs]; kernel_rfl) h
 have h4':tmps[4]?.getD undef = .pointer (some ⟨w.heap.size+2,0,none⟩):=by simpa using h4
 have h5':tmps[5]?.getD undef = .int .i64 er:=by simpa using h5
 refine bodyPost_ret (v := .tuple #[.agg cs,.int .i64 er]) (by simp [results,Tryz.results21,h4',h5',asAddr,hl]) rfl hP
theorem AdvOut.both {p:Pb} {d:Dc} {w w':World} {e:Ending} (h:AdvOut p d w e w'):∃ (m:PbM) (A2:Option Addr) (n c2:Nat) (er:Int),e = .returned (.tuple #[.agg m.cs,.slice A2 n c2,.int .i64 er])∧RPb w' m∧PbNew w.heap.size m∧((p.advE d=0∧er=0∧m.p=p.adv d∧m.Fit∧m.Cap) ∨ (p.advE d ≠ 0∧er=p.advE d∧m=PbM.nil))∧Below w.heap.size w w':=by
 rcases h with ⟨h0,m,A2,c2,he,hm,hr,hf,hc,hn,_,_,_,hb⟩ | ⟨h0,he,hb⟩
 ·exact ⟨m,A2,_,c2,0,he,hr,hn,.inl ⟨h0,rfl,hm,hf,hc⟩,hb⟩
 ·exact ⟨PbM.nil,none,0,0,p.advE d,he,RPb.nil _,PbNew.nil _,.inr ⟨h0,rfl,rfl⟩,hb⟩
set_option maxRecDepth 100000 in
set_option maxHeartbeats 16000000 in
theorem advanceX_any (x:PbM) (d:DcM) (w:World) (hP0:RPb w x) (hF:x.Fit) (hC:x.Cap) (hD0:RBools w d.A d.l) :
  Calls Tryz.prog 21 #[x.v,d.v] w (AdvanceOut x.p d.d w):=by
 have hP:=Lib.hid hP0
 have hD:=Lib.hid hD0
 have HAD:=Lib.hid (fun W (h:RPb W x) (h2:RBools W d.A d.l) => (advance_any x d W h hF hC h2).mono fun _ _ h => h.both)
 have hst0:=AD.start x d w
 simp only [PbM.v,DcM.v]
 obtain ⟨W,hW⟩:∃ W,W=((w.alloc (.cells x.cs 31)).alloc (.cells #[.int .i64 d.charge,.int .i64 d.heat,.slice d.A d.l.length d.c] 39)).alloc (.cells #[.slice none 0 0,.slice none 0 0,.int .i64 0,.slice none 0 0,.slice none 0 0,.slice none 0 0,.int .i64 0,.int .i64 0,.int .i64 0,.int .i64 0,.int .i64 0,.int .i64 0,.int .i64 0,.int .i64 0,.int .i64 0,.slice none 0 0,.slice none 0 0,.slice none 0 0,.int .i64 0,.int .i64 0] 31):=⟨_,rfl⟩
 simp only [PbM.cs] at hW
 rw [show ((w.alloc (.cells x.cs 31)).alloc (.cells d.cs 39)).alloc (.cells PbM.nil.cs 31)=W from hW.symm] at hst0
 have hst:=Lib.hid hst0
 have hWH:=Lib.hid hW
 clear hst0 hW hP0 hD0 hF hC
 go_enter Tryz.func21,Tryz.ntmps21
 go_upto_region 1 with fail
 rw [← hWH.out]
 clear hWH
 go_wp2_with (first | refine wpList_load_problemG (by rfl) _ rfl w.heap.size rfl x hst.out.p ?_ | refine wpList_load_decG (by rfl) _ rfl (w.heap.size+1) rfl d hst.out.q ?_)
 refine (HAD.out _ (hP.out.below hst.out.bel) (hD.out.below hst.out.bel)).mono ?_
 rintro e w2 ⟨m,A2,n,c2,er,rfl,hr,hn,hor,hb⟩
 have hx2:=hst.out.below hb
 have HX2:=Lib.hid hx2
 have HR:=Lib.hid hr
 have HN:Hid (PbNew (w.heap.size+3) m):=by
  have:=hst.out.lt
  exact ⟨fun ad e => Nat.le_trans this (hn.buy ad e),fun ad e => Nat.le_trans this (hn.sell ad e),fun ad e => Nat.le_trans this (hn.solar ad e),fun ad e => Nat.le_trans this (hn.demand ad e),fun ad e => Nat.le_trans this (hn.outside ad e),fun ad e => Nat.le_trans this (hn.low ad e),fun ad e => Nat.le_trans this (hn.high ad e),fun ad e => Nat.le_trans this (hn.loads ad e),fun y hy ad e => Nat.le_trans this (hn.profs y hy ad e)⟩
 have HOR:=Lib.hid hor
 clear hr hn hor hb hx2 hst HAD
 simp only [PbM.cs]
 go_wp2_with (refine wpList_store_blk rfl 31 _ _ rfl w2.heap.size rfl m.cs rfl (by kernel_rfl) (PbM.cs_oneC _) (Blk.new w2 _ _) rfl ?_)
 intro w3 hB3 hg3
 have hb3:Below w2.heap.size w2 w3:=((Below.refl w2.heap.size w2).alloc (Nat.le_refl _) (.cells #[.slice none 0 0,.slice none 0 0,.int .i64 0,.slice none 0 0,.slice none 0 0,.slice none 0 0,.int .i64 0,.int .i64 0,.int .i64 0,.int .i64 0,.int .i64 0,.int .i64 0,.int .i64 0,.int .i64 0,.int .i64 0,.slice none 0 0,.slice none 0 0,.slice none 0 0,.int .i64 0,.int .i64 0] 31)).grown hg3 (by simp) (fun k e => by injection e with e; omega)
 obtain ⟨g,hg⟩:∃ n,n=w2.heap.size:=⟨_,rfl⟩
 rw [← hg] at hB3
 have HGg:Hid (w2.heap.size ≤ g):=by show _ ≤ _; omega
 have HBK:Hid (Blk w3 g 31 m.cs):=hB3
 have HX3:=Lib.hid (HX2.out.below hb3)
 have HR3:=Lib.hid (HR.out.below hb3)
 go_upto_region 2 with fail
 rw [← hg]
 clear hB3 hg3 hb3 hg HX2 HR
 go_wp2_with (first | refine wpList_load_problemD rfl _ rfl g rfl m HBK.out ?_ | refine wpList_store_blk rfl 31 _ _ rfl (w.heap.size+2) rfl m.cs rfl (by kernel_rfl) (PbM.cs_oneC _) HX3.out.r rfl ?_)
 intro w5 hB5 hg5
 have hb5:Below w.heap.size w w5:=HX3.out.bel.grown hg5 HX3.out.bel.size (fun k e => by injection e with e; omega)
 have hr5:RPb w5 m:=HR3.out.behind HN.out hg5 (by omega)
 have HB5:=Lib.hid hB5
 have HF5:Hid (AdvanceOut x.p d.d w (.returned (.tuple #[.agg m.cs,.int .i64 er])) w5):=by
  rcases HOR.out with ⟨h0,rfl,hm,hf,hc⟩ | ⟨h0,rfl,rfl⟩
  ·exact .inl ⟨h0,m,rfl,hm,hr5,hf,hc,hb5⟩
  ·exact .inr ⟨h0,rfl,hb5⟩
 clear hB5 hg5 hb5 hr5
 go_wp2_with fail
 exact Advance_ret (cs:=m.cs) rfl HB5.out rfl rfl HF5.out
theorem own_at {w:World} {B q n c k:Nat} {e:TypeId} {l:List Int} (h:w.ownsRow B e 1 (.slice (some ⟨q,0,none⟩) n c) n (ints l)) (hl:l.length=n) (hk:k < n):w.cell? ⟨q,k,none⟩=some (.int .i64 (l.getD k 0))∧w.frozen? ⟨q,k,none⟩=false:=by
 refine ⟨?_,h.frozenAt k⟩
 rw [h.cellAt k (by omega)]
 simp [ints,List.getD,hl,hk]
section
variable {ops:Array Oper} {rest:List Oper} {o:Oper} {a:Act} {W:World} {Q:Exit→Act→World→Prop}
theorem wpList_load_planD (hgd:o.guard=none) (s:Operand) (ho:o.op = .load 48 s) (g:Nat) (hx:a.eval s = .pointer (some ⟨g,0,none⟩)) (y:PnM) {t:TypeId} (h:Blk W g t y.cs) (hk:wpList Tryz.prog ops Q rest (a.put o.dst (.agg #[.slice y.charge.A y.charge.l.length y.charge.c,.slice y.heat.A y.heat.l.length y.heat.c,.slice y.start.A y.start.l.length y.start.c])) W) :
  wpList Tryz.prog ops Q (o :: rest) a W:=wpList_load_blk 48 (by kernel_rfl) (by kernel_rfl) hgd s ho g hx h hk
end
theorem sim_ret {tmps:Array Value} {w W:World} {cs:Array Value} {P:Ending→World→Prop} {t:TypeId} (hs:cs.size=3) (h:Blk W (w.heap.size+2) t cs)
  (h4:tmps.getD 4 undef = .pointer (some ⟨w.heap.size+2,0,none⟩)) (hP:P (.returned (.agg cs)) W) :
  bodyPost Tryz.prog Tryz.f29 P .ret { tmps:=tmps,defers := [] } W:=by
 have hl:=run_load_blk (P:=Tryz.prog) (ty:=48) (by kernel_rfl) (by rw [hs]; kernel_rfl) h
 have h4':tmps[4]?.getD undef = .pointer (some ⟨w.heap.size+2,0,none⟩):=by simpa using h4
 refine bodyPost_ret (v := .agg cs) (by simp [results,Tryz.results29,h4',asAddr,hl]) rfl hP
def PnM.Caps (y:PnM):Prop:=y.charge.l.length ≤ y.charge.c∧y.heat.l.length ≤ y.heat.c∧y.start.l.length ≤ y.start.c
def SimOut (p:Pb) (w:World) (e:Ending) (w':World):Prop :=
 ∃ y:PnM,e = .returned y.v∧(y.x=p.simP∧y.Caps)∧RPn w' y∧(∀ ad,y.charge.A=some ad→w.heap.size+3 ≤ ad.block)∧(∀ ad,y.heat.A=some ad→w.heap.size+3 ≤ ad.block)∧(∀ ad,y.start.A=some ad→w.heap.size+3 ≤ ad.block)∧Below w.heap.size w w'
set_option maxRecDepth 100000 in
set_option maxHeartbeats 64000000 in
theorem simulate_any (x:PbM) (w:World) (hP0:RPb w x) (hF:x.Fit) (hC:x.Cap) (hc:x.p.chk=0) :
  Calls Tryz.prog 29 #[x.v,.agg #[.func (.func 9) #[] #[]]] w (SimOut x.p w):=by
 have hP:=Lib.hid hP0
 have hst0:=SX44.start hP0
 have hg:=Pb.good hc
 have hl4:x.loads.length ≤ 4:=by have h1:=Pb.loads4 hg; have h2:=PbM.loads_len x; omega
 have hnb:=Pb.nbd hg
 have hn1:1 ≤ x.buy.l.length:=hnb.1
 have hn2:x.buy.l.length ≤ 96:=hnb.2
 have HXN:Hid (x.p.n=x.buy.l.length):=rfl
 have hmk:=run_make_row' (P:=Tryz.prog) 22 3 (.int .i64 0) 8 Tryz.underlying22 Tryz.infoInt rfl .i64 .i64 x.loads.length (by omega) (by omega)
 obtain ⟨i0,hi,hz0,hz1,hz2⟩:=info_parts Tryz.infoInt
 simp only [PbM.v]
 obtain ⟨W,hW⟩:∃ W,W=(((w.alloc (.cells x.cs 31)).alloc (.cells #[.func (.func 9) #[] #[]] 69)).alloc (.cells #[.slice none 0 0,.slice none 0 0,.slice none 0 0] 48)).alloc (.cells #[.slice none 0 0,.slice none 0 0,.slice none 0 0] 48):=⟨_,rfl⟩
 simp only [PbM.cs] at hW
 rw [show (((w.alloc (.cells x.cs 31)).alloc (.cells #[.func (.func 9) #[] #[]] 69)).alloc (.cells PnM.zero.cs 48)).alloc (.cells PnM.zero.cs 48)=W from hW.symm] at hst0
 have hst:=Lib.hid hst0
 have hWH:=Lib.hid hW
 have HCK:=Lib.hid hc
 have HF:=Lib.hid hF
 have HC:=Lib.hid hC
 have HL4:=Lib.hid hl4
 have HN1:=Lib.hid hn1
 have HN2:=Lib.hid hn2
 obtain ⟨N,hN⟩:∃ N,N=x.buy.l.length:=⟨_,rfl⟩
 clear hst0 hW hP0 hF hC hc hg hnb hn1 hn2
 go_enter Tryz.func29,Tryz.ntmps29
 go_upto_region 3 with fail
 rw [← hWH.out, ← hN]
 have HNN:=Lib.hid hN
 clear hWH hN
 have c17:=hst.out.p2.cell 17
 simp [PbM.cs] at c17
 go_upto_region 4 with fail
 have hSI0:=SI44.start hP.out hst.out (n:=x.loads.length) (by omega)
 obtain ⟨q,hq⟩:∃ q,q=W.heap.size:=⟨_,rfl⟩
 obtain ⟨W5,hW5⟩:∃ V,V=W.alloc (.cells (madeCells #[.int .i64 0] x.loads.length) 3):=⟨_,rfl⟩
 rw [← hq, ← hW5] at hSI0 ⊢
 have HSI:=Lib.hid hSI0
 have HLL:=Lib.hid (PbM.loads_len x)
 clear hSI0 hq hW5 hst c17 hmk hl4
 go_wp2_with fail
 go_loopw [30] (fun s30 wr => ∃ (k:Nat) (vs:Value),k ≤ x.loads.length∧s30 = .int .i64 k∧Hid (SI44 w wr x (w.heap.size+3) vs q x.loads.length k))
  (fun s30 _ => x.loads.length - (intOf s30).toNat)
 case atStart => exact ⟨0,_,by omega,rfl,HSI.out⟩
 case round =>
  clear HSI
  obtain ⟨k,vs,hk,rfl,hS⟩:=hrel
  obtain ⟨wo,hwo⟩:∃ wo:World,wo=wr:=⟨_,rfl⟩
  subst hwo
  by_cases hlt:k < x.loads.length
  ·have i1:(0:Int) ≤ (k:Int):=by omega
   have i2:(k:Int) < (x.loads.length:Int):=by omega
   obtain ⟨z0,f0⟩:=own_at hS.out.own (idsRow_len _ _) hlt
   go_upto_region 8 with fail
   obtain ⟨hs2,ho2⟩:=hS.out.setI hP.out
   have hne:=hS.out.ne
   obtain ⟨w2,hw2⟩:∃ V,V=wo.setCell ⟨q,k,none⟩ (.int .i64 k):=⟨_,rfl⟩
   rw [← hw2] at hs2 ho2 ⊢
   have HS2:=Lib.hid hs2
   have HO2:=Lib.hid ho2
   have HNE:=Lib.hid hne
   have c2:=hs2.p6.cell 2
   simp at c2
   have HL4b:=HL4.out
   clear hs2 ho2 hne hw2 hS z0 f0
   go_wp2_with (at_builtin; refine wpList_append_newGH _ w2 w2.heap.size rfl rfl _ _ 22 rfl (w.heap.size+3+1) 3 i0 (.int .i64 0) 1 8 Tryz.underlying22 hi hz0 hz1 hz2 rfl (by decide) (by decide) _ k (ints (List.replicate k (-1))) rfl (by have:=HS2.out.os; rw [List.length_replicate] at this; exact this) #[.int .i64 (-1)] rfl (one_int _ _) rfl rfl (by omega) HS2.out.gsz ?_)
   intro v5 w5 hown5 hg5 hv5
   obtain ⟨A5,c5,rfl⟩:=own_form hown5
   obtain ⟨hB5,hS5⟩:=SI44.push HS2.out HO2.out HNE.out hown5 hg5 (hv5.imp id (fun h => ⟨_,h,by omega⟩))
   have HS5:=Lib.hid hS5
   clear c2
   have c2:=hB5.cell 2
   have f2:=hB5.frozen 2
   simp at c2
   clear hown5 hg5 hv5 hB5 hS5 HS2 HO2 HNE
   go_upto_region 9 with fail
   obtain ⟨w6,hw6⟩:∃ V,V=w5.setCell ⟨w.heap.size+3,2,none⟩ (.slice A5 (k+1) c5):=⟨_,rfl⟩
   rw [← hw6] at HS5 ⊢
   clear hw6 c2 f2
   go_wp2_with fail
   go_roundw
   case rel => exact ⟨k+1,_,by omega,by go_num,HS5.out⟩
   case measure => simp [intOf]; omega
  ·have hkl:k=x.loads.length:=by omega
   rw [hkl] at hS
   have hm:=Lib.hid hS.out.made
   clear hS hkl
   go_upto_region 10 with fail
   obtain ⟨w0,hw0⟩:∃ w0:World,w0=wo:=⟨_,rfl⟩
   have HST:Hid ((x.p.sim 0).ids=List.range x.loads.length∧(x.p.sim 0).start=List.replicate x.loads.length (-1)∧(x.p.sim 0).q=x.p):=by show _∧_∧_; rw [← HLL.out]; exact ⟨rfl,rfl,rfl⟩
   have HST2:Hid (x.p.simC 0 = []∧x.p.simH 0 = []):=⟨rfl,rfl⟩
   have hat:∃ (i:Nat) (y:PbM) (vc vh vt:Value) (Ai:Option Addr) (ci:Nat),i < N∧(Value.int .i64 0) = .int .i64 i∧(Value.slice (some ⟨q,0,none⟩) x.loads.length x.loads.length) = .slice Ai (x.p.sim i).ids.length ci∧Hid (y.p=(x.p.sim i).q∧y.Fit∧y.Cap)∧Hid (SX44 w wo y (w.heap.size+3) vc vh vt (x.p.simC i) (x.p.simH i) (x.p.sim i).start Ai (x.p.sim i).ids):=by
    have h1:=HNN.out
    have h2:=HN1.out
    refine ⟨0,x,.slice none 0 0,.slice none 0 0,vs,some ⟨q,0,none⟩,x.loads.length,by omega,rfl,?_,⟨HST.out.2.2.symm,HF.out,HC.out⟩,?_⟩
    ·rw [HST.out.1,List.length_range]
    ·show SX44 _ _ _ _ _ _ _ _ _ _ _ _
     rw [HST.out.1,HST.out.2.1,HST2.out.1,HST2.out.2]
     exact hm.out
   have HAT:=Lib.hid hat
   clear hat hm HST HST2 hw0 hk hlt HF HC HLL HN1
   go_wp2_with fail
   go_loopw [7,44] (fun s7 s44 wr => ∃ (i:Nat) (y:PbM) (vc vh vt:Value) (Ai:Option Addr) (ci:Nat),i < N∧s44 = .int .i64 i∧s7 = .slice Ai (x.p.sim i).ids.length ci∧Hid (y.p=(x.p.sim i).q∧y.Fit∧y.Cap)∧Hid (SX44 w wr y (w.heap.size+3) vc vh vt (x.p.simC i) (x.p.simH i) (x.p.sim i).start Ai (x.p.sim i).ids))
    (fun _ s44 _ => N - (intOf s44).toNat)
   case atStart => exact HAT.out
   case round =>
    clear HAT
    obtain ⟨i,y,vc,vh,vt,Ai,ci,hiN,rfl,rfl,hY,hS⟩:=hrel
    obtain ⟨wa,hwa⟩:∃ wa:World,wa=wr:=⟨_,rfl⟩
    subst hwa
    have i1:(i:Int) < (N:Int):=by omega
    have hxn:x.p.n=N:=by rw [HXN.out,HNN.out]
    have hok:=Pb.sim_ok HCK.out (i:=i) (by omega)
    have HOK:=Lib.hid hok
    have hiN96:i ≤ 96:=by have h1:=HN2.out; have h2:=HNN.out; omega
    have HCL:Hid ((x.p.simC i).length=i∧(x.p.simH i).length=i):=by show _∧_; unfold Pb.simC Pb.simH; simp
    have HC1:=Lib.hid (Pb.simC_succ x.p i)
    have HH1:=Lib.hid (Pb.simH_succ x.p i)
    have hyd:y.p.dec=(x.p.sim i).q.dec:=by rw [hY.out.1]
    have hdec:=fun W (h:RPb W y) => decide_any y W h hY.out.2.1
    rw [hyd] at hdec
    generalize hbe:y.p.bestE=be at *
    have HDEC:=Lib.hid hdec
    have c0:=hS.out.p3.cell 0
    simp at c0
    clear hok hyd hdec hbe
    go_upto_region 13 with fail
    go_wp2_with (refine wpList_load_problemG (by rfl) _ rfl w.heap.size rfl y hS.out.p2 ?_)
    refine (HDEC.out _ hS.out.r).mono ?_
    rintro e w2 ⟨_,rfl,m,rfl,hmd,hrm,hml,hma,hb2⟩
    have hlta:=hS.out.lt_all
    have hs2:=hS.out.below hb2
    have hsz2:=hb2.size
    simp only [DcM.v]
    clear c0 HDEC
    go_wp2_with (refine wpList_store_blk rfl 39 _ _ rfl w2.heap.size rfl m.cs rfl (by kernel_rfl) (DcM.cs_one _) (Blk.new w2 _ _) rfl ?_)
    intro w3 hB3 hg3
    have hb3:Below w2.heap.size w2 w3:=((Below.refl w2.heap.size w2).alloc (Nat.le_refl _) (.cells #[.int .i64 0,.int .i64 0,.slice none 0 0] 39)).grown hg3 (by simp) (fun k e => by injection e with e; omega)
    obtain ⟨gd,hgd⟩:∃ n,n=w2.heap.size:=⟨_,rfl⟩
    rw [← hgd] at hB3
    have HS3:=Lib.hid (hs2.below hb3)
    have HD3:Hid (SD44 (SimM w (w.heap.size+3) vc vh vt) w3 gd m):=⟨hB3,hrm.below hb3,fun e => by have:=hlta _ e; omega,.inr fun ad e e2 => by have h1:=hma ad e; have h2:=hlta _ e2; omega⟩
    have HML:=Lib.hid hml
    have HMDD:Hid (m.d=(x.p.sim i).q.dec):=hmd
    have HMD:Hid (m.charge=(x.p.sim i).q.dec.charge∧m.heat=(x.p.sim i).q.dec.heat∧m.l=(x.p.sim i).q.dec.starts):=by show _∧_∧_; rw [← hmd]; exact ⟨rfl,rfl,rfl⟩
    go_upto_region 14 with fail
    rw [← hgd]
    clear hB3 hg3 hb3 hgd hs2 hlta hsz2 hb2 hrm hml hma hmd hS
    have c0:=HS3.out.p6.cell 0
    have d0:=HD3.out.dd.cell 0
    simp at c0
    simp [DcM.cs] at d0
    go_wp2_with (at_builtin; refine wpList_append_newGH _ w3 w3.heap.size rfl rfl _ _ 22 rfl (w.heap.size+3+1) 3 i0 (.int .i64 0) 1 8 Tryz.underlying22 hi hz0 hz1 hz2 rfl (by decide) (by decide) _ (x.p.simC i).length (ints (x.p.simC i)) rfl HS3.out.oc #[.int .i64 m.charge] rfl (one_int _ _) rfl rfl (by have:=HCL.out.1; omega) HS3.out.gsz ?_)
    intro v5 w5 hown5 hg5 hv5
    obtain ⟨A5,c5,rfl⟩:=own_form hown5
    have hv5:=hv5.imp id (fun h => (⟨_,h,Nat.le_succ _⟩:∃ q,Value.ownBlock (.slice A5 ((x.p.simC i).length+1) c5)=some q∧w3.heap.size ≤ q))
    obtain ⟨hB5,hS5⟩:=HS3.out.pushC (c:=m.charge) hown5 hg5 hv5
    have hD5:SD44 (SimM w (w.heap.size+3) (.slice A5 ((x.p.simC i).length+1) c5) vh vt) w5 gd m:=HD3.out.step hg5 (fun k e => .inr (.inr (.inl e.symm))) (simM_c hv5)
    have hg6:w5.grownBy (w5.setCell ⟨w.heap.size+3,0,none⟩ (.slice A5 ((x.p.simC i).length+1) c5)) (some (w.heap.size+3)):=only_setCell (grown_id _ _) (.inl rfl) _
    have HD6:=Lib.hid (hD5.step hg6 (fun k e => .inr (.inl (by injection e with e; exact e.symm))) (fun k h => .inl h))
    have HS6:=Lib.hid hS5
    clear c0 d0
    have c0:=hB5.cell 0
    have f0:=hB5.frozen 0
    simp at c0
    clear hown5 hg5 hv5 hB5 hS5 hD5 hg6 HS3 HD3
    go_upto_region 15 with fail
    obtain ⟨w6,hw6⟩:∃ V,V=w5.setCell ⟨w.heap.size+3,0,none⟩ (.slice A5 ((x.p.simC i).length+1) c5):=⟨_,rfl⟩
    rw [← hw6] at HS6 HD6 ⊢
    clear hw6 c0 f0
    have c1:=HS6.out.p6.cell 1
    have d1:=HD6.out.dd.cell 1
    simp at c1
    simp [DcM.cs] at d1
    go_wp2_with (at_builtin; refine wpList_append_newGH _ w6 w6.heap.size rfl rfl _ _ 22 rfl (w.heap.size+3+1) 3 i0 (.int .i64 0) 1 8 Tryz.underlying22 hi hz0 hz1 hz2 rfl (by decide) (by decide) _ (x.p.simH i).length (ints (x.p.simH i)) rfl HS6.out.oh #[.int .i64 m.heat] rfl (one_int _ _) rfl rfl (by have:=HCL.out.2; omega) HS6.out.gsz ?_)
    intro v7 w7 hown7 hg7 hv7
    obtain ⟨A7,c7,rfl⟩:=own_form hown7
    have hv7:=hv7.imp id (fun h => (⟨_,h,Nat.le_succ _⟩:∃ q,Value.ownBlock (.slice A7 ((x.p.simH i).length+1) c7)=some q∧w6.heap.size ≤ q))
    obtain ⟨hB7,hS7⟩:=HS6.out.pushH (c:=m.heat) hown7 hg7 hv7
    have hD7:SD44 (SimM w (w.heap.size+3) (.slice A5 ((x.p.simC i).length+1) c5) (.slice A7 ((x.p.simH i).length+1) c7) vt) w7 gd m:=HD6.out.step hg7 (fun k e => .inr (.inr (.inr (.inl e.symm)))) (simM_h hv7)
    have hg8:w7.grownBy (w7.setCell ⟨w.heap.size+3,1,none⟩ (.slice A7 ((x.p.simH i).length+1) c7)) (some (w.heap.size+3)):=only_setCell (grown_id _ _) (.inl rfl) _
    have HD8:=Lib.hid (hD7.step hg8 (fun k e => .inr (.inl (by injection e with e; exact e.symm))) (fun k h => .inl h))
    have HS8:=Lib.hid hS7
    clear c1 d1
    have c1:=hB7.cell 1
    have f1:=hB7.frozen 1
    simp at c1
    clear hown7 hg7 hv7 hB7 hS7 hD7 hg8 HS6 HD6
    go_upto_region 16 with fail
    obtain ⟨w8,hw8⟩:∃ V,V=w7.setCell ⟨w.heap.size+3,1,none⟩ (.slice A7 ((x.p.simH i).length+1) c7):=⟨_,rfl⟩
    rw [← hw8] at HS8 HD8 ⊢
    clear hw8 c1 f1
    rw [show x.p.simC i ++ [m.charge]=x.p.simC (i+1) by rw [HC1.out,HMD.out.1],show x.p.simH i ++ [m.heat]=x.p.simH (i+1) by rw [HH1.out,HMD.out.2.1]] at HS8
    generalize (x.p.simC i).length+1=n5 at *
    generalize (x.p.simH i).length+1=n7 at *
    have hable:=HOK.out.able
    have HLI:Hid (m.l.length=(x.p.sim i).ids.length):=by show _=_; rw [HMD.out.2.2,HOK.out.len]; exact hable.len
    have HIL:Hid (∀ k,k < (x.p.sim i).ids.length→(x.p.sim i).ids.getD k 0 < (x.p.sim i).start.length):=fun k hk => by rw [HOK.out.sl]; exact HOK.out.lt k hk
    have hm4:m.l.length ≤ 4:=by rw [HLI.out,HOK.out.len]; exact Pb.loads4 (Pb.good HOK.out.chk)
    have d2:=HD8.out.dd.cell 2
    simp [DcM.cs] at d2
    clear hable
    go_wp2_with fail
    go_loopw [71] (fun s71 wr => ∃ (k:Nat),k ≤ m.l.length∧s71 = .int .i64 k∧Hid (SX44 w wr y (w.heap.size+3) (.slice A5 n5 c5) (.slice A7 n7 c7) vt (x.p.simC (i+1)) (x.p.simH (i+1)) (setStart (x.p.sim i).start (x.p.sim i).ids m.l i k) Ai (x.p.sim i).ids)∧Hid (SD44 (SimM w (w.heap.size+3) (.slice A5 n5 c5) (.slice A7 n7 c7) vt) wr gd m))
     (fun s71 _ => m.l.length - (intOf s71).toNat)
    case atStart => exact ⟨0,Nat.zero_le _,rfl,HS8.out,HD8.out⟩
    case round =>
     clear HS8 HD8 d2
     obtain ⟨k,hk,rfl,hS,hD⟩:=hrel
     obtain ⟨wb,hwb⟩:∃ wb:World,wb=wr:=⟨_,rfl⟩
     subst hwb
     by_cases hlt:k < m.l.length
     ·have j1:(0:Int) ≤ (k:Int):=by omega
      have j2:(k:Int) < (m.l.length:Int):=by omega
      obtain ⟨bD,oD,hAD,_,zD⟩:=hD.out.rd.at' hlt
      have hki:k < (x.p.sim i).ids.length:=by rw [← HLI.out]; exact hlt
      have j3:(k:Int) < ((x.p.sim i).ids.length:Int):=by omega
      have hj:=HIL.out k hki
      have hsl:=setStart_len (x.p.sim i).start (x.p.sim i).ids m.l i k
      obtain ⟨bI,oI,hAI,_,zI⟩:=hS.out.ri.at' (k:=k) (by rw [natI_len]; exact hki)
      have eI:(natI (x.p.sim i).ids)[k]'(by rw [natI_len]; exact hki)=(((x.p.sim i).ids.getD k 0:Nat):Int):=by simp [natI,List.getD,hki]
      rw [eI] at zI
      obtain ⟨qs,cS,hvt,_,_⟩:=hS.out.os.form (by rw [hsl]; omega)
      rw [hsl] at hvt
      have hstep:setStart (x.p.sim i).start (x.p.sim i).ids m.l i (k+1)=if m.l[k]=true∧(setStart (x.p.sim i).start (x.p.sim i).ids m.l i k).getD ((x.p.sim i).ids.getD k 0) 0 < 0 then (setStart (x.p.sim i).start (x.p.sim i).ids m.l i k).set ((x.p.sim i).ids.getD k 0) i else setStart (x.p.sim i).start (x.p.sim i).ids m.l i k:=by rw [setStart,bools_at hlt]
      subst hAI
      subst hvt
      have hos:=hS.out.os
      obtain ⟨X,hX⟩:∃ X,X=setStart (x.p.sim i).start (x.p.sim i).ids m.l i k:=⟨_,rfl⟩
      rw [← hX] at hS hstep hsl hos
      generalize m.l[k]=b at *
      generalize (x.p.sim i).ids.getD k 0=j at *
      rw [hsl] at hos
      obtain ⟨zS,fS⟩:=own_at hos hsl hj
      generalize hsv:X.getD j 0=sv at *
      have j4:(0:Int) ≤ (j:Int):=by omega
      have j5:(j:Int) < ((x.p.sim i).start.length:Int):=by omega
      have g2:=hS.out.p6.cell 2
      simp at g2
      rw [hAD]
      have HST:=Lib.hid hstep
      have HSL:=Lib.hid hsl
      clear hAD eI hstep hos hX hsv
      go_upto_region 19 with fail
      cases b
      ·clear zD zI zS fS g2 j3 j4 j5 hj
       have HNX:Hid (setStart (x.p.sim i).start (x.p.sim i).ids m.l i (k+1)=X):=by show _=_; rw [HST.out,if_neg (fun h => by cases h.1)]
       clear HST HSL
       refine wp_region_held_drew (S:=(fun w' => True)) (by kernel_rfl) (trivial) (fun hHeld => ?_)
       refine tk 0 ?_
       try simp only [jA,jB,Act.put,jD,jE,jF]
       refine tk 1 ?_
       try simp only [jA,jB,jC,Act.put,jD,jE,jF]
       refine tu 2 ?_
       try simp only [jA,jB,jC,Act.put,jD,jE,jF]
       refine tu 3 ?_
       try simp only [jA,jB,jC,Act.put,jD,jE,jF]
       refine tu 4 ?_
       try simp only [jA,jB,jC,Act.put,jD,jE,jF]
       refine tu 5 ?_
       try simp only [jA,jB,jC,Act.put,jD,jE,jF]
       refine tu 6 ?_
       try simp only [jA,jB,jC,Act.put,jD,jE,jF]
       refine tu 7 ?_
       try simp only [jA,jB,jC,Act.put,jD,jE,jF]
       refine tu 8 ?_
       try simp only [jA,jB,jC,Act.put,jD,jE,jF]
       refine tu 9 ?_
       try simp only [jA,jB,jC,Act.put,jD,jE,jF]
       refine tu 10 ?_
       try simp only [jA,jB,jC,Act.put,jD,jE,jF]
       refine tk 11 ?_
       try simp only [jA,jB,jC,Act.put,jD,jE,jF]
       refine wpAnyH_done (by kernel_rfl) ?_ _
       obtain ⟨wc,hwc⟩:∃ V:World,V=wb.drew:=⟨_,rfl⟩
       rw [← hwc]
       have hbw:Below wb.heap.size wb wc:=by rw [hwc]; exact Below.drew (Below.refl _ _)
       have HSc:=Lib.hid (hS.out.below hbw)
       have HDc:=Lib.hid (hD.out.below hbw)
       clear hwc hbw hS hD hHeld
       go_wp2_with fail
       go_roundw
       case rel => exact ⟨k+1,by omega,by go_num,by rw [HNX.out]; exact HSc.out,HDc.out⟩
       case measure => simp [intOf]; omega
      ·by_cases hneg:sv < 0
       ·have HNX:Hid (setStart (x.p.sim i).start (x.p.sim i).ids m.l i (k+1)=X.set j i):=by show _=_; rw [HST.out,if_pos ⟨rfl,hneg⟩]
        clear zD HST
        refine wp_region_held_drew (S:=(fun w' => w'.cell? ⟨w.heap.size+3,2,none⟩=some (.slice (some ⟨qs,0,none⟩) (x.p.sim i).start.length cS)∧w'.cell? ⟨bI,oI+k,none⟩=some (.int .i64 (j:Int))∧w'.cell? ⟨qs,j,none⟩=some (.int .i64 sv))) (by kernel_rfl) (⟨g2,zI,zS⟩) (fun hHeld => ?_)
        refine tk 0 ?_
        try simp only [jA,jB,Act.put,jD,jE,jF]
        refine tk 1 ?_
        try simp only [jA,jB,jC,Act.put,jD,jE,jF]
        refine tk 2 ?_
        try simp only [jA,jB,jC,Act.put,jD,jE,jF]
        refine tk 3 ?_
        try simp only [jA,jB,jC,Act.put,jD,jE,jF]
        refine tk 4 ?_
        try simp only [jA,jB,jC,Act.put,jD,jE,jF]
        refine tk 5 ?_
        try simp only [jA,jB,jC,Act.put,jD,jE,jF]
        refine tk 6 ?_
        try simp only [jA,jB,jC,Act.put,jD,jE,jF]
        refine tk 7 ?_
        try simp only [jA,jB,jC,Act.put,jD,jE,jF]
        refine tk 8 ?_
        try simp only [jA,jB,jC,Act.put,jD,jE,jF]
        refine tk 9 ?_
        try simp only [jA,jB,jC,Act.put,jD,jE,jF]
        refine tk 10 ?_
        try simp only [jA,jB,jC,Act.put,jD,jE,jF]
        refine tk 11 ?_
        try simp only [jA,jB,jC,Act.put,jD,jE,jF]
        refine wpAnyH_done (by kernel_rfl) ?_ _
        obtain ⟨wc,hwc⟩:∃ V:World,V=wb.drew:=⟨_,rfl⟩
        rw [← hwc]
        have hbw:Below wb.heap.size wb wc:=by rw [hwc]; exact Below.drew (Below.refl _ _)
        have HSc:=Lib.hid (hS.out.below hbw)
        have HDc:=Lib.hid (hD.out.below hbw)
        have g2c:wc.cell? ⟨w.heap.size+3,2,none⟩=some (.slice (some ⟨qs,0,none⟩) (x.p.sim i).start.length cS):=cell_below g2 hbw
        have zIc:=cell_below zI hbw
        have zSc:=cell_below zS hbw
        clear g2 zI zS fS hwc hbw hS hD hHeld
        have hosc:=HSc.out.os
        rw [HSL.out] at hosc
        have fSc:=hosc.frozenAt j
        clear hosc
        go_upto_region 20 with fail
        clear hneg
        refine wp_region_held_drew (S:=(fun w' => w'.cell? ⟨w.heap.size+3,2,none⟩=some (.slice (some ⟨qs,0,none⟩) (x.p.sim i).start.length cS)∧w'.cell? ⟨bI,oI+k,none⟩=some (.int .i64 (j:Int)))) (by kernel_rfl) (⟨g2c,zIc⟩) (fun hHeld => ?_)
        refine tk 0 ?_
        try simp only [jA,jB,Act.put,jD,jE,jF]
        refine tk 1 ?_
        try simp only [jA,jB,jC,Act.put,jD,jE,jF]
        refine tk 2 ?_
        try simp only [jA,jB,jC,Act.put,jD,jE,jF]
        refine tk 3 ?_
        try simp only [jA,jB,jC,Act.put,jD,jE,jF]
        refine tk 4 ?_
        try simp only [jA,jB,jC,Act.put,jD,jE,jF]
        refine tk 5 ?_
        try simp only [jA,jB,jC,Act.put,jD,jE,jF]
        refine tk 6 ?_
        try simp only [jA,jB,jC,Act.put,jD,jE,jF]
        refine tk 7 ?_
        try simp only [jA,jB,jC,Act.put,jD,jE,jF]
        refine wpAnyH_ready (rs := [8]) (by kernel_rfl) (by simp) ?_
        refine (AllReadyH.cons rfl (fun K hK => ?_) AllReadyH.nil)
        have HKK:=Lib.hid hK
        clear hK
        go_simp
        obtain ⟨wd,hwd⟩:∃ v,v=wc.setCell ⟨qs,j,none⟩ (.int .i64 i):=⟨_,rfl⟩
        rw [← hwd]
        obtain ⟨yw11,hwn⟩:∃ v:World,v=wd.drew:=⟨_,rfl⟩
        rw [← hwn]
        have hbd:Below wd.heap.size wd yw11:=by rw [hwn]; exact Below.drew (Below.refl _ _)
        have hs9:=HSc.out.setS' HSL.out j i
        rw [← hwd] at hs9
        have HSd:=Lib.hid (hs9.below hbd)
        have hg9:wc.grownBy wd (some qs):=by rw [hwd]; exact only_setCell (p:=⟨qs,j,none⟩) (grown_id _ _) (.inl rfl) _
        have hd9:=HDc.out.step hg9 (fun k e => .inr (.inr (.inr (.inr e.symm)))) (fun k h => .inl h)
        have HDd:=Lib.hid (hd9.below hbd)
        have hnI:some bI ≠ some qs:=by
         intro e
         have e:=Option.some.inj e
         rcases HSc.out.offi with h1 | h1
         ·rw [h1] at hki; cases hki
         ·exact h1 _ rfl (.inr (.inr (.inr (.inr (by rw [show bI=qs from e]; rfl)))))
        have hnG:some (w.heap.size+3) ≠ some qs:=by
         intro e
         have e:=Option.some.inj e
         have h2:=(HSc.out.os.lt qs rfl).1
         omega
        have kg:=cell_below (cell_grown hg9 g2c hnG) hbd
        have kz:=cell_below (cell_grown hg9 zIc hnI) hbd
        clear hbd hs9 hd9 hg9 hwd hwn zSc fSc hnI hnG
        refine HKK.out _ _ (⟨kg,kz⟩) (fun hH2 => ?_)
        clear HKK K
        replace hHeld:=hH2
        clear hH2
        try simp only [jA,jB,jC,Act.put,jD,jE,jF]
        refine wpAnyH_done (by kernel_rfl) ?_ _
        clear hHeld g2c zIc
        go_wp2_with fail
        go_roundw
        case rel => exact ⟨k+1,by omega,by go_num,by rw [HNX.out]; exact HSd.out,HDd.out⟩
        case measure => simp [intOf]; omega
       ·have HNX:Hid (setStart (x.p.sim i).start (x.p.sim i).ids m.l i (k+1)=X):=by show _=_; rw [HST.out,if_neg (fun h => hneg h.2)]
        clear zD HST fS
        refine wp_region_held_drew (S:=(fun w' => w'.cell? ⟨w.heap.size+3,2,none⟩=some (.slice (some ⟨qs,0,none⟩) (x.p.sim i).start.length cS)∧w'.cell? ⟨bI,oI+k,none⟩=some (.int .i64 (j:Int))∧w'.cell? ⟨qs,j,none⟩=some (.int .i64 sv))) (by kernel_rfl) (⟨g2,zI,zS⟩) (fun hHeld => ?_)
        refine tk 0 ?_
        try simp only [jA,jB,Act.put,jD,jE,jF]
        refine tk 1 ?_
        try simp only [jA,jB,jC,Act.put,jD,jE,jF]
        refine tk 2 ?_
        try simp only [jA,jB,jC,Act.put,jD,jE,jF]
        refine tk 3 ?_
        try simp only [jA,jB,jC,Act.put,jD,jE,jF]
        refine tk 4 ?_
        try simp only [jA,jB,jC,Act.put,jD,jE,jF]
        refine tk 5 ?_
        try simp only [jA,jB,jC,Act.put,jD,jE,jF]
        refine tk 6 ?_
        try simp only [jA,jB,jC,Act.put,jD,jE,jF]
        refine tk 7 ?_
        try simp only [jA,jB,jC,Act.put,jD,jE,jF]
        refine tk 8 ?_
        try simp only [jA,jB,jC,Act.put,jD,jE,jF]
        refine tk 9 ?_
        try simp only [jA,jB,jC,Act.put,jD,jE,jF]
        refine tk 10 ?_
        try simp only [jA,jB,jC,Act.put,jD,jE,jF]
        refine tk 11 ?_
        try simp only [jA,jB,jC,Act.put,jD,jE,jF]
        refine wpAnyH_done (by kernel_rfl) ?_ _
        obtain ⟨wc,hwc⟩:∃ V:World,V=wb.drew:=⟨_,rfl⟩
        rw [← hwc]
        have hbw:Below wb.heap.size wb wc:=by rw [hwc]; exact Below.drew (Below.refl _ _)
        have HSc:=Lib.hid (hS.out.below hbw)
        have HDc:=Lib.hid (hD.out.below hbw)
        clear hwc hbw hS hD hHeld
        go_wp2_with fail
        go_roundw
        case rel => exact ⟨k+1,by omega,by go_num,by rw [HNX.out]; exact HSc.out,HDc.out⟩
        case measure => simp [intOf]; omega
     ·have hkm:k=m.l.length:=by omega
      have hst:setStart (x.p.sim i).start (x.p.sim i).ids m.l i k=(x.p.sim (i+1)).start:=by rw [hkm,HMD.out.2.2]; rfl
      rw [hst] at hS
      clear hst hkm hk HIL HLI
      by_cases hlast:i+1=N
      ·have q1:(i:Int)=(N:Int) - 1:=by omega
       go_upto_region 33 with fail
       clear q1
       obtain ⟨A9,c9,rfl⟩:=own_form hS.out.os
       obtain ⟨_,_,e5⟩:=own_form hS.out.oc
       obtain ⟨_,_,e7⟩:=own_form hS.out.oh
       have e5:n5=(x.p.simC (i+1)).length:=by injection e5
       have e7:n7=(x.p.simH (i+1)).length:=by injection e7
       subst e5
       subst e7
       obtain ⟨z,hz⟩:∃ z:PnM,z=⟨⟨A5,c5,x.p.simC (i+1)⟩,⟨A7,c7,x.p.simH (i+1)⟩,⟨A9,c9,(x.p.sim (i+1)).start⟩⟩:=⟨_,rfl⟩
       have HB6:Hid (Blk wb (w.heap.size+3) 48 z.cs):=by show Blk _ _ _ _; rw [hz]; exact hS.out.p6
       have HZ:Hid (z.x=x.p.simP):=by show _=_; rw [hz,Pb.sim_plan HCK.out,HXN.out, ← HNN.out, ← hlast]; rfl
       have hz2:=Lib.hid hz
       clear hz hlast
       go_wp2_with (first | refine wpList_load_planD rfl _ rfl (w.heap.size+3) rfl z HB6.out ?_ | refine wpList_store_blk rfl 48 _ _ rfl (w.heap.size+2) rfl z.cs rfl (by kernel_rfl) (PnM.cs_one _) hS.out.p4 rfl ?_)
       intro w9 hB9 hg9
       have hsx:=hS.out
       have hlt9:=hsx.lt
       have hb9:Below w.heap.size w w9:=hsx.bel.grown hg9 hsx.bel.size (fun k e => by injection e with e; omega)
       have ne9:∀ {u:Value} {n:Nat} {xs:List Value},wb.ownsRow (w.heap.size+3+1) 3 1 u n xs→u.ownBlock=none ∨ u.ownBlock ≠ some (w.heap.size+2):=fun ho => .inr fun e => by have:=(ho.lt _ e).1; omega
       have HFN:Hid (SimOut x.p w (.returned (.agg z.cs)) w9):=by
        refine ⟨z,rfl,⟨HZ.out,?_,?_,?_⟩,⟨?_,?_,?_⟩,?_,?_,?_,hb9⟩
        ·rw [hz2.out]; exact own_cap hsx.oc
        ·rw [hz2.out]; exact own_cap hsx.oh
        ·rw [hz2.out]; exact own_cap hsx.os
        ·rw [hz2.out]; exact Reads.of_own (own_keep hsx.oc hg9 (ne9 hsx.oc))
        ·rw [hz2.out]; exact Reads.of_own (own_keep hsx.oh hg9 (ne9 hsx.oh))
        ·rw [hz2.out]; exact Reads.of_own (own_keep hsx.os hg9 (ne9 hsx.os))
        ·rw [hz2.out]; intro ad e; have:=own_fresh hsx.oc ad e; omega
        ·rw [hz2.out]; intro ad e; have:=own_fresh hsx.oh ad e; omega
        ·rw [hz2.out]; intro ad e; have:=own_fresh hsx.os ad e; omega
       have HB9:=Lib.hid hB9
       clear hsx hlt9 hb9 ne9 hB9 hg9
       go_wp2_with fail
       exact sim_ret (cs:=z.cs) rfl HB9.out rfl HFN.out
      ·have q1:((i:Int) == (N:Int) - 1)=false:=by rw [beq_eq_false_iff_ne]; omega
       have hN96:N ≤ 96:=by rw [HNN.out]; exact HN2.out
       have hqn:1 < (x.p.sim i).q.n:=by rw [HOK.out.n,HXN.out, ← HNN.out]; omega
       have hadv0:=Lib.hid (Pb.able_adv HOK.out.chk HOK.out.able hqn)
       have hav:=fun W (h:RPb W y) (h2:RBools W m.A m.l) => advance_any y m W h hY.out.2.1 hY.out.2.2 h2
       rw [hY.out.1,HMDD.out] at hav
       unfold AdvOut at hav
       obtain ⟨wh,hwh⟩:∃ z,z=(x.p.sim i).q.whichs (x.p.sim i).q.dec (x.p.sim i).q.loads.length:=⟨_,rfl⟩
       rw [← hwh] at hav
       have HWI:Hid ((x.p.sim (i+1)).ids=wh.map fun j => (x.p.sim i).ids.getD j 0):=by show _=_; rw [hwh]; rfl
       have HWL:Hid (∀ j ∈ wh,j < (x.p.sim i).ids.length):=by intro j hj; rw [hwh] at hj; rw [HOK.out.len]; exact (Pb.whichs_mem.1 hj).1
       have HWM:Hid (wh.length ≤ 4):=by
        show _ ≤ _
        have h1:wh.length ≤ (x.p.sim i).q.loads.length:=by rw [hwh]; unfold Pb.whichs; exact Nat.le_trans (List.length_filter_le _ _) (by rw [List.length_range]; exact Nat.le_refl _)
        exact Nat.le_trans h1 (Pb.loads4 (Pb.good HOK.out.chk))
       have HAV:=Lib.hid hav
       clear hav hwh hqn
       go_upto_region 23 with fail
       clear q1
       go_wp2_with (first | refine wpList_load_problemG (by rfl) _ rfl w.heap.size rfl y hS.out.p2 ?_ | refine wpList_load_decG (by rfl) _ rfl gd rfl m hD.out.dd ?_)
       refine (HAV.out _ hS.out.r hD.out.rd).mono ?_
       rintro e wp (⟨_,m2,A2,c2,rfl,hm2,hr2,hf2,hc2,hn2,hri2,_,_,hb2⟩ | ⟨h0,_,_⟩)
       rotate_left
       ·exact absurd hadv0.out h0
       simp only [PbM.v]
       have HSp:=Lib.hid (hS.out.below hb2)
       have HLT:Hid (∀ k,SimM w (w.heap.size+3) (.slice A5 n5 c5) (.slice A7 n7 c7) vt k→k < wb.heap.size):=hS.out.lt_all
       have HSZ:Hid (wb.heap.size ≤ wp.heap.size):=hb2.size
       have HM2:Hid (m2.p=(x.p.sim (i+1)).q∧m2.Fit∧m2.Cap):=⟨hm2,hf2,hc2⟩
       have HN2b:=Lib.hid hn2
       have HR2:=Lib.hid hr2
       have HRI:=Lib.hid hri2
       clear hm2 hf2 hc2 hr2 hn2 hri2 hb2 HAV hadv0 hS hD
       go_wp2_with (refine wpList_store_blk rfl 31 _ _ rfl wp.heap.size rfl m2.cs rfl (by kernel_rfl) (PbM.cs_oneC _) (Blk.new wp _ _) rfl ?_)
       intro wq hBq hgq
       have hbq:Below wp.heap.size wp wq:=((Below.refl wp.heap.size wp).alloc (Nat.le_refl _) (.cells #[.slice none 0 0,.slice none 0 0,.int .i64 0,.slice none 0 0,.slice none 0 0,.slice none 0 0,.int .i64 0,.int .i64 0,.int .i64 0,.int .i64 0,.int .i64 0,.int .i64 0,.int .i64 0,.int .i64 0,.int .i64 0,.slice none 0 0,.slice none 0 0,.slice none 0 0,.int .i64 0,.int .i64 0] 31)).grown hgq (by simp) (fun k e => by injection e with e; omega)
       obtain ⟨gn,hgn⟩:∃ n,n=wp.heap.size:=⟨_,rfl⟩
       rw [← hgn] at hBq
       have HBN:Hid (Blk wq gn 31 m2.cs):=hBq
       have HSq:=Lib.hid (HSp.out.below hbq)
       have HRq:=Lib.hid (HR2.out.below hbq)
       have HIq:=Lib.hid (HRI.out.below hbq)
       have HSZq:Hid (wb.heap.size ≤ wq.heap.size):=Nat.le_trans HSZ.out hbq.size
       go_upto_region 24 with fail
       rw [← hgn]
       clear hBq hgq hbq hgn HSp HR2 HRI HSZ
       have HBR:=Lib.hid (Below.refl wq.heap.size wq)
       go_upto_region 26 with fail
       go_wp2_with fail
       go_loopw [17,112] (fun s17 s112 wr => ∃ (k:Nat),k ≤ wh.length∧s112 = .int .i64 k∧Hid (wr.ownsRow wq.heap.size 3 1 s17 k (ints (natI ((wh.take k).map fun j => (x.p.sim i).ids.getD j 0))))∧Hid (Below wq.heap.size wq wr))
        (fun _ s112 _ => wh.length - (intOf s112).toNat)
       case atStart => exact ⟨0,Nat.zero_le _,rfl,World.ownsRow_nil _ _ _ _,HBR.out⟩
       case round =>
        clear HBR
        obtain ⟨k,hk,rfl,hO,hB⟩:=hrel
        obtain ⟨wc,hwc⟩:∃ wc:World,wc=wr:=⟨_,rfl⟩
        subst hwc
        have hw4:=HWM.out
        by_cases hlt:k < wh.length
        ·have j1:(0:Int) ≤ (k:Int):=by omega
         have j2:(k:Int) < (wh.length:Int):=by omega
         obtain ⟨b2,o2,hA2,_,zW⟩:=(HIq.out.below hB.out).at' (k:=k) (by rw [natI_len]; exact hlt)
         have eW:(natI wh)[k]'(by rw [natI_len]; exact hlt)=((wh[k]:Nat):Int):=by simp [natI]
         rw [eW] at zW
         have hwl:=HWL.out wh[k] (List.getElem_mem hlt)
         obtain ⟨bI,oI,hAI,_,zI⟩:=(HSq.out.ri.below hB.out).at' (k:=wh[k]) (by rw [natI_len]; exact hwl)
         have eI:(natI (x.p.sim i).ids)[wh[k]]'(by rw [natI_len]; exact hwl)=(((x.p.sim i).ids.getD wh[k] 0:Nat):Int):=by simp [natI,List.getD,hwl]
         rw [eI] at zI
         have htk:(wh.take (k+1)).map (fun j => (x.p.sim i).ids.getD j 0)=(wh.take k).map (fun j => (x.p.sim i).ids.getD j 0) ++ [(x.p.sim i).ids.getD wh[k] 0]:=by rw [List.take_succ_eq_append_getElem hlt,List.map_append]; rfl
         generalize hj:wh[k]=j at *
         generalize hjd:(x.p.sim i).ids.getD j 0=jd at *
         have j3:(0:Int) ≤ (j:Int):=by omega
         have j4:(j:Int) < ((x.p.sim i).ids.length:Int):=by omega
         have htk2:natI ((wh.take (k+1)).map fun j => (x.p.sim i).ids.getD j 0)=natI ((wh.take k).map fun j => (x.p.sim i).ids.getD j 0) ++ [(jd:Int)]:=by rw [htk,natI_append]; rfl
         generalize natI ((wh.take k).map fun j => (x.p.sim i).ids.getD j 0)=J at *
         have HTK:=Lib.hid htk2
         clear htk2
         subst hA2
         subst hAI
         clear eW eI htk hj hjd
         go_wp2_with (at_builtin; refine wpList_append_newGH _ wc wc.heap.size rfl rfl _ _ 22 rfl wq.heap.size 3 i0 (.int .i64 0) 1 8 Tryz.underlying22 hi hz0 hz1 hz2 rfl (by decide) (by decide) _ k (ints J) rfl hO.out #[.int .i64 (jd:Int)] rfl (one_int _ _) rfl rfl (by omega) hB.out.size ?_)
         intro v5 w5 hown5 hg5 hv5
         have HB5:=Lib.hid (hB.out.grown hg5 hB.out.size (fun q hq => (hO.out.lt q hq).1))
         have HO5:Hid (w5.ownsRow wq.heap.size 3 1 v5 (k+1) (ints (natI ((wh.take (k+1)).map fun j => (x.p.sim i).ids.getD j 0)))):=by
          show World.ownsRow _ _ _ _ _ _ _
          rw [HTK.out,ints_append]
          exact hown5
         clear hown5 hg5 hv5 zW zI hO hB
         go_wp2_with fail
         go_roundw
         case rel => exact ⟨k+1,by omega,by go_num,HO5.out,HB5.out⟩
         case measure => simp [intOf]; omega
        ·have hkw:k=wh.length:=by omega
         have hO2:=hO.out
         rw [hkw,List.take_length, ← HWI.out,show wh.length=(x.p.sim (i+1)).ids.length by rw [HWI.out,List.length_map]] at hO2
         obtain ⟨Al,cl,rfl⟩:=own_form hO2
         have HO2:=Lib.hid hO2
         have HSe:=Lib.hid (HSq.out.below hB.out)
         have HBe:=Lib.hid (HBN.out.below hB.out HBN.out.lt)
         have HRe:=Lib.hid (HRq.out.below hB.out)
         clear hO2 hkw hO hB HSq HRq HBN
         go_upto_region 31 with fail
         go_wp2_with (first | refine wpList_load_problemD rfl _ rfl gn rfl m2 HBe.out ?_ | refine wpList_store_blk rfl 31 _ _ rfl w.heap.size rfl m2.cs rfl (by kernel_rfl) (PbM.cs_oneC _) HSe.out.p2 rfl ?_)
         intro w9 hB9 hg9
         have hlq:=HSZq.out
         have hri:RInts wc Al (natI (x.p.sim (i+1)).ids):=by
          have h1:=Reads.of_own HO2.out
          unfold RInts
          rw [natI_len]
          exact h1
         have hs9:=HSe.out.turn hB9 hg9 HRe.out (HN2b.out.off HLT.out) hri (.inr fun ad e hm => by have h1:=own_fresh HO2.out ad e; have h2:=HLT.out _ hm; omega)
         have HS9:=Lib.hid hs9
         clear hB9 hg9 hlq hri hs9 HSe HO2 HRe
         go_wp2_with fail
         go_roundw
         case rel => exact ⟨i+1,m2,_,_,_,_,_,by omega,by go_num,rfl,HM2.out,HS9.out⟩
         case measure => simp [intOf]; omega
def SimulateOut (p:Pb) (w:World) (e:Ending) (w':World):Prop :=
 ∃ y:PnM,e = .returned (.tuple #[y.v,.int .i64 p.chk])∧(y.x=p.simP∧y.Caps)∧RPn w' y∧Below w.heap.size w w'
theorem simulate_ret {tmps:Array Value} {w W:World} {cs:Array Value} {er:Int} {P:Ending→World→Prop} {t:TypeId} (hs:cs.size=3) (h:Blk W (w.heap.size+1) t cs)
  (h2:tmps.getD 2 undef = .pointer (some ⟨w.heap.size+1,0,none⟩)) (h3:tmps.getD 3 undef = .int .i64 er) (hP:P (.returned (.tuple #[.agg cs,.int .i64 er])) W) :
  bodyPost Tryz.prog Tryz.f13 P .ret { tmps:=tmps,defers := [] } W:=by
 have hl:=run_load_blk (P:=Tryz.prog) (ty:=48) (by kernel_rfl) (by rw [hs]; kernel_rfl) h
 have h2':tmps[2]?.getD undef = .pointer (some ⟨w.heap.size+1,0,none⟩):=by simpa using h2
 have h3':tmps[3]?.getD undef = .int .i64 er:=by simpa using h3
 refine bodyPost_ret (v := .tuple #[.agg cs,.int .i64 er]) (by simp [results,Tryz.results13,h2',h3',asAddr,hl]) rfl hP
set_option maxRecDepth 100000 in
set_option maxHeartbeats 16000000 in
theorem simulateX_any (x:PbM) (w:World) (hP0:RPb w x) (hF:x.Fit) (hC:x.Cap) :
  Calls Tryz.prog 13 #[x.v] w (SimulateOut x.p w):=by
 have hP:=Lib.hid hP0
 have hck:=Lib.hid (fun W (h:RPb W x) => pcheck_any x W h hF)
 obtain ⟨b1,b2,b3,b4⟩:=two_boxes (w:=w) (cs:=x.cs) (t:=31) (cs2:=PnM.zero.cs) (t2:=48) (Below.refl _ _)
 simp only [PbM.v]
 obtain ⟨W,hW⟩:∃ W,W=(w.alloc (.cells x.cs 31)).alloc (.cells #[.slice none 0 0,.slice none 0 0,.slice none 0 0] 48):=⟨_,rfl⟩
 simp only [PbM.cs] at hW
 rw [show (w.alloc (.cells x.cs 31)).alloc (.cells PnM.zero.cs 48)=W from hW.symm] at b1 b2 b3 b4
 have hWH:=Lib.hid hW
 have H1:=Lib.hid b1
 have H2:=Lib.hid b2
 have H3:=Lib.hid b3
 have H4:=Lib.hid b4
 clear b1 b2 b3 b4 hW hP0
 by_cases hc:x.p.chk=0
 ·have HSI:=Lib.hid (fun W (h:RPb W x) => simulate_any x W h hF hC hc)
  rw [hc] at hck
  have HCK:=Lib.hid hc
  clear hc hF hC
  go_enter Tryz.func13,Tryz.ntmps13
  go_upto_region 1 with fail
  rw [← hWH.out]
  clear hWH
  go_wp2_with (refine wpList_load_problemG (by rfl) _ rfl w.heap.size rfl x H1.out ?_)
  refine (hck.out _ (hP.out.below H4.out)).mono ?_
  rintro e w1 ⟨rfl,hb1⟩
  have B1:=Lib.hid (H1.out.below hb1 H1.out.lt)
  have B2:=Lib.hid (H2.out.below hb1 H2.out.lt)
  have B4:=Lib.hid (H4.out.trans (hb1.mono H4.out.size))
  have B3:=Lib.hid (Nat.lt_of_lt_of_le H3.out hb1.size)
  clear hb1 H1 H2 H3 H4 hck
  go_upto_region 4 with fail
  go_wp2_with (refine wpList_load_problemG (by rfl) _ rfl w.heap.size rfl x B1.out ?_)
  refine (HSI.out _ (hP.out.below B4.out)).mono ?_
  rintro e w2 ⟨y,rfl,hyx,hyr,f1,f2,f3,hb2⟩
  have E2:=Lib.hid (B2.out.below hb2 B2.out.lt)
  have E4:=Lib.hid (B4.out.trans (hb2.mono B4.out.size))
  have HY:=Lib.hid hyx
  have HR:=Lib.hid hyr
  have F1:Hid (∀ ad,y.charge.A=some ad→w.heap.size+2 ≤ ad.block):=fun ad e => by have h1:=f1 ad e; have h2:=B3.out; omega
  have F2:Hid (∀ ad,y.heat.A=some ad→w.heap.size+2 ≤ ad.block):=fun ad e => by have h1:=f2 ad e; have h2:=B3.out; omega
  have F3:Hid (∀ ad,y.start.A=some ad→w.heap.size+2 ≤ ad.block):=fun ad e => by have h1:=f3 ad e; have h2:=B3.out; omega
  clear hyx hyr f1 f2 f3 hb2 B1 B2 B4 HSI
  simp only [PnM.v]
  go_wp2_with (refine wpList_store_blk rfl 48 _ _ rfl (w.heap.size+1) rfl y.cs rfl (by kernel_rfl) (PnM.cs_one _) E2.out rfl ?_)
  intro w5 hB5 hg5
  have hb5:Below w.heap.size w w5:=E4.out.grown hg5 E4.out.size (fun k e => by injection e with e; omega)
  have hr5:RPn w5 y:=⟨HR.out.charge.behind F1.out hg5 (by omega),HR.out.heat.behind F2.out hg5 (by omega),HR.out.start.behind F3.out hg5 (by omega)⟩
  have HB5:=Lib.hid hB5
  have HFN:Hid (SimulateOut x.p w (.returned (.tuple #[.agg y.cs,.int .i64 0])) w5):=⟨y,by rw [HCK.out]; rfl,HY.out,hr5,hb5⟩
  clear hB5 hg5 hb5 hr5
  go_wp2_with fail
  exact simulate_ret (cs:=y.cs) rfl HB5.out rfl rfl HFN.out
 ·have q0:(x.p.chk != 0)=true:=by simp [hc]
  have HSP:Hid (PnM.zero.x=x.p.simP):=by show _=_; unfold Pb.simP; rw [if_pos hc]; rfl
  have HFN:Hid (∀ w5,Below w.heap.size w w5→SimulateOut x.p w (.returned (.tuple #[.agg PnM.zero.cs,.int .i64 x.p.chk])) w5):=fun w5 h => ⟨PnM.zero,rfl,⟨HSP.out,Nat.le_refl _,Nat.le_refl _,Nat.le_refl _⟩,RPn.zero _,h⟩
  generalize x.p.chk=ck at *
  clear hc hF hC
  go_enter Tryz.func13,Tryz.ntmps13
  go_upto_region 1 with fail
  rw [← hWH.out]
  clear hWH
  go_wp2_with (refine wpList_load_problemG (by rfl) _ rfl w.heap.size rfl x H1.out ?_)
  refine (hck.out _ (hP.out.below H4.out)).mono ?_
  rintro e w1 ⟨rfl,hb1⟩
  have B2:=Lib.hid (H2.out.below hb1 H2.out.lt)
  have B4:=Lib.hid (H4.out.trans (hb1.mono H4.out.size))
  clear hb1 H1 H2 H3 H4 hck
  go_upto_region 3 with fail
  clear q0
  go_wp2_with (refine wpList_store_blk rfl 48 _ _ rfl (w.heap.size+1) rfl PnM.zero.cs rfl (by kernel_rfl) (PnM.cs_one _) B2.out rfl ?_)
  intro w5 hB5 hg5
  have hb5:Below w.heap.size w w5:=B4.out.grown hg5 B4.out.size (fun k e => by injection e with e; omega)
  have HB5:=Lib.hid hB5
  have HF5:=Lib.hid (HFN.out _ hb5)
  clear hB5 hg5 hb5
  go_wp2_with fail
  exact simulate_ret (cs:=PnM.zero.cs) rfl HB5.out rfl rfl HF5.out
end Go.Proofs.YtnppngaabfhkpaaGreat
