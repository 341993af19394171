/-
  The plain mathematics of plans (layer 42), part 4: loads of a valid problem, the plan that does nothing.
-/
import Derived.Test.YtnppngaabfhkpaaGreatEP13
import Derived.Test.YtnppngaabfhkpaaGreatEBPlain
namespace Go.Proofs.YtnppngaabfhkpaaGreat
theorem allTo_each {l:List Ld} {n:Int} {k i:Nat} (h:allTo l n k=0) (hi:i < k) (hk:k ≤ l.length):∃ h:i < l.length,l[i].chk n=0:=by
 refine ⟨by omega,?_⟩
 have h1:allTo l n (i+1)=0:=by
  by_cases h2:allTo l n (i+1)=0
  ·exact h2
  ·rw [allTo_stay h2 hi] at h; exact absurd h h2
 rw [allTo] at h1
 split at h1
 ·by_cases h3:l[i].chk n=0
  ·exact h3
  ·rw [loadErr_bad (by omega) h3] at h1; exact absurd h1 h3
 ·rename_i h2; exact absurd h1 h2
theorem Pb.load_ok {p:Pb} (g:p.Good) {i:Nat} (hi:i < p.loads.length):p.loads[i].chk p.n=0:=by
 have h:=g.loads
 unfold allChk at h
 split at h
 ·cases h
 ·exact (allTo_each h hi (Nat.le_refl _)).2
theorem step_zero {b:Bat} (hok:b.ok=true) {lv:Int} (h0:0 ≤ lv) (h1:lv ≤ b.cap):stepZ b lv 0=(lv,0,0):=by
 have g:=Bat.good hok
 have:=g.ch0; have:=g.di0
 rw [step_ok hok (by omega) (by omega)]
 simp [drawnZ]
theorem Pb.err_zero {p:Pb} {x:Pn} (h:p.err x=0):p.chk=0∧p.form x=0∧p.errTo x p.n=0:=by
 by_cases hc:p.chk=0
 ·by_cases hf:p.form x=0
  ·exact ⟨hc,hf,by rw [← Pb.err_run hc hf]; exact h⟩
  ·rw [(Pb.err_form hc hf).1] at h; exact absurd h hf
 ·rw [(Pb.err_chk hc).1] at h; exact absurd h hc
theorem Pb.errTo_each {p:Pb} {x:Pn} {n k:Nat} (h:p.errTo x n=0) (hk:k < n):p.errTo x k=0∧p.slotErr x k=0:=by
 have h1:p.errTo x k=0:=by
  by_cases h2:p.errTo x k=0
  ·exact h2
  ·rw [Pb.errTo_stay h2 (by omega)] at h; exact absurd h h2
 refine ⟨h1,?_⟩
 by_cases h3:p.slotErr x k=0
 ·exact h3
 ·rw [Pb.errTo_hit h1 h3 hk] at h; exact absurd h h3
theorem Pb.slot_zero {p:Pb} {x:Pn} {k:Nat} (h:p.slotErr x k=0) :
  (stepZ p.bat (p.lv x k) (x.charge.getD k 0)).2.2=0∧p.room.valid.okAt (k:Int) (p.tm x (k+1))=true∧wB (p.net x k) (-p.t.fuse) p.t.fuse=true:=by
 unfold Pb.slotErr at h
 split at h
 ·rename_i h1; exact absurd h h1
 ·rename_i h1
  split at h
  ·rename_i h2
   simp only [Pb.slotOk,Bool.and_eq_true] at h2
   exact ⟨by simpa using h1,h2.1,h2.2⟩
  ·cases h
theorem step_ok_bd {b:Bat} {l c:Int} (h:(stepZ b l c).2.2=0):0 ≤ (stepZ b l c).1∧(stepZ b l c).1 ≤ b.cap:=by
 have hc:canZ b l c=true:=by unfold canZ; rw [decide_eq_true_iff]; exact h
 obtain ⟨hok,h1,h2,h3,h4,h5,h6⟩:=canZ_iff.1 hc
 have g:=Bat.good hok
 have g1:=g.res0
 have e:(stepZ b l c).1=l+c:=by
  unfold stepZ at h ⊢
  rw [if_neg (by simp [hok])] at h ⊢
  split at h
  ·cases h
  ·rename_i h7
   rw [if_neg h7]
   split at h
   ·cases h
   ·rename_i h8
    rw [if_neg h8]
 rw [e]
 omega
def worstZ:Int:=1152921504606846976
def Pb.netAt (p:Pb) (U:List Int) (i:Nat) (lv c h:Int):Int :=
 p.demand.getD i 0+(stepZ p.bat lv c).2.1+h * p.room.power+U.getD i 0 - p.solar.getD i 0
def Pb.move (p:Pb) (U:List Int) (i:Nat) (lv tm c h:Int):Option (Int × Int × Int) :=
 if (stepZ p.bat lv c).2.2 ≠ 0 then none else
 if p.room.valid.okAt (i:Int) (p.room.valid.step tm (p.outside.getD i 0) h)=true then
  (if p.t.fits (i:Int) (p.netAt U i lv c h)=true then some ((stepZ p.bat lv c).1,p.room.valid.step tm (p.outside.getD i 0) h,p.t.cost i (p.netAt U i lv c h)) else none)
 else none
def Pb.moves (p:Pb) (i:Nat) (lv tm:Int):List (Int × Int) :=
 (choicesZ p.bat lv).flatMap fun c => (p.room.valid.choices (i:Int) tm (p.outside.getD i 0)).map fun h => (c,h)
def Pb.better1 (p:Pb) (U:List Int) (i:Nat) (lv tm:Int) (rest:Int→Int→Int) (b:Int) (m:Int × Int):Int :=
 match p.move U i lv tm m.1 m.2 with
 | none => b
 | some x => if rest x.1 x.2.1=worstZ then b else if x.2.2+rest x.1 x.2.1 < b then x.2.2+rest x.1 x.2.1 else b
def Pb.least (p:Pb) (U:List Int):Nat→Int→Int→Int
 | 0,_,_ => 0
 | r+1,lv,tm => (p.moves (p.n - (r+1)) lv tm).foldl (p.better1 U (p.n - (r+1)) lv tm (p.least U r)) worstZ
def Pb.good1 (p:Pb) (U:List Int) (r:Nat) (lv tm:Int) (m:Int × Int):Bool :=
 match p.move U (p.n - (r+1)) lv tm m.1 m.2 with
 | none => false
 | some x => decide (p.least U r x.1 x.2.1 ≠ worstZ) && decide (x.2.2+p.least U r x.1 x.2.1=p.least U (r+1) lv tm)
def Pb.follow (p:Pb) (U:List Int):Nat→Int→Int→List (Int × Int)
 | 0,_,_ => []
 | r+1,lv,tm => match (p.moves (p.n - (r+1)) lv tm).find? (p.good1 U r lv tm) with
  | none => []
  | some m => match p.move U (p.n - (r+1)) lv tm m.1 m.2 with
   | none => []
   | some x => m :: p.follow U r x.1 x.2.1
def Pb.path (p:Pb) (U:List Int):Nat→Int→Int→List (Int × Int)→Option Int
 | 0,_,_, [] => some 0
 | 0,_,_,_ :: _ => none
 | _+1,_,_, [] => none
 | r+1,lv,tm,m :: ms => if m ∈ p.moves (p.n - (r+1)) lv tm then
   (match p.move U (p.n - (r+1)) lv tm m.1 m.2 with
   | none => none
   | some x => (p.path U r x.1 x.2.1 ms).map (x.2.2 + ·))
  else none
theorem Pb.move_cost {p:Pb} {U:List Int} {i:Nat} {lv tm c h:Int} {x:Int × Int × Int} (g:p.t.Good) (hm:p.move U i lv tm c h=some x) : -1000000000 ≤ x.2.2∧x.2.2 ≤ 1000000000:=by
 unfold Pb.move at hm
 split at hm
 ·cases hm
 ·split at hm
  ·split at hm
   ·injection hm with hm
    subst hm
    exact Tf.cost_bd g _ _
   ·cases hm
  ·cases hm
theorem Pb.path_bd {p:Pb} {U:List Int} (g:p.t.Good) {r:Nat} {lv tm c:Int} {ms:List (Int × Int)} (h:p.path U r lv tm ms=some c) : -1000000000 * (r:Int) ≤ c∧c ≤ 1000000000 * (r:Int):=by
 induction r generalizing lv tm c ms with
 | zero =>
  cases ms with
  | nil => simp only [Pb.path] at h; injection h with h; omega
  | cons m ms => simp only [Pb.path] at h; cases h
 | succ r ih =>
  cases ms with
  | nil => simp only [Pb.path] at h; cases h
  | cons m ms =>
   rw [Pb.path] at h
   split at h
   ·split at h
    ·cases h
    ·rename_i x hx
     rw [Option.map_eq_some_iff] at h
     obtain ⟨d,hd,rfl⟩:=h
     have h1:=ih hd
     have h2:=Pb.move_cost g hx
     omega
   ·cases h
theorem Pb.fold_le {p:Pb} {U:List Int} {i:Nat} {lv tm:Int} {rest:Int→Int→Int} (l:List (Int × Int)) (b:Int):l.foldl (p.better1 U i lv tm rest) b ≤ b:=by
 induction l generalizing b with
 | nil => exact Int.le_refl _
 | cons m l ih =>
  refine Int.le_trans (ih _) ?_
  unfold Pb.better1
  split
  ·exact Int.le_refl _
  ·split
   ·exact Int.le_refl _
   ·split
    ·omega
    ·exact Int.le_refl _
theorem Pb.fold_mem {p:Pb} {U:List Int} {i:Nat} {lv tm:Int} {rest:Int→Int→Int} {l:List (Int × Int)} {b:Int} {m:Int × Int} {x:Int × Int × Int} (hm:m ∈ l) (hx:p.move U i lv tm m.1 m.2=some x) (hr:rest x.1 x.2.1 ≠ worstZ) :
  l.foldl (p.better1 U i lv tm rest) b ≤ x.2.2+rest x.1 x.2.1:=by
 induction l generalizing b with
 | nil => cases hm
 | cons a l ih =>
  rw [List.foldl_cons]
  rcases List.mem_cons.1 hm with rfl | hm
  ·refine Int.le_trans (Pb.fold_le _ _) ?_
   unfold Pb.better1
   rw [hx]
   simp only []
   rw [if_neg hr]
   split
   ·exact Int.le_refl _
   ·omega
  ·exact ih hm
theorem Pb.fold_some {p:Pb} {U:List Int} {i:Nat} {lv tm:Int} {rest:Int→Int→Int} (l:List (Int × Int)) (b:Int):l.foldl (p.better1 U i lv tm rest) b=b ∨
  ∃ m ∈ l, ∃ x,p.move U i lv tm m.1 m.2=some x∧rest x.1 x.2.1 ≠ worstZ∧l.foldl (p.better1 U i lv tm rest) b=x.2.2+rest x.1 x.2.1:=by
 induction l generalizing b with
 | nil => exact .inl rfl
 | cons a l ih =>
  rw [List.foldl_cons]
  rcases ih (p.better1 U i lv tm rest b a) with h | ⟨m,hm,x,h1,h2,h3⟩
  ·rw [h]
   unfold Pb.better1
   split
   ·exact .inl rfl
   ·rename_i x hx
    split
    ·exact .inl rfl
    ·rename_i h2
     split
     ·exact .inr ⟨a,List.mem_cons_self,x,hx,h2,rfl⟩
     ·exact .inl rfl
  ·exact .inr ⟨m,List.mem_cons_of_mem _ hm,x,h1,h2,h3⟩
theorem worst_far {r:Nat} {c:Int} (hr:r ≤ 24) (h : -1000000000 * (r:Int) ≤ c∧c ≤ 1000000000 * (r:Int)):c ≠ worstZ∧c < worstZ:=by
 unfold worstZ; omega
theorem Pb.least_spec {p:Pb} (U:List Int) (g:p.t.Good) (r:Nat) (hr:r ≤ 24):∀ lv tm,(∀ ms c,p.path U r lv tm ms=some c→p.least U r lv tm ≤ c) ∧
  (p.least U r lv tm ≠ worstZ→p.path U r lv tm (p.follow U r lv tm)=some (p.least U r lv tm)):=by
 induction r with
 | zero =>
  intro lv tm
  refine ⟨fun ms c h => ?_,fun _ => rfl⟩
  cases ms with
  | nil => simp only [Pb.path] at h; injection h with h; subst h; exact Int.le_refl _
  | cons m ms => simp only [Pb.path] at h; cases h
 | succ r ih =>
  intro lv tm
  have ih:=ih (by omega)
  constructor
  ·intro ms c h
   cases ms with
   | nil => simp only [Pb.path] at h; cases h
   | cons m ms =>
    rw [Pb.path] at h
    split at h
    ·rename_i hm
     split at h
     ·cases h
     ·rename_i x hx
      rw [Option.map_eq_some_iff] at h
      obtain ⟨d,hd,rfl⟩:=h
      have h1:=(ih x.1 x.2.1).1 ms d hd
      have h2:=Pb.path_bd g hd
      have hne:p.least U r x.1 x.2.1 ≠ worstZ:=by
       have:=(worst_far (by omega) h2).2
       omega
      have h3:=Pb.fold_mem (b:=worstZ) (rest:=p.least U r) hm hx hne
      rw [Pb.least]
      omega
    ·cases h
  ·intro hne
   have hs:=Pb.fold_some (p:=p) (U:=U) (i:=p.n - (r+1)) (lv:=lv) (tm:=tm) (rest:=p.least U r) (p.moves (p.n - (r+1)) lv tm) worstZ
   rcases hs with hs | ⟨m,hm,x,h1,h2,h3⟩
   ·exact absurd hs hne
   ·have hg:p.good1 U r lv tm m=true:=by
     unfold Pb.good1
     rw [h1]
     simp only []
     rw [decide_eq_true h2,decide_eq_true (show x.2.2+p.least U r x.1 x.2.1=p.least U (r+1) lv tm from h3.symm)]
     rfl
    rw [Pb.follow]
    cases hf:(p.moves (p.n - (r+1)) lv tm).find? (p.good1 U r lv tm) with
    | none => exact absurd hg (by have:=List.find?_eq_none.1 hf m hm; simpa using this)
    | some a =>
     simp only []
     have ha:=List.find?_some hf
     have hma:=List.mem_of_find?_eq_some hf
     unfold Pb.good1 at ha
     cases hx:p.move U (p.n - (r+1)) lv tm a.1 a.2 with
     | none => rw [hx] at ha; cases ha
     | some y =>
      rw [hx] at ha
      simp only [Bool.and_eq_true,decide_eq_true_iff] at ha
      simp only []
      rw [Pb.path,if_pos hma,hx]
      simp only []
      rw [(ih y.1 y.2.1).2 ha.1]
      rw [Option.map_some,ha.2]
theorem Pb.least_bd {p:Pb} (U:List Int) (g:p.t.Good) (r:Nat) (hr:r ≤ 24) (lv tm:Int):p.least U r lv tm=worstZ ∨ (-1000000000 * (r:Int) ≤ p.least U r lv tm∧p.least U r lv tm ≤ 1000000000 * (r:Int)):=by
 by_cases h:p.least U r lv tm=worstZ
 ·exact .inl h
 ·exact .inr (Pb.path_bd g ((Pb.least_spec U g r hr lv tm).2 h))
theorem Pb.follow_len {p:Pb} {U:List Int} {r:Nat} {lv tm c:Int} {ms:List (Int × Int)} (h:p.path U r lv tm ms=some c):ms.length=r:=by
 induction r generalizing lv tm c ms with
 | zero =>
  cases ms with
  | nil => rfl
  | cons m ms => simp only [Pb.path] at h; cases h
 | succ r ih =>
  cases ms with
  | nil => simp only [Pb.path] at h; cases h
  | cons m ms =>
   rw [Pb.path] at h
   split at h
   ·split at h
    ·cases h
    ·rename_i x hx
     rw [Option.map_eq_some_iff] at h
     obtain ⟨d,hd,_⟩:=h
     rw [List.length_cons,ih hd]
   ·cases h
def ltL:List Int→List Int→Bool
 | [], [] => false
 | [],_ :: _ => true
 | _ :: _, [] => false
 | a :: l,b :: m => if a < b then true else if b < a then false else ltL l m
theorem ltL_irrefl (l:List Int):ltL l l=false:=by
 induction l with
 | nil => rfl
 | cons a l ih => rw [ltL,if_neg (Int.lt_irrefl _),if_neg (Int.lt_irrefl _)]; exact ih
theorem ltL_append {l m:List Int} (h:ltL l m=true) (hl:l.length=m.length) (a b:List Int):ltL (l ++ a) (m ++ b)=true:=by
 induction l generalizing m with
 | nil => cases m with
  | nil => cases h
  | cons b m => cases hl
 | cons x l ih => cases m with
  | nil => cases h
  | cons y m =>
   rw [List.cons_append,List.cons_append,ltL]
   rw [ltL] at h
   by_cases h1:x < y
   ·rw [if_pos h1]
   ·rw [if_neg h1] at h ⊢
    by_cases h2:y < x
    ·rw [if_pos h2] at h; cases h
    ·rw [if_neg h2] at h ⊢
     exact ih h (by simpa using hl)
theorem ltL_same (l a b:List Int):ltL (l ++ a) (l ++ b)=ltL a b:=by
 induction l with
 | nil => rfl
 | cons x l ih => rw [List.cons_append,List.cons_append,ltL,if_neg (Int.lt_irrefl _),if_neg (Int.lt_irrefl _)]; exact ih
theorem ltL_trans {l m k:List Int} (h:ltL l m=true) (h2:ltL m k=true):ltL l k=true:=by
 induction l generalizing m k with
 | nil => cases m with
  | nil => cases h
  | cons b m => cases k with
   | nil => cases h2
   | cons c k => rfl
 | cons a l ih => cases m with
  | nil => cases h
  | cons b m => cases k with
   | nil => cases h2
   | cons c k =>
    rw [ltL] at h h2 ⊢
    by_cases h1:a < b
    ·by_cases h3:b < c
     ·rw [if_pos (by omega)]
     ·rw [if_neg h3] at h2
      by_cases h4:c < b
      ·rw [if_pos h4] at h2; cases h2
      ·rw [if_pos (by omega)]
    ·rw [if_neg h1] at h
     by_cases h3:b < a
     ·rw [if_pos h3] at h; cases h
     ·rw [if_neg h3] at h
      by_cases h4:b < c
      ·rw [if_pos (by omega)]
      ·rw [if_neg h4] at h2
       by_cases h5:c < b
       ·rw [if_pos h5] at h2; cases h2
       ·rw [if_neg h5] at h2
        rw [if_neg (by omega),if_neg (by omega)]
        exact ih h h2
def flatM (ms:List (Int × Int)):List Int:=ms.flatMap fun m => [m.1,m.2]
theorem flatM_cons (m:Int × Int) (ms:List (Int × Int)):flatM (m :: ms)=m.1 :: m.2 :: flatM ms:=rfl
theorem flatM_len (ms:List (Int × Int)):(flatM ms).length=2 * ms.length:=by
 induction ms with
 | nil => rfl
 | cons m ms ih => rw [flatM_cons]; simp only [List.length_cons,ih]; omega
def ltM (a b:Int × Int):Prop:=a.1 < b.1 ∨ (a.1=b.1∧a.2 < b.2)
theorem ltM_flat {a b:Int × Int} (h:ltM a b) (l m:List (Int × Int)):ltL (flatM (a :: l)) (flatM (b :: m))=true:=by
 rw [flatM_cons,flatM_cons,ltL]
 rcases h with h | ⟨h1,h2⟩
 ·rw [if_pos h]
 ·rw [if_neg (by omega),if_neg (by omega),ltL,if_pos h2]
theorem span_sorted (a:Int) (n:Nat):(span a n).Pairwise (· < ·):=by
 unfold span
 rw [List.pairwise_map]
 exact List.pairwise_lt_range.imp (fun h => by omega)
theorem upto_sorted (n:Nat):(upto n).Pairwise (· < ·):=by
 unfold upto
 rw [List.pairwise_map]
 exact List.pairwise_lt_range.imp (fun h => by omega)
theorem choicesZ_sorted (b:Bat) (l:Int):(choicesZ b l).Pairwise (· < ·):=by
 rw [choicesZ_span]
 exact (span_sorted _ _).filter _
theorem Rm.choices_sorted (r:Rm) (i t o:Int):(r.choices i t o).Pairwise (· < ·):=(upto_sorted _).filter _
theorem Pb.moves_sorted (p:Pb) (i:Nat) (lv tm:Int):(p.moves i lv tm).Pairwise ltM:=by
 unfold Pb.moves
 have h1:=choicesZ_sorted p.bat lv
 have h2:=Rm.choices_sorted p.room.valid (i:Int) tm (p.outside.getD i 0)
 generalize p.room.valid.choices (i:Int) tm (p.outside.getD i 0)=H at *
 generalize choicesZ p.bat lv=C at *
 induction C with
 | nil => exact List.Pairwise.nil
 | cons c C ih =>
  rw [List.flatMap_cons,List.pairwise_append]
  refine ⟨?_,ih (List.pairwise_cons.1 h1).2,?_⟩
  ·rw [List.pairwise_map]
   exact h2.imp (fun h => .inr ⟨rfl,h⟩)
  ·intro a ha b hb
   rw [List.mem_map] at ha
   obtain ⟨_,_,rfl⟩:=ha
   rw [List.mem_flatMap] at hb
   obtain ⟨d,hd,hb⟩:=hb
   rw [List.mem_map] at hb
   obtain ⟨_,_,rfl⟩:=hb
   exact .inl ((List.pairwise_cons.1 h1).1 d hd)
theorem Pb.follow_first {p:Pb} (U:List Int) (g:p.t.Good) (r:Nat) (hr:r ≤ 24):∀ lv tm ms,p.path U r lv tm ms=some (p.least U r lv tm)→ms=p.follow U r lv tm ∨ ltL (flatM (p.follow U r lv tm)) (flatM ms)=true:=by
 induction r with
 | zero =>
  intro lv tm ms h
  cases ms with
  | nil => exact .inl rfl
  | cons m ms => simp only [Pb.path] at h; cases h
 | succ r ih =>
  intro lv tm ms h
  have ih:=ih (by omega)
  have hsp:=fun lv tm => Pb.least_spec U g r (by omega) lv tm
  cases ms with
  | nil => simp only [Pb.path] at h; cases h
  | cons m ms =>
   rw [Pb.path] at h
   split at h
   ·rename_i hm
    split at h
    ·cases h
    ·rename_i x hx
     rw [Option.map_eq_some_iff] at h
     obtain ⟨d,hd,he⟩:=h
     have h1:=(hsp x.1 x.2.1).1 ms d hd
     have h2:=Pb.path_bd g hd
     have hne:p.least U r x.1 x.2.1 ≠ worstZ:=by
      have:=(worst_far (by omega) h2).2
      omega
     have h3:=Pb.fold_mem (b:=worstZ) (rest:=p.least U r) hm hx hne
     have h4:p.least U (r+1) lv tm ≤ x.2.2+p.least U r x.1 x.2.1:=h3
     have h5:d=p.least U r x.1 x.2.1:=by omega
     have hg:p.good1 U r lv tm m=true:=by
      unfold Pb.good1
      rw [hx]
      simp only []
      rw [decide_eq_true hne,decide_eq_true (show x.2.2+p.least U r x.1 x.2.1=p.least U (r+1) lv tm by omega)]
      rfl
     rw [Pb.follow]
     cases hf:(p.moves (p.n - (r+1)) lv tm).find? (p.good1 U r lv tm) with
     | none => exact absurd hg (by have:=List.find?_eq_none.1 hf m hm; simpa using this)
     | some a =>
      simp only []
      obtain ⟨ha,l1,l2,hab,hno⟩:=List.find?_eq_some_iff_append.1 hf
      have hso:=Pb.moves_sorted p (p.n - (r+1)) lv tm
      rw [hab] at hso hm
      have ha2:=ha
      unfold Pb.good1 at ha2
      cases hy:p.move U (p.n - (r+1)) lv tm a.1 a.2 with
      | none => rw [hy] at ha2; cases ha2
      | some y =>
       simp only []
       rw [List.mem_append,List.mem_cons] at hm
       rcases hm with hm | rfl | hm
       ·have:=hno m hm
        rw [hg] at this
        cases this
       ·rw [hx] at hy
        injection hy with hy
        subst hy
        rw [h5] at hd
        rcases ih x.1 x.2.1 ms hd with e | e
        ·exact .inl (by rw [e])
        ·right
         rw [flatM_cons,flatM_cons,ltL,if_neg (Int.lt_irrefl _),if_neg (Int.lt_irrefl _),ltL,if_neg (Int.lt_irrefl _),if_neg (Int.lt_irrefl _)]
         exact e
       ·right
        have hlt:=(List.pairwise_cons.1 (List.pairwise_append.1 hso).2.1).1 m hm
        exact ltM_flat hlt _ _
   ·cases h
theorem Pb.mem_moves {p:Pb} {i:Nat} {lv tm c h:Int}:(c,h) ∈ p.moves i lv tm ↔ canZ p.bat lv c=true∧h ∈ p.room.valid.choices (i:Int) tm (p.outside.getD i 0):=by
 unfold Pb.moves
 rw [List.mem_flatMap]
 constructor
 ·rintro ⟨d,hd,hm⟩
  rw [List.mem_map] at hm
  obtain ⟨k,hk,e⟩:=hm
  injection e with e1 e2
  subst e1; subst e2
  exact ⟨mem_choicesZ.1 hd,hk⟩
 ·rintro ⟨h1,h2⟩
  exact ⟨c,mem_choicesZ.2 h1,List.mem_map.2 ⟨h,h2,rfl⟩⟩
theorem Rm.mem_choices {r:Rm} {i t o h:Int}:h ∈ r.choices i t o ↔ 0 ≤ h∧h < ((r.steps+1).toNat:Int)∧r.okAt i (r.step t o h)=true:=by
 unfold Rm.choices
 rw [List.mem_filter,mem_upto]
 exact ⟨fun ⟨⟨a,b⟩,c⟩ => ⟨a,b,c⟩,fun ⟨a,b,c⟩ => ⟨⟨a,b⟩,c⟩⟩
theorem Pb.move_slot {p:Pb} {x:Pn} (g:p.Good) {k:Nat} (hk:k < p.n) :
  p.move (p.uses x) k (p.lv x k) (p.tm x k) (x.charge.getD k 0) (x.heat.getD k 0)=if p.slotErr x k=0 then some (p.lv x (k+1),p.tm x (k+1),p.t.cost k (p.net x k)) else none:=by
 have hk':(k:Int) < (p.t.buy.length:Int):=by have:p.n=p.t.buy.length:=rfl; omega
 have hf:p.t.fits (k:Int) (p.net x k)=wB (p.net x k) (-p.t.fuse) p.t.fuse:=by
  simp only [Tf.fits,Tf.slot]
  simp [g.t,hk']
 have hn:p.netAt (p.uses x) k (p.lv x k) (x.charge.getD k 0) (x.heat.getD k 0)=p.net x k:=rfl
 have ht:p.room.valid.step (p.tm x k) (p.outside.getD k 0) (x.heat.getD k 0)=p.tm x (k+1):=rfl
 have hl:(stepZ p.bat (p.lv x k) (x.charge.getD k 0)).1=p.lv x (k+1):=rfl
 unfold Pb.move Pb.slotErr Pb.slotOk
 rw [hn,ht,hl,hf]
 generalize stepZ p.bat (p.lv x k) (x.charge.getD k 0)=st
 obtain ⟨a,b,c⟩:=st
 simp only []
 by_cases h1:c=0
 ·have n1:¬ (c ≠ 0):=fun e => e h1
  rw [if_neg n1,if_neg n1]
  cases h2:p.room.valid.okAt (k:Int) (p.tm x (k+1))
  ·simp
  ·cases h3:wB (p.net x k) (-p.t.fuse) p.t.fuse
   ·simp
   ·simp
 ·rw [if_pos h1,if_pos h1,if_neg h1]
theorem Pb.move_mem {p:Pb} {x:Pn} {k:Nat} (h:p.slotErr x k=0) (h0:0 ≤ x.heat.getD k 0) (h1:x.heat.getD k 0 ≤ p.room.valid.steps):(x.charge.getD k 0,x.heat.getD k 0) ∈ p.moves k (p.lv x k) (p.tm x k):=by
 obtain ⟨a,b,_⟩:=Pb.slot_zero h
 rw [Pb.mem_moves,Rm.mem_choices]
 exact ⟨by unfold canZ; rw [decide_eq_true_iff]; exact a,h0,by omega,b⟩
def Pn.ways (x:Pn):List (Int × Int):=x.charge.zip x.heat
theorem Pn.ways_drop {x:Pn} {n k:Nat} (h1:x.charge.length=n) (h2:x.heat.length=n) (hk:k < n):x.ways.drop k=(x.charge.getD k 0,x.heat.getD k 0) :: x.ways.drop (k+1):=by
 have hl:k < x.ways.length:=by unfold Pn.ways; rw [List.length_zip]; omega
 rw [List.drop_eq_getElem_cons hl]
 have e:x.ways[k]=(x.charge[k]'(by omega),x.heat[k]'(by omega)):=List.getElem_zip
 rw [e]
 simp [List.getD,show k < x.charge.length by omega,show k < x.heat.length by omega]
theorem Pb.path_of_err {p:Pb} {x:Pn} (h:p.err x=0) (r:Nat) (hr:r ≤ p.n) :
  p.path (p.uses x) r (p.lv x (p.n - r)) (p.tm x (p.n - r)) (x.ways.drop (p.n - r))=some (p.t.totalTo (p.nets x p.n) p.n - p.t.totalTo (p.nets x p.n) (p.n - r)):=by
 obtain ⟨hc,hf,he⟩:=Pb.err_zero h
 have g:=Pb.good hc
 obtain ⟨hs,_,hh⟩:=Pb.form_good hf
 obtain ⟨e1,e2,_⟩:=Pb.sized_yes hs
 have hst:=(Rm.good (Pb.room_ok g).1).s0
 have hrv:=(Pb.room_ok g).2.2.2
 induction r with
 | zero =>
  rw [Nat.sub_zero,List.drop_eq_nil_of_le (by unfold Pn.ways; rw [List.length_zip]; omega),Pb.path]
  congr 1; omega
 | succ r ih =>
  have ih:=ih (by omega)
  have hk:p.n - (r+1) < p.n:=by omega
  have hk1:p.n - (r+1)+1=p.n - r:=by omega
  have hz:=(Pb.errTo_each he hk).2
  have hb:=allB_getD hh (Int.le_refl _) hst (p.n - (r+1))
  rw [Pn.ways_drop e1 e2 hk,Pb.path,if_pos (Pb.move_mem hz hb.1 (by rw [hrv]; exact hb.2)),Pb.move_slot g hk,if_pos hz]
  simp only []
  rw [hk1,ih,Option.map_some]
  congr 1
  have e:p.t.totalTo (p.nets x p.n) (p.n - r)=p.t.totalTo (p.nets x p.n) (p.n - (r+1))+p.t.cost (p.n - (r+1)) (p.net x (p.n - (r+1))):=by
   rw [← hk1,Tf.totalTo_succ]
   congr 2
   simp [Pb.nets,List.getD,hk]
  rw [e]
  omega
theorem Pb.cost_total {p:Pb} {x:Pn} (h:p.err x=0):(p.trace x).cost=p.t.totalTo (p.nets x p.n) p.n:=by
 rw [Pb.trace_ok h]
 show p.t.total (p.nets x p.n)=_
 unfold Tf.total
 rw [if_pos (Pb.good (Pb.err_zero h).1).t,Pb.nets_len]
 congr 1
 exact Nat.min_self _
theorem Pb.path_whole {p:Pb} {x:Pn} (h:p.err x=0):p.path (p.uses x) p.n p.level p.temp x.ways=some (p.trace x).cost:=by
 have:=Pb.path_of_err h p.n (Nat.le_refl _)
 rw [Nat.sub_self,List.drop_zero,Tf.totalTo_zero] at this
 rw [Pb.cost_total h]
 simpa [Pb.lv,Pb.tm] using this
theorem Pb.slots_of_path {p:Pb} {x:Pn} (g:p.Good) (e1:x.charge.length=p.n) (e2:x.heat.length=p.n) (r:Nat) (hr:r ≤ p.n) {c:Int}
  (h:p.path (p.uses x) r (p.lv x (p.n - r)) (p.tm x (p.n - r)) (x.ways.drop (p.n - r))=some c):∀ k,p.n - r ≤ k→k < p.n→p.slotErr x k=0∧0 ≤ x.heat.getD k 0∧x.heat.getD k 0 ≤ p.room.steps:=by
 have hrv:=(Pb.room_ok g).2.2.2
 have hst:=(Rm.good (Pb.room_ok g).1).s0
 induction r generalizing c with
 | zero => intro k h1 h2; omega
 | succ r ih =>
  have hk:p.n - (r+1) < p.n:=by omega
  have hk1:p.n - (r+1)+1=p.n - r:=by omega
  rw [Pn.ways_drop e1 e2 hk,Pb.path] at h
  split at h
  ·rename_i hm
   rw [Pb.move_slot g hk] at h
   by_cases hz:p.slotErr x (p.n - (r+1))=0
   ·rw [if_pos hz] at h
    simp only [] at h
    rw [Option.map_eq_some_iff] at h
    obtain ⟨d,hd,_⟩:=h
    rw [hk1] at hd
    have ih:=ih (by omega) hd
    intro k h1 h2
    by_cases e:k=p.n - (r+1)
    ·subst e
     have:=(Pb.mem_moves.1 hm).2
     rw [Rm.mem_choices,hrv] at this
     exact ⟨hz,this.1,by omega⟩
    ·exact ih k (by omega) h2
   ·rw [if_neg hz] at h
    cases h
  ·cases h
theorem Pb.errTo_all {p:Pb} {x:Pn} {n:Nat} (h:∀ k,k < n→p.slotErr x k=0):p.errTo x n=0:=by
 induction n with
 | zero => rfl
 | succ n ih => exact Pb.errTo_go (ih fun k hk => h k (by omega)) (h n (by omega))
theorem Pb.err_of_path {p:Pb} {x:Pn} {c:Int} (hc:p.chk=0) (hs:p.sized x=true) (hf:p.fitsTo x p.loads.length=true) (h:p.path (p.uses x) p.n p.level p.temp x.ways=some c):p.err x=0∧(p.trace x).cost=c:=by
 have g:=Pb.good hc
 obtain ⟨e1,e2,_⟩:=Pb.sized_yes hs
 have ha:=Pb.slots_of_path g e1 e2 p.n (Nat.le_refl _) (c:=c) (by rw [Nat.sub_self,List.drop_zero]; exact h)
 have hh:allB x.heat 0 p.room.steps=true:=by
  unfold allB
  rw [List.all_eq_true]
  intro z hz
  rw [List.mem_iff_getElem] at hz
  obtain ⟨k,hk,rfl⟩:=hz
  have:=(ha k (by omega) (by omega)).2
  rw [show x.heat.getD k 0=x.heat[k] by simp [List.getD,hk]] at this
  exact wB_true.2 this
 have he:p.err x=0:=by
  rw [Pb.err_run hc (Pb.form_ok hs hf hh)]
  exact Pb.errTo_all fun k hk => (ha k (by omega) hk).1
 refine ⟨he,?_⟩
 have:=Pb.path_whole he
 rw [h] at this
 injection this with this
 exact this.symm
def startsN (ls:List Ld) (n:Int):Nat→List (List Int)
 | 0 => [[]]
 | k+1 => (startsN ls n k).flatMap fun b => ((ls.getD k Ld.zero).starts n).map fun s => b ++ [s]
theorem mem_startsN {ls:List Ld} {n:Int} {k:Nat} {l:List Int}:l ∈ startsN ls n k ↔ l.length=k∧∀ i,i < k→(ls.getD i Ld.zero).fit (l.getD i 0) n=true:=by
 induction k generalizing l with
 | zero =>
  rw [startsN,List.mem_singleton]
  constructor
  ·rintro rfl; exact ⟨rfl,fun i hi => by omega⟩
  ·exact fun h => List.eq_nil_of_length_eq_zero h.1
 | succ k ih =>
  rw [startsN,List.mem_flatMap]
  constructor
  ·rintro ⟨b,hb,hl⟩
   rw [List.mem_map] at hl
   obtain ⟨s,hs,rfl⟩:=hl
   obtain ⟨h1,h2⟩:=ih.1 hb
   refine ⟨by simp [h1],fun i hi => ?_⟩
   by_cases e:i=k
   ·subst e
    rw [show (b ++ [s]).getD i 0=s by simp [List.getD, ← h1],Ld.fit_mem,decide_eq_true_iff]
    exact hs
   ·have hi2:i < b.length:=by omega
    rw [show (b ++ [s]).getD i 0=b.getD i 0 by simp only [List.getD,List.getElem?_append_left hi2]]
    exact h2 i (by omega)
  ·rintro ⟨h1,h2⟩
   have hk:k < l.length:=by omega
   refine ⟨l.take k,ih.2 ⟨by rw [List.length_take]; omega,fun i hi => ?_⟩,?_⟩
   ·rw [show (l.take k).getD i 0=l.getD i 0 by simp only [List.getD,List.getElem?_take]; rw [if_pos hi]]
    exact h2 i (by omega)
   ·rw [List.mem_map]
    have h3:=h2 k (by omega)
    rw [Ld.fit_mem,decide_eq_true_iff,show l.getD k 0=l[k] by simp [List.getD,hk]] at h3
    refine ⟨l[k],h3,?_⟩
    rw [← List.take_succ_eq_append_getElem hk,List.take_of_length_le (by omega)]
theorem seqFrom_sorted (a:Int) (k:Nat):(seqFrom a k).Pairwise (· < ·):=by
 unfold seqFrom
 rw [List.pairwise_map]
 exact List.pairwise_lt_range.imp (fun h => by omega)
theorem Ld.starts_sorted (r:Ld) (n:Int):(r.starts n).Pairwise (· < ·):=by
 unfold Ld.starts
 split
 ·exact seqFrom_sorted _ _
 ·exact List.Pairwise.nil
theorem startsN_sorted (ls:List Ld) (n:Int) (k:Nat):(startsN ls n k).Pairwise fun a b => ltL a b=true:=by
 induction k with
 | zero => exact List.pairwise_singleton _ _
 | succ k ih =>
  rw [startsN]
  have hs:=Ld.starts_sorted (ls.getD k Ld.zero) n
  have hlen:∀ b ∈ startsN ls n k,b.length=k:=fun b hb => (mem_startsN.1 hb).1
  generalize (ls.getD k Ld.zero).starts n=S at *
  generalize startsN ls n k=L at *
  induction L with
  | nil => exact List.Pairwise.nil
  | cons b L ihL =>
   rw [List.flatMap_cons,List.pairwise_append]
   refine ⟨?_,ihL (List.pairwise_cons.1 ih).2 (fun c hc => hlen c (List.mem_cons_of_mem _ hc)),?_⟩
   ·rw [List.pairwise_map]
    refine hs.imp (fun h => ?_)
    rw [ltL_same,ltL,if_pos h]
   ·intro x hx y hy
    rw [List.mem_map] at hx
    obtain ⟨s,_,rfl⟩:=hx
    rw [List.mem_flatMap] at hy
    obtain ⟨c,hc,hy⟩:=hy
    rw [List.mem_map] at hy
    obtain ⟨t,_,rfl⟩:=hy
    exact ltL_append ((List.pairwise_cons.1 ih).1 c hc) (by rw [hlen b List.mem_cons_self,hlen c (List.mem_cons_of_mem _ hc)]) _ _
def Pb.leastOf (p:Pb) (l:List Int):Int:=p.least (usesL p.loads l p.n) p.n p.level p.temp
def Pb.planOf (p:Pb) (l:List Int):Pn:=⟨(p.follow (usesL p.loads l p.n) p.n p.level p.temp).map (·.1),(p.follow (usesL p.loads l p.n) p.n p.level p.temp).map (·.2),l⟩
def Pb.pick1 (p:Pb) (acc:Int × Pn) (l:List Int):Int × Pn:=if p.leastOf l < acc.1 then (p.leastOf l,p.planOf l) else acc
def Pb.search (p:Pb) (ls:List (List Int)):Int × Pn:=ls.foldl p.pick1 (worstZ,Pn.zero)
def Pn.list (x:Pn):List Int:=x.start ++ flatM x.ways
theorem Pb.search_inv {p:Pb} (ls:List (List Int)) (hs:ls.Pairwise fun a b => ltL a b=true) (hw:∀ l ∈ ls,p.leastOf l=worstZ ∨ p.leastOf l < worstZ) :
  (p.search ls=(worstZ,Pn.zero)∧∀ l ∈ ls,p.leastOf l=worstZ) ∨
  ∃ l ∈ ls,p.search ls=(p.leastOf l,p.planOf l)∧p.leastOf l < worstZ∧∀ m ∈ ls,p.leastOf l < p.leastOf m ∨ (p.leastOf l=p.leastOf m∧(l=m ∨ ltL l m=true)):=by
 have key:∀ k,k ≤ ls.length→((p.search (ls.take k)=(worstZ,Pn.zero)∧∀ l ∈ ls.take k,p.leastOf l=worstZ) ∨
   ∃ l ∈ ls.take k,p.search (ls.take k)=(p.leastOf l,p.planOf l)∧p.leastOf l < worstZ∧∀ m ∈ ls.take k,p.leastOf l < p.leastOf m ∨ (p.leastOf l=p.leastOf m∧(l=m ∨ ltL l m=true))):=by
  intro k
  induction k with
  | zero => intro _; exact .inl ⟨rfl,by simp⟩
  | succ k ih =>
   intro hk
   have hk':k < ls.length:=by omega
   have e:p.search (ls.take (k+1))=p.pick1 (p.search (ls.take k)) ls[k]:=by
    unfold Pb.search
    rw [List.take_succ_eq_append_getElem hk',List.foldl_append]
    rfl
   rw [e,List.take_succ_eq_append_getElem hk']
   have hwk:=hw _ (List.getElem_mem hk')
   rcases ih (by omega) with ⟨h1,h2⟩ | ⟨l,hl,h1,h2,h3⟩
   ·rw [h1]
    unfold Pb.pick1
    by_cases hc:p.leastOf ls[k] < worstZ
    ·right
     refine ⟨ls[k],List.mem_append_right _ (by simp),by rw [if_pos hc],hc,?_⟩
     intro m hm
     rw [List.mem_append,List.mem_singleton] at hm
     rcases hm with hm | rfl
     ·left; rw [h2 m hm]; exact hc
     ·exact .inr ⟨rfl,.inl rfl⟩
    ·left
     refine ⟨by rw [if_neg hc],?_⟩
     intro m hm
     rw [List.mem_append,List.mem_singleton] at hm
     rcases hm with hm | rfl
     ·exact h2 m hm
     ·rcases hwk with hwk | hwk
      ·exact hwk
      ·exact absurd hwk hc
   ·right
    rw [h1]
    unfold Pb.pick1
    by_cases hc:p.leastOf ls[k] < p.leastOf l
    ·refine ⟨ls[k],List.mem_append_right _ (by simp),by rw [if_pos hc],by omega,?_⟩
     intro m hm
     rw [List.mem_append,List.mem_singleton] at hm
     rcases hm with hm | rfl
     ·left; rcases h3 m hm with h | h <;> omega
     ·exact .inr ⟨rfl,.inl rfl⟩
    ·refine ⟨l,List.mem_append_left _ hl,by rw [if_neg hc],h2,?_⟩
     intro m hm
     rw [List.mem_append,List.mem_singleton] at hm
     rcases hm with hm | rfl
     ·exact h3 m hm
     ·by_cases he:p.leastOf l=p.leastOf ls[k]
      ·right
       refine ⟨he,.inr ?_⟩
       rw [List.mem_iff_getElem] at hl
       obtain ⟨i,hi,rfl⟩:=hl
       rw [List.length_take] at hi
       rw [List.getElem_take]
       exact List.pairwise_iff_getElem.1 hs i k (by omega) hk' (by omega)
      ·left; omega
 have:=key ls.length (Nat.le_refl _)
 rwa [List.take_length] at this
theorem Pb.fits_startsN {p:Pb} {x:Pn}:x.start ∈ startsN p.loads p.n p.loads.length ↔ x.start.length=p.loads.length∧p.fitsTo x p.loads.length=true:=by
 rw [mem_startsN]
 unfold Pb.fitsTo
 rw [List.all_eq_true]
 constructor
 ·exact fun h => ⟨h.1,fun i hi => h.2 i (List.mem_range.1 hi)⟩
 ·exact fun h => ⟨h.1,fun i hi => h.2 i (List.mem_range.2 hi)⟩
theorem Pb.uses_of (p:Pb) (x:Pn):p.uses x=usesL p.loads x.start p.n:=rfl
theorem zip_maps (ms:List (Int × Int)):(ms.map (·.1)).zip (ms.map (·.2))=ms:=by
 induction ms with
 | nil => rfl
 | cons m ms ih => rw [List.map_cons,List.map_cons,List.zip_cons_cons,ih]
theorem Pn.eq_of_ways {x y:Pn} {n:Nat} (h1:x.charge.length=n) (h2:x.heat.length=n) (h3:y.charge.length=n) (h4:y.heat.length=n) (hw:x.ways=y.ways) (hs:x.start=y.start):x=y:=by
 have a:∀ (z:Pn),z.charge.length=n→z.heat.length=n→z.ways.map (·.1)=z.charge∧z.ways.map (·.2)=z.heat:=fun z q1 q2 =>
  ⟨List.map_fst_zip (by omega),List.map_snd_zip (by omega)⟩
 obtain ⟨c1,c2⟩:=a x h1 h2
 obtain ⟨d1,d2⟩:=a y h3 h4
 have e1:x.charge=y.charge:=by rw [← c1, ← d1,hw]
 have e2:x.heat=y.heat:=by rw [← c2, ← d2,hw]
 obtain ⟨a1,a2,a3⟩:=x
 obtain ⟨b1,b2,b3⟩:=y
 have e1:a1=b1:=e1
 have e2:a2=b2:=e2
 have e3:a3=b3:=hs
 rw [e1,e2,e3]
theorem Pb.search_spec {p:Pb} (hc:p.chk=0) (h24:p.n ≤ 24) :
  (p.search (startsN p.loads p.n p.loads.length)=(worstZ,Pn.zero)∧∀ x,p.err x ≠ 0) ∨
  ∃ b:Pn,p.search (startsN p.loads p.n p.loads.length)=((p.trace b).cost,b)∧(p.trace b).cost < worstZ∧p.err b=0 ∧
   ∀ x,p.err x=0→(p.trace b).cost < (p.trace x).cost ∨ ((p.trace b).cost=(p.trace x).cost∧(b=x ∨ ltL b.list x.list=true)):=by
 have g:=Pb.good hc
 have gt:=Tf.good g.t
 have hlo:=fun (x:Pn) (hx:p.err x=0) => by
  have h1:=Pb.path_whole hx
  rw [Pb.uses_of] at h1
  exact (Pb.least_spec (usesL p.loads x.start p.n) gt p.n h24 p.level p.temp).1 x.ways _ h1
 have hin:=fun (x:Pn) (hx:p.err x=0) => by
  obtain ⟨_,hf,_⟩:=Pb.err_zero hx
  obtain ⟨hs,hfit,_⟩:=Pb.form_good hf
  exact Pb.fits_startsN.2 ⟨(Pb.sized_yes hs).2.2,hfit⟩
 have hbd:=fun l => Pb.least_bd (p:=p) (usesL p.loads l p.n) gt p.n h24 p.level p.temp
 have hinv:=Pb.search_inv (p:=p) (startsN p.loads p.n p.loads.length) (startsN_sorted _ _ _) (fun l _ => by
  rcases hbd l with h | h
  ·exact .inl h
  ·exact .inr (worst_far h24 h).2)
 rcases hinv with ⟨h1,h2⟩ | ⟨l,hl,h1,h2,h3⟩
 ·left
  refine ⟨h1,fun x hx => ?_⟩
  have h4:=h2 _ (hin x hx)
  have h5:=hlo x hx
  have h6:=Pb.path_bd gt (by have:=Pb.path_whole hx; exact this)
  have h7:=(worst_far h24 h6).2
  unfold Pb.leastOf at h4
  omega
 ·right
  have hne:p.least (usesL p.loads l p.n) p.n p.level p.temp ≠ worstZ:=by unfold Pb.leastOf at h2; omega
  have hp:=(Pb.least_spec (usesL p.loads l p.n) gt p.n h24 p.level p.temp).2 hne
  have hlen:=Pb.follow_len hp
  have hsz:p.sized (p.planOf l)=true:=by
   simp only [Pb.sized,Pb.planOf,List.length_map,hlen,decide_eq_true_iff]
   exact ⟨trivial,trivial,(mem_startsN.1 hl).1⟩
  have hft:p.fitsTo (p.planOf l) p.loads.length=true:=(Pb.fits_startsN (x:=p.planOf l)).1 hl |>.2
  have hw:(p.planOf l).ways=p.follow (usesL p.loads l p.n) p.n p.level p.temp:=zip_maps _
  have hE:=Pb.err_of_path (p:=p) (x:=p.planOf l) (c:=p.leastOf l) hc hsz hft (by rw [hw]; exact hp)
  refine ⟨p.planOf l,by rw [h1,hE.2],by rw [hE.2]; exact h2,hE.1,?_⟩
  intro x hx
  rw [hE.2]
  have h5:p.leastOf x.start ≤ (p.trace x).cost:=hlo x hx
  rcases h3 _ (hin x hx) with h6 | ⟨h6,h7⟩
  ·left; omega
  ·by_cases h8:p.leastOf l=(p.trace x).cost
   ·right
    refine ⟨h8,?_⟩
    rcases h7 with h7 | h7
    ·have h9:=Pb.path_whole hx
     rw [Pb.uses_of, ← h7, ← h8] at h9
     obtain ⟨_,hf,_⟩:=Pb.err_zero hx
     obtain ⟨e1,e2,e3⟩:=Pb.sized_yes (Pb.form_good hf).1
     obtain ⟨d1,d2,d3⟩:=Pb.sized_yes hsz
     rcases Pb.follow_first (usesL p.loads l p.n) gt p.n h24 p.level p.temp x.ways h9 with h10 | h10
     ·exact .inl (Pn.eq_of_ways d1 d2 e1 e2 (by rw [hw,h10]) h7)
     ·right
      unfold Pn.list
      rw [show (p.planOf l).start=x.start from h7,ltL_same,hw]
      exact h10
    ·right
     unfold Pn.list
     exact ltL_append h7 (by
      obtain ⟨_,hf,_⟩:=Pb.err_zero hx
      have:=(Pb.sized_yes (Pb.form_good hf).1).2.2
      rw [this,(mem_startsN.1 hl).1]) _ _
   ·left; omega
def Pb.lim (p:Pb):Bool:=decide (p.n ≤ 24) && (decide (p.bat.cap ≤ 20) && (decide (p.room.steps ≤ 8) && decide (p.loads.length ≤ 2)))
def Pb.sought (p:Pb):Int × Pn:=p.search (startsN p.loads p.n p.loads.length)
def Pb.best (p:Pb):Pn:=if p.chk ≠ 0 then Pn.zero else if p.lim=false then Pn.zero else p.sought.2
def Pb.bestE (p:Pb):Int:=if p.chk ≠ 0 then p.chk else if p.lim=false then 3 else if p.sought.1=worstZ then 20 else 0
theorem Pb.best_chk {p:Pb} (h:p.chk ≠ 0):p.best=Pn.zero∧p.bestE=p.chk:=by unfold Pb.best Pb.bestE; rw [if_pos h,if_pos h]; exact ⟨rfl,rfl⟩
theorem Pb.best_lim {p:Pb} (h:p.chk=0) (h2:p.lim=false):p.best=Pn.zero∧p.bestE=3:=by
 have hn:¬ p.chk ≠ 0:=fun e => e h
 unfold Pb.best Pb.bestE; rw [if_neg hn,if_neg hn,if_pos h2,if_pos h2]; exact ⟨rfl,rfl⟩
theorem Pb.best_run {p:Pb} (h:p.chk=0) (h2:p.lim=true):p.best=p.sought.2∧p.bestE=if p.sought.1=worstZ then 20 else 0:=by
 have h3:¬ p.lim=false:=by rw [h2]; decide
 have hn:¬ p.chk ≠ 0:=fun e => e h
 unfold Pb.best Pb.bestE; rw [if_neg hn,if_neg hn,if_neg h3,if_neg h3]; exact ⟨rfl,rfl⟩
def Pb.better (p:Pb) (a b:Pn):Bool :=
 if p.err a ≠ 0 then false else if p.err b ≠ 0 then true else if (p.trace a).cost < (p.trace b).cost then true else if (p.trace b).cost < (p.trace a).cost then false else ltL a.list b.list
theorem Pb.better_irrefl (p:Pb) (a:Pn):p.better a a=false:=by
 unfold Pb.better
 by_cases h:p.err a ≠ 0
 ·rw [if_pos h]
 ·rw [if_neg h,if_neg h,if_neg (Int.lt_irrefl _),if_neg (Int.lt_irrefl _)]
  exact ltL_irrefl _
theorem Pb.lim24 {p:Pb} (h:p.lim=true):p.n ≤ 24:=by
 unfold Pb.lim at h
 simp only [Bool.and_eq_true,decide_eq_true_iff] at h
 exact h.1
theorem Pb.best_none {p:Pb} (h:p.bestE=20) (hc:p.chk=0) (x:Pn):p.err x ≠ 0:=by
 by_cases hl:p.lim=true
 ·rw [(Pb.best_run hc hl).2] at h
  rcases Pb.search_spec hc (Pb.lim24 hl) with h1 | ⟨b,h1,h2,h3,h4⟩
  ·exact h1.2 x
  ·unfold Pb.sought at h
   rw [h1,if_neg (show ¬ (p.trace b).cost=worstZ by omega)] at h
   cases h
 ·rw [(Pb.best_lim hc (by simpa using hl)).2] at h
  cases h
theorem Pb.best_top {p:Pb} (h:p.bestE=0):p.chk=0∧p.lim=true∧p.err p.best=0∧p.sought.1=(p.trace p.best).cost ∧
  ∀ x,p.err x=0→(p.trace p.best).cost < (p.trace x).cost ∨ ((p.trace p.best).cost=(p.trace x).cost∧(p.best=x ∨ ltL p.best.list x.list=true)):=by
 by_cases hc:p.chk=0
 ·by_cases hl:p.lim=true
  ·obtain ⟨e1,e2⟩:=Pb.best_run hc hl
   rw [e2] at h
   rcases Pb.search_spec hc (Pb.lim24 hl) with h1 | ⟨b,h1,h2,h3,h4⟩
   ·unfold Pb.sought at h
    rw [h1.1,if_pos rfl] at h
    cases h
   ·have hb:p.best=b:=by rw [e1]; unfold Pb.sought; rw [h1]
    rw [hb]
    refine ⟨hc,hl,h3,by unfold Pb.sought; rw [h1],h4⟩
  ·rw [(Pb.best_lim hc (by simpa using hl)).2] at h
   cases h
 ·rw [(Pb.best_chk hc).2] at h
  exact absurd h hc
theorem Pb.bestE_cases {p:Pb} (h:p.chk=0) (hl:p.lim=true):p.bestE=0 ∨ p.bestE=20:=by
 rw [(Pb.best_run h hl).2]
 split
 ·exact .inr rfl
 ·exact .inl rfl
end Go.Proofs.YtnppngaabfhkpaaGreat
