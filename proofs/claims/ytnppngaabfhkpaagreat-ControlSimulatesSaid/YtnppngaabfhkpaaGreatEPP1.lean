/-
  The plain mathematics of tariffs (layer 38) and plans (layer 42). No program in sight.
-/
import Derived.Test.YtnppngaabfhkpaaGreatEBPlain
namespace Go.Proofs.YtnppngaabfhkpaaGreat
def allB (l:List Int) (lo hi:Int):Bool:=l.all fun x => wB x lo hi
theorem allB_bd {l:List Int} {lo hi:Int} (h:allB l lo hi=true) {i:Nat} (hi':i < l.length):lo ≤ l[i]∧l[i] ≤ hi:=by
 unfold allB at h
 rw [List.all_eq_true] at h
 exact wB_true.1 (h _ (List.getElem_mem hi'))
theorem allB_hit {l:List Int} {lo hi:Int} {k:Nat} (hk:k < l.length) (hb:wB l[k] lo hi=false):allB l lo hi=false:=by
 rw [← Bool.not_eq_true]
 unfold allB
 rw [List.all_eq_true]
 intro hh
 rw [hh _ (List.getElem_mem hk)] at hb
 cases hb
theorem allB_take {l:List Int} {lo hi:Int} {k:Nat} (hk:k < l.length) (h:allB (l.take k) lo hi=true) (hb:wB l[k] lo hi=true):allB (l.take (k+1)) lo hi=true:=by
 unfold allB at *
 rw [List.take_succ_eq_append_getElem hk,List.all_append,h]
 simp [hb]
theorem allB_end {l:List Int} {lo hi:Int} {k:Nat} (h:allB (l.take k) lo hi=true) (hk:l.length ≤ k):allB l lo hi=true:=by
 rwa [List.take_of_length_le hk] at h
structure Tf where
 buy:List Int
 sell:List Int
 fuse:Int
def Tf.lim (t:Tf):Bool:=decide (1 ≤ t.buy.length∧t.buy.length ≤ 96∧t.sell.length=t.buy.length)
def Tf.nums (t:Tf):Bool:=allB t.buy 0 1000000 && (allB t.sell 0 1000000 && wB t.fuse 1 1000)
def Tf.orderTo (t:Tf) (k:Nat):Bool:=(List.range k).all fun i => decide (t.sell.getD i 0 ≤ t.buy.getD i 0)
theorem Tf.orderTo_succ (t:Tf) (k:Nat):t.orderTo (k+1)=(t.orderTo k && decide (t.sell.getD k 0 ≤ t.buy.getD k 0)):=by
 simp [Tf.orderTo,List.range_succ,List.all_append]
theorem Tf.orderTo_le {t:Tf} {k m:Nat} (h:t.orderTo k=false) (hm:k ≤ m):t.orderTo m=false:=by
 rw [← Bool.not_eq_true] at h ⊢
 simp only [Tf.orderTo,List.all_eq_true,List.mem_range] at h ⊢
 exact fun g => h fun i hi => g i (by omega)
def Tf.chk (t:Tf):Int:=if t.lim=true then (if t.nums=true then (if t.orderTo t.buy.length=true then 0 else 4) else 2) else 3
theorem Tf.chk_lim {t:Tf} (h:t.lim=false):t.chk=3:=by unfold Tf.chk; rw [if_neg (by simp [h])]
theorem Tf.chk_nums {t:Tf} (h:t.lim=true) (h2:t.nums=false):t.chk=2:=by unfold Tf.chk; rw [if_pos h,if_neg (by simp [h2])]
theorem Tf.chk_order {t:Tf} (h:t.lim=true) (h2:t.nums=true) (h3:t.orderTo t.buy.length=false):t.chk=4:=by unfold Tf.chk; rw [if_pos h,if_pos h2,if_neg (by simp [h3])]
theorem Tf.chk_ok {t:Tf} (h:t.lim=true) (h2:t.nums=true) (h3:t.orderTo t.buy.length=true):t.chk=0:=by unfold Tf.chk; rw [if_pos h,if_pos h2,if_pos h3]
structure Tf.Good (t:Tf):Prop where
 n0:1 ≤ t.buy.length
 n1:t.buy.length ≤ 96
 len:t.sell.length=t.buy.length
 b:∀ i,0 ≤ t.buy.getD i 0∧t.buy.getD i 0 ≤ 1000000
 s:∀ i,0 ≤ t.sell.getD i 0∧t.sell.getD i 0 ≤ 1000000
 f0:1 ≤ t.fuse
 f1:t.fuse ≤ 1000
theorem allB_getD {l:List Int} {lo hi:Int} (h:allB l lo hi=true) (h0:lo ≤ 0) (h1:0 ≤ hi) (i:Nat):lo ≤ l.getD i 0∧l.getD i 0 ≤ hi:=by
 by_cases hi':i < l.length
 ·have:=allB_bd h hi'
  simpa [List.getD,hi'] using this
 ·simp [List.getD,List.getElem?_eq_none (Nat.le_of_not_lt hi'),h0,h1]
theorem Tf.good {t:Tf} (h:t.chk=0):t.Good:=by
 unfold Tf.chk at h
 split at h
 ·rename_i hl
  split at h
  ·rename_i hn
   simp only [Tf.lim,decide_eq_true_eq] at hl
   simp only [Tf.nums,Bool.and_eq_true,wB_true] at hn
   exact ⟨hl.1,hl.2.1,hl.2.2,allB_getD hn.1 (by omega) (by omega),allB_getD hn.2.1 (by omega) (by omega),hn.2.2.1,hn.2.2.2⟩
  ·cases h
 ·cases h
def limP (n:Int):Int:=if n < -1000 then -1000 else if 1000 < n then 1000 else n
theorem limP_bd (n:Int) : -1000 ≤ limP n∧limP n ≤ 1000:=by unfold limP; split <;> (try split) <;> omega
def amountZ (b s net:Int):Int:=if limP net < 0 then limP net * s else limP net * b
theorem mulP {x y:Int} (h0 : -1000 ≤ x) (h1:x ≤ 1000) (g0:0 ≤ y) (g1:y ≤ 1000000) : -1000000000 ≤ x * y∧x * y ≤ 1000000000:=by
 constructor
 ·have h:(-1000) * 1000000 ≤ x * y:=by
   rcases Int.le_total 0 x with hx | hx
   ·have:=Int.mul_nonneg hx g0; omega
   ·have h2:(-x) * y ≤ 1000 * 1000000:=Int.mul_le_mul (by omega) g1 g0 (by omega)
    rw [Int.neg_mul] at h2; omega
  omega
 ·rcases Int.le_total 0 x with hx | hx
  ·have h2:x * y ≤ 1000 * 1000000:=Int.mul_le_mul h1 g1 g0 (by omega)
   omega
  ·have h2:0 ≤ (-x) * y:=Int.mul_nonneg (by omega) g0
   rw [Int.neg_mul] at h2; omega
theorem amountZ_bd {b s:Int} (hb:0 ≤ b) (hb1:b ≤ 1000000) (hs:0 ≤ s) (hs1:s ≤ 1000000) (net:Int) : -1000000000 ≤ amountZ b s net∧amountZ b s net ≤ 1000000000:=by
 have:=limP_bd net
 unfold amountZ
 split
 ·exact mulP this.1 this.2 hs hs1
 ·exact mulP this.1 this.2 hb hb1
def Tf.cost (t:Tf) (i:Nat) (net:Int):Int:=amountZ (t.buy.getD i 0) (t.sell.getD i 0) net
def Tf.totalTo (t:Tf) (l:List Int) (k:Nat):Int:=sumZ ((List.range k).map fun i => t.cost i (l.getD i 0))
theorem Tf.totalTo_zero (t:Tf) (l:List Int):t.totalTo l 0=0:=by simp [Tf.totalTo,sumZ]
theorem Tf.totalTo_succ (t:Tf) (l:List Int) (k:Nat):t.totalTo l (k+1)=t.totalTo l k+t.cost k (l.getD k 0):=by
 simp [Tf.totalTo,List.range_succ,sumZ_append,sumZ]
theorem Tf.cost_bd {t:Tf} (h:t.Good) (i:Nat) (net:Int) : -1000000000 ≤ t.cost i net∧t.cost i net ≤ 1000000000 :=
 amountZ_bd (h.b i).1 (h.b i).2 (h.s i).1 (h.s i).2 net
theorem Tf.totalTo_bd {t:Tf} (h:t.Good) (l:List Int) (k:Nat) : -1000000000 * (k:Int) ≤ t.totalTo l k∧t.totalTo l k ≤ 1000000000 * (k:Int):=by
 induction k with
 | zero => rw [Tf.totalTo_zero]; omega
 | succ k ih =>
  rw [Tf.totalTo_succ]
  have:=Tf.cost_bd h k (l.getD k 0)
  omega
def Tf.total (t:Tf) (l:List Int):Int:=if t.chk=0 then t.totalTo l (min l.length t.buy.length) else 0
structure Pb where
 t:Tf
 solar:List Int
 demand:List Int
 outside:List Int
 bat:Bat
 room:Rm
 loads:List Ld
 level:Int
 temp:Int
def Pb.n (p:Pb):Nat:=p.t.buy.length
def Pb.lens (p:Pb):Bool:=decide (p.solar.length=p.n∧p.demand.length=p.n∧p.outside.length=p.n)
def Pb.nums (p:Pb):Bool:=allB p.solar 0 1000 && (allB p.demand 0 1000 && allB p.outside (-1000) 1000)
def Pb.first (p:Pb):Bool:=wB p.level 0 p.bat.cap && wB p.temp (-1000) 2000
def Pb.chk (p:Pb):Int :=
 if p.t.chk ≠ 0 then p.t.chk else
 if p.lens=false then 3 else
 if p.nums=false then 2 else
 if p.bat.chk ≠ 0 then p.bat.chk else
 if p.room.chk p.n ≠ 0 then p.room.chk p.n else
 if allChk p.loads p.n ≠ 0 then allChk p.loads p.n else
 if p.first=false then 2 else 0
structure Pn where
 charge:List Int
 heat:List Int
 start:List Int
def Pb.sized (p:Pb) (x:Pn):Bool:=decide (x.charge.length=p.n∧x.heat.length=p.n∧x.start.length=p.loads.length)
def Pb.fitsTo (p:Pb) (x:Pn) (k:Nat):Bool:=(List.range k).all fun i => (p.loads.getD i Ld.zero).fit (x.start.getD i 0) p.n
theorem Pb.fitsTo_succ (p:Pb) (x:Pn) (k:Nat):p.fitsTo x (k+1)=(p.fitsTo x k && (p.loads.getD k Ld.zero).fit (x.start.getD k 0) p.n):=by
 simp [Pb.fitsTo,List.range_succ,List.all_append]
theorem Pb.fitsTo_le {p:Pb} {x:Pn} {k m:Nat} (h:p.fitsTo x k=false) (hm:k ≤ m):p.fitsTo x m=false:=by
 rw [← Bool.not_eq_true] at h ⊢
 simp only [Pb.fitsTo,List.all_eq_true,List.mem_range] at h ⊢
 exact fun g => h fun i hi => g i (by omega)
def Pb.form (p:Pb) (x:Pn):Int :=
 if p.sized x=false then 3 else
 if p.fitsTo x p.loads.length=false then 2 else
 if allB x.heat 0 p.room.steps=false then 2 else 0
def Pb.uses (p:Pb) (x:Pn):List Int:=usesL p.loads x.start p.n
def Pb.lv (p:Pb) (x:Pn):Nat→Int
 | 0 => p.level
 | i+1 => (stepZ p.bat (p.lv x i) (x.charge.getD i 0)).1
def Pb.tm (p:Pb) (x:Pn):Nat→Int
 | 0 => p.temp
 | i+1 => p.room.valid.step (p.tm x i) (p.outside.getD i 0) (x.heat.getD i 0)
def Pb.net (p:Pb) (x:Pn) (i:Nat):Int :=
 p.demand.getD i 0+(stepZ p.bat (p.lv x i) (x.charge.getD i 0)).2.1+x.heat.getD i 0 * p.room.power+(p.uses x).getD i 0 - p.solar.getD i 0
def Pb.slotOk (p:Pb) (x:Pn) (i:Nat):Bool:=p.room.valid.okAt (i:Int) (p.tm x (i+1)) && wB (p.net x i) (-p.t.fuse) p.t.fuse
def Pb.slotErr (p:Pb) (x:Pn) (i:Nat):Int :=
 if (stepZ p.bat (p.lv x i) (x.charge.getD i 0)).2.2 ≠ 0 then (stepZ p.bat (p.lv x i) (x.charge.getD i 0)).2.2 else if p.slotOk x i=true then 0 else 20
def Pb.errTo (p:Pb) (x:Pn):Nat→Int
 | 0 => 0
 | k+1 => if p.errTo x k=0 then p.slotErr x k else p.errTo x k
theorem Pb.errTo_stay {p:Pb} {x:Pn} {k m:Nat} (h:p.errTo x k ≠ 0) (hm:k ≤ m):p.errTo x m=p.errTo x k:=by
 induction m with
 | zero => rw [show k=0 by omega]
 | succ m ih =>
  by_cases e:k=m+1
  ·rw [e]
  ·have:=ih (by omega)
   rw [Pb.errTo,this,if_neg h]
theorem Pb.errTo_hit {p:Pb} {x:Pn} {k m:Nat} (h0:p.errTo x k=0) (h:p.slotErr x k ≠ 0) (hk:k < m):p.errTo x m=p.slotErr x k:=by
 have h1:p.errTo x (k+1)=p.slotErr x k:=by rw [Pb.errTo,if_pos h0]
 rw [Pb.errTo_stay (k:=k+1) (by rw [h1]; exact h) (by omega),h1]
theorem Pb.errTo_go {p:Pb} {x:Pn} {k:Nat} (h0:p.errTo x k=0) (h:p.slotErr x k=0):p.errTo x (k+1)=0:=by rw [Pb.errTo,if_pos h0,h]
def Pb.nets (p:Pb) (x:Pn) (k:Nat):List Int:=(List.range k).map (p.net x)
def Pb.levels (p:Pb) (x:Pn) (k:Nat):List Int:=(List.range k).map fun i => p.lv x (i+1)
def Pb.temps (p:Pb) (x:Pn) (k:Nat):List Int:=(List.range k).map fun i => p.tm x (i+1)
structure Tr where
 net:List Int
 level:List Int
 temp:List Int
 cost:Int
def Tr.zero:Tr:=⟨[], [], [],0⟩
def Pb.err (p:Pb) (x:Pn):Int:=if p.chk ≠ 0 then p.chk else if p.form x ≠ 0 then p.form x else p.errTo x p.n
def Pb.trace (p:Pb) (x:Pn):Tr:=if p.err x ≠ 0 then Tr.zero else ⟨p.nets x p.n,p.levels x p.n,p.temps x p.n,p.t.total (p.nets x p.n)⟩
theorem Pb.chk_t {p:Pb} (h:p.t.chk ≠ 0):p.chk=p.t.chk:=by unfold Pb.chk; rw [if_pos h]
theorem Pb.chk_lens {p:Pb} (h:p.t.chk=0) (h2:p.lens=false):p.chk=3:=by unfold Pb.chk; rw [if_neg (by simp [h]),if_pos h2]
theorem Pb.chk_nums {p:Pb} (h:p.t.chk=0) (h2:p.lens=true) (h3:p.nums=false):p.chk=2:=by unfold Pb.chk; rw [if_neg (by simp [h]),if_neg (by simp [h2]),if_pos h3]
theorem Pb.chk_bat {p:Pb} (h:p.t.chk=0) (h2:p.lens=true) (h3:p.nums=true) (h4:p.bat.chk ≠ 0):p.chk=p.bat.chk:=by unfold Pb.chk; rw [if_neg (by simp [h]),if_neg (by simp [h2]),if_neg (by simp [h3]),if_pos h4]
theorem Pb.chk_room {p:Pb} (h:p.t.chk=0) (h2:p.lens=true) (h3:p.nums=true) (h4:p.bat.chk=0) (h5:p.room.chk p.n ≠ 0):p.chk=p.room.chk p.n:=by
 unfold Pb.chk; rw [if_neg (by simp [h]),if_neg (by simp [h2]),if_neg (by simp [h3]),if_neg (by simp [h4]),if_pos h5]
theorem Pb.chk_loads {p:Pb} (h:p.t.chk=0) (h2:p.lens=true) (h3:p.nums=true) (h4:p.bat.chk=0) (h5:p.room.chk p.n=0) (h6:allChk p.loads p.n ≠ 0):p.chk=allChk p.loads p.n:=by
 unfold Pb.chk; rw [if_neg (by simp [h]),if_neg (by simp [h2]),if_neg (by simp [h3]),if_neg (by simp [h4]),if_neg (by simp [h5]),if_pos h6]
theorem Pb.chk_first {p:Pb} (h:p.t.chk=0) (h2:p.lens=true) (h3:p.nums=true) (h4:p.bat.chk=0) (h5:p.room.chk p.n=0) (h6:allChk p.loads p.n=0) (h7:p.first=false):p.chk=2:=by
 unfold Pb.chk; rw [if_neg (by simp [h]),if_neg (by simp [h2]),if_neg (by simp [h3]),if_neg (by simp [h4]),if_neg (by simp [h5]),if_neg (by simp [h6]),if_pos h7]
theorem Pb.chk_ok {p:Pb} (h:p.t.chk=0) (h2:p.lens=true) (h3:p.nums=true) (h4:p.bat.chk=0) (h5:p.room.chk p.n=0) (h6:allChk p.loads p.n=0) (h7:p.first=true):p.chk=0:=by
 unfold Pb.chk; rw [if_neg (by simp [h]),if_neg (by simp [h2]),if_neg (by simp [h3]),if_neg (by simp [h4]),if_neg (by simp [h5]),if_neg (by simp [h6]),if_neg (by simp [h7])]
structure Pb.Good (p:Pb):Prop where
 t:p.t.chk=0
 lens:p.solar.length=p.n∧p.demand.length=p.n∧p.outside.length=p.n
 so:allB p.solar 0 1000=true
 de:allB p.demand 0 1000=true
 ou:allB p.outside (-1000) 1000=true
 bat:p.bat.chk=0
 room:p.room.chk p.n=0
 loads:allChk p.loads p.n=0
 l0:0 ≤ p.level
 l1:p.level ≤ p.bat.cap
 t0 : -1000 ≤ p.temp
 t1:p.temp ≤ 2000
theorem Pb.good {p:Pb} (h:p.chk=0):p.Good:=by
 by_cases h1:p.t.chk=0
 ·cases h2:p.lens
  ·rw [Pb.chk_lens h1 h2] at h; cases h
  ·cases h3:p.nums
   ·rw [Pb.chk_nums h1 h2 h3] at h; cases h
   ·by_cases h4:p.bat.chk=0
    ·by_cases h5:p.room.chk p.n=0
     ·by_cases h6:allChk p.loads p.n=0
      ·cases h7:p.first
       ·rw [Pb.chk_first h1 h2 h3 h4 h5 h6 h7] at h; cases h
       ·simp only [Pb.nums,Bool.and_eq_true] at h3
        simp only [Pb.first,Bool.and_eq_true,wB_true] at h7
        simp only [Pb.lens,decide_eq_true_eq] at h2
        exact ⟨h1,h2,h3.1,h3.2.1,h3.2.2,h4,h5,h6,h7.1.1,h7.1.2,h7.2.1,h7.2.2⟩
      ·rw [Pb.chk_loads h1 h2 h3 h4 h5 h6] at h; exact absurd h h6
     ·rw [Pb.chk_room h1 h2 h3 h4 h5] at h; exact absurd h h5
    ·rw [Pb.chk_bat h1 h2 h3 h4] at h; exact absurd h h4
 ·rw [Pb.chk_t h1] at h; exact absurd h h1
theorem Pb.chk_of {p:Pb} (g:p.Good):p.chk=0 :=
 Pb.chk_ok g.t (by unfold Pb.lens; rw [decide_eq_true_iff]; exact g.lens) (by simp [Pb.nums,g.so,g.de,g.ou]) g.bat g.room g.loads
  (by simp only [Pb.first,Bool.and_eq_true,wB_true]; exact ⟨⟨g.l0,g.l1⟩,g.t0,g.t1⟩)
theorem Pb.lens_cases {p:Pb} (h:p.lens=false):((p.solar.length:Int) ≠ p.n) ∨ ((p.solar.length:Int)=p.n∧(p.demand.length:Int) ≠ p.n) ∨ ((p.solar.length:Int)=p.n∧(p.demand.length:Int)=p.n∧(p.outside.length:Int) ≠ p.n):=by
 simp only [Pb.lens,decide_eq_false_iff_not] at h
 omega
theorem Pb.lens_yes {p:Pb} (h:p.lens=true):(p.solar.length:Int)=p.n∧(p.demand.length:Int)=p.n∧(p.outside.length:Int)=p.n:=by
 simp only [Pb.lens,decide_eq_true_eq] at h
 omega
theorem Pb.nums_cases {p:Pb} (h:p.nums=false):(allB p.solar 0 1000=false) ∨ (allB p.solar 0 1000=true∧allB p.demand 0 1000=false) ∨ (allB p.solar 0 1000=true∧allB p.demand 0 1000=true∧allB p.outside (-1000) 1000=false):=by
 unfold Pb.nums at h
 cases h1:allB p.solar 0 1000
 ·exact .inl rfl
 ·cases h2:allB p.demand 0 1000
  ·exact .inr (.inl ⟨rfl,rfl⟩)
  ·rw [h1,h2] at h
   exact .inr (.inr ⟨rfl,rfl,by simpa using h⟩)
theorem Pb.nums_yes {p:Pb} (h:p.nums=true):allB p.solar 0 1000=true∧allB p.demand 0 1000=true∧allB p.outside (-1000) 1000=true:=by
 simpa [Pb.nums] using h
theorem Pb.first_cases (p:Pb):(p.level < 0∧p.first=false) ∨ (¬ p.level < 0∧p.bat.cap < p.level∧p.first=false) ∨ (¬ p.level < 0∧¬ p.bat.cap < p.level∧p.temp < -1000∧p.first=false) ∨
  (¬ p.level < 0∧¬ p.bat.cap < p.level∧¬ p.temp < -1000∧2000 < p.temp∧p.first=false) ∨ (¬ p.level < 0∧¬ p.bat.cap < p.level∧¬ p.temp < -1000∧¬ 2000 < p.temp∧p.first=true):=by
 have e:p.first=(wB p.level 0 p.bat.cap && wB p.temp (-1000) 2000):=rfl
 cases h:p.first
 ·rw [h] at e
  have e':=e.symm
  rw [Bool.and_eq_false_iff,wB_false,wB_false] at e'
  simp only [and_true,reduceCtorEq,and_false,or_false]
  omega
 ·rw [h] at e
  have e':=e.symm
  rw [Bool.and_eq_true,wB_true,wB_true] at e'
  simp only [and_true,reduceCtorEq,and_false,false_or]
  omega
theorem Pb.loads4 {p:Pb} (g:p.Good):p.loads.length ≤ 4:=by
 have h:=g.loads
 unfold allChk at h
 split at h
 ·cases h
 ·omega
theorem Pb.bat_good {p:Pb} (g:p.Good):p.bat.ok=true∧p.bat.Good:=by
 have h:=g.bat
 unfold Bat.chk at h
 by_cases h2:p.bat.ok=true
 ·exact ⟨h2,Bat.good h2⟩
 ·rw [if_neg h2] at h; cases h
theorem Pb.nbd {p:Pb} (g:p.Good):1 ≤ p.n∧p.n ≤ 96:=⟨(Tf.good g.t).n0,(Tf.good g.t).n1⟩
theorem Pb.room_ok {p:Pb} (g:p.Good):p.room.ok=true∧p.room.low.length=p.n∧p.room.high.length=p.n∧p.room.valid=p.room:=by
 have h:=g.room
 have h0:=h
 unfold Rm.chk at h
 split at h
 ·rename_i hs
  simp only [Rm.sizeOk,decide_eq_true_eq] at hs
  have hl:p.room.low.length=p.n:=by omega
  have hh:p.room.high.length=p.n:=by omega
  have hok:p.room.ok=true:=by unfold Rm.ok; rw [hl,decide_eq_true_iff]; exact h0
  exact ⟨hok,hl,hh,by unfold Rm.valid; rw [if_pos hok]⟩
 ·cases h
theorem step_drawn_bd {b:Bat} (g:b.Good) (l c:Int) : -1000 ≤ (stepZ b l c).2.1∧(stepZ b l c).2.1 ≤ 1000:=by
 unfold stepZ
 split
 ·simp
 ·split
  ·simp
  ·rename_i h
   split
   ·simp
   ·simp only []
    have:=g.ch1; have:=g.di1; have:=g.ef0; have:=g.ef1
    unfold drawnZ
    split
    ·constructor
     ·have:=Int.ediv_nonneg (a:=1000 * c+b.eff - 1) (b:=b.eff) (by omega) (by omega)
      omega
     ·have:(1000 * c+b.eff - 1) / b.eff < 1001:=Int.ediv_lt_of_lt_mul (by omega) (by omega)
      omega
    ·omega
theorem Pb.form_good {p:Pb} {x:Pn} (h:p.form x=0):p.sized x=true∧p.fitsTo x p.loads.length=true∧allB x.heat 0 p.room.steps=true:=by
 unfold Pb.form at h
 split at h
 ·cases h
 ·split at h
  ·cases h
  ·split at h
   ·cases h
   ·rename_i h1 h2 h3
    exact ⟨by simpa using h1,by simpa using h2,by simpa using h3⟩
theorem Pb.uses_len {p:Pb} (g:p.Good) (x:Pn):(p.uses x).length=p.n:=by
 have:=Pb.nbd g
 unfold Pb.uses usesL slotsN
 rw [List.length_map,List.length_range]
 split
 ·omega
 ·split <;> omega
theorem Pb.uses_bd {p:Pb} (g:p.Good) (x:Pn) (i:Nat):0 ≤ (p.uses x).getD i 0∧(p.uses x).getD i 0 ≤ 4000:=by
 have h4:=Pb.loads4 g
 by_cases h:i < (p.uses x).length
 ·have e:(p.uses x).getD i 0=useTo p.loads x.start i (min p.loads.length x.start.length):=by
   simp only [List.getD,List.getElem?_eq_getElem h,Option.getD_some]
   simp [Pb.uses,usesL]
  rw [e]
  have:=useTo_bd p.loads x.start i (min p.loads.length x.start.length)
  omega
 ·simp only [List.getD,List.getElem?_eq_none (Nat.le_of_not_lt h),Option.getD_none]; omega
theorem Pb.heat_bd {p:Pb} {x:Pn} (g:p.Good) (h:p.form x=0) (i:Nat):0 ≤ x.heat.getD i 0∧x.heat.getD i 0 ≤ 40:=by
 have:=Rm.good (Pb.room_ok g).1
 have h1:=this.s0; have h2:=this.s1
 have:=allB_getD (Pb.form_good h).2.2 (Int.le_refl _) h1 i
 omega
structure Pb.Slot (p:Pb) (x:Pn) (k:Nat) (c ht out d so u lv tm:Int):Prop where
 lv':p.lv x (k+1)=(stepZ p.bat lv c).1
 tm':p.tm x (k+1)=p.room.valid.step tm out ht
 net:p.net x k=d+(stepZ p.bat lv c).2.1+ht * p.room.power+u - so
 err:p.slotErr x k=if (stepZ p.bat lv c).2.2 ≠ 0 then (stepZ p.bat lv c).2.2 else if (p.room.valid.okAt (k:Int) (p.tm x (k+1)) && wB (p.net x k) (-p.t.fuse) p.t.fuse)=true then 0 else 20
 d0:0 ≤ d
 d1:d ≤ 1000
 s0:0 ≤ so
 s1:so ≤ 1000
 r0 : -1000 ≤ (stepZ p.bat lv c).2.1
 r1:(stepZ p.bat lv c).2.1 ≤ 1000
 m0:0 ≤ ht * p.room.power
 m1:ht * p.room.power ≤ 40000
 u0:0 ≤ u
 u1:u ≤ 4000
theorem Pb.slot {p:Pb} {x:Pn} (g:p.Good) (h:p.form x=0) (k:Nat):Pb.Slot p x k (x.charge.getD k 0) (x.heat.getD k 0) (p.outside.getD k 0) (p.demand.getD k 0) (p.solar.getD k 0) ((p.uses x).getD k 0) (p.lv x k) (p.tm x k):=by
 have hd:=allB_getD g.de (by omega) (by omega) k
 have hs:=allB_getD g.so (by omega) (by omega) k
 have hb:=step_drawn_bd (Pb.bat_good g).2 (p.lv x k) (x.charge.getD k 0)
 have hh:=Pb.heat_bd g h k
 have hr:=Rm.good (Pb.room_ok g).1
 have hu:=Pb.uses_bd g x k
 refine ⟨rfl,rfl,rfl,rfl,hd.1,hd.2,hs.1,hs.2,hb.1,hb.2,Int.mul_nonneg hh.1 hr.p0,?_,hu.1,hu.2⟩
 have:x.heat.getD k 0 * p.room.power ≤ 40 * 1000:=Int.mul_le_mul hh.2 hr.p1 hr.p0 (by omega)
 omega
theorem Pb.fuse_bd {p:Pb} (g:p.Good):1 ≤ p.t.fuse∧p.t.fuse ≤ 1000:=⟨(Tf.good g.t).f0,(Tf.good g.t).f1⟩
theorem Pb.err_chk {p:Pb} {x:Pn} (h:p.chk ≠ 0):p.err x=p.chk∧p.trace x=Tr.zero:=by
 have e:p.err x=p.chk:=by unfold Pb.err; rw [if_pos h]
 exact ⟨e,by unfold Pb.trace; rw [if_pos (by rw [e]; exact h)]⟩
theorem Pb.err_form {p:Pb} {x:Pn} (h:p.chk=0) (h2:p.form x ≠ 0):p.err x=p.form x∧p.trace x=Tr.zero:=by
 have e:p.err x=p.form x:=by unfold Pb.err; rw [if_neg (by simp [h]),if_pos h2]
 exact ⟨e,by unfold Pb.trace; rw [if_pos (by rw [e]; exact h2)]⟩
theorem Pb.err_run {p:Pb} {x:Pn} (h:p.chk=0) (h2:p.form x=0):p.err x=p.errTo x p.n:=by
 unfold Pb.err; rw [if_neg (by simp [h]),if_neg (by simp [h2])]
theorem Pb.err_slot {p:Pb} {x:Pn} {k:Nat} {e:Int} (h:p.chk=0) (h2:p.form x=0) (h3:p.errTo x k=0) (h4:p.slotErr x k=e) (he:e ≠ 0) (hk:k < p.n):p.err x=e∧p.trace x=Tr.zero:=by
 have e':p.err x=e:=by rw [Pb.err_run h h2,Pb.errTo_hit h3 (by rw [h4]; exact he) hk,h4]
 exact ⟨e',by unfold Pb.trace; rw [if_pos (by rw [e']; exact he)]⟩
theorem Pb.trace_ok {p:Pb} {x:Pn} (h:p.err x=0):p.trace x=⟨p.nets x p.n,p.levels x p.n,p.temps x p.n,p.t.total (p.nets x p.n)⟩:=by unfold Pb.trace; rw [if_neg (by simp [h])]
theorem Pb.nets_len (p:Pb) (x:Pn) (k:Nat):(p.nets x k).length=k:=by simp [Pb.nets]
theorem Pb.levels_len (p:Pb) (x:Pn) (k:Nat):(p.levels x k).length=k:=by simp [Pb.levels]
theorem Pb.temps_len (p:Pb) (x:Pn) (k:Nat):(p.temps x k).length=k:=by simp [Pb.temps]
theorem Pb.nets_succ (p:Pb) (x:Pn) (k:Nat):p.nets x (k+1)=p.nets x k ++ [p.net x k]:=by simp [Pb.nets,List.range_succ]
theorem Pb.levels_succ (p:Pb) (x:Pn) (k:Nat):p.levels x (k+1)=p.levels x k ++ [p.lv x (k+1)]:=by simp [Pb.levels,List.range_succ]
theorem Pb.temps_succ (p:Pb) (x:Pn) (k:Nat):p.temps x (k+1)=p.temps x k ++ [p.tm x (k+1)]:=by simp [Pb.temps,List.range_succ]
end Go.Proofs.YtnppngaabfhkpaaGreat
