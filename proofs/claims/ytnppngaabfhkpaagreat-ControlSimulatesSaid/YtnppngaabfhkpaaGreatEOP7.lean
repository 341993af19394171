/-
  The plain mathematics of the top law: a plan keeps all limits, slot by slot, just if it is feasible.
-/
import Derived.Test.YtnppngaabfhkpaaGreatEOP6
namespace Go.Proofs.YtnppngaabfhkpaaGreat
theorem win_charge {b:Bat} {l c:Int} (h:c < -b.discharge ∨ b.charge < c):(stepZ b l c).2.2 ≠ 0:=by
 unfold stepZ
 split
 ·decide
 ·rw [if_pos (by omega)]; decide
theorem Pb.slot_ne {p:Pb} {x:Pn} {k:Nat} (hk:k < p.n) (h:p.slotErr x k ≠ 0):p.err x ≠ 0:=fun he => h (Pb.errTo_each (Pb.err_zero he).2.2 hk).2
theorem Pb.heat_ne {p:Pb} {x:Pn} {k:Nat} (hk:k < p.n) (h:x.heat.getD k 0 < 0 ∨ p.room.steps < x.heat.getD k 0):p.err x ≠ 0:=fun he => by
 obtain ⟨hc,hf,_⟩:=Pb.err_zero he
 obtain ⟨h1,_,h2⟩:=Pb.form_good hf
 simp only [Pb.sized,decide_eq_true_eq] at h1
 have h3:=allB_bd h2 (i:=k) (by omega)
 have e:x.heat.getD k 0=x.heat[k]'(by omega):=by simp [List.getD,show k < x.heat.length by omega]
 rw [e] at h
 omega
def Pb.seen (p:Pb) (V:Pn→Prop) (f:Bool) (b:Pn):Prop:=(f=false∧∀ y,V y→p.err y ≠ 0) ∨ (f=true∧p.err b=0∧∀ y,V y→p.better y b=false)
theorem Pb.better_bad {p:Pb} {a b:Pn} (h:p.err a ≠ 0):p.better a b=false:=by unfold Pb.better; rw [if_pos h]
theorem Pb.better_iff {p:Pb} {a b:Pn} (ha:p.err a=0) (hb:p.err b=0):p.better a b=true ↔ (p.trace a).cost < (p.trace b).cost ∨ ((p.trace a).cost=(p.trace b).cost∧ltL a.list b.list=true):=by
 unfold Pb.better
 rw [if_neg (by simp [ha]),if_neg (by simp [hb])]
 by_cases h1:(p.trace a).cost < (p.trace b).cost
 ·rw [if_pos h1]; exact ⟨fun _ => .inl h1,fun _ => rfl⟩
 ·rw [if_neg h1]
  by_cases h2:(p.trace b).cost < (p.trace a).cost
  ·rw [if_pos h2]
   exact ⟨(fun h => by cases h),fun h => by omega⟩
  ·rw [if_neg h2]
   exact ⟨fun h => .inr ⟨by omega,h⟩,fun h => by rcases h with h | h <;> first | omega | exact h.2⟩
theorem Pb.better_trans {p:Pb} {a b c:Pn} (ha:p.err a=0) (hb:p.err b=0) (hc:p.err c=0) (h:p.better a b=true) (h2:p.better b c=true):p.better a c=true:=by
 rw [Pb.better_iff ha hb] at h
 rw [Pb.better_iff hb hc] at h2
 rw [Pb.better_iff ha hc]
 rcases h with h | ⟨h,h3⟩ <;> rcases h2 with h2 | ⟨h2,h4⟩
 ·left; omega
 ·left; omega
 ·left; omega
 ·exact .inr ⟨by omega,ltL_trans h3 h4⟩
theorem Pb.seen_mono {p:Pb} {V V':Pn→Prop} {f:Bool} {b:Pn} (h:p.seen V f b) (hv:∀ y,V' y→V y ∨ p.err y ≠ 0):p.seen V' f b:=by
 rcases h with ⟨h1,h2⟩ | ⟨h1,h2,h3⟩
 ·refine .inl ⟨h1,fun y hy => ?_⟩
  rcases hv y hy with h | h
  ·exact h2 y h
  ·exact h
 ·refine .inr ⟨h1,h2,fun y hy => ?_⟩
  rcases hv y hy with h | h
  ·exact h3 y h
  ·exact Pb.better_bad h
theorem Pb.seen_none (p:Pb) (b:Pn):p.seen (fun _ => False) false b := .inl ⟨rfl,fun _ h => h.elim⟩
theorem Pb.seen_take {p:Pb} {V:Pn→Prop} {f:Bool} {b x:Pn} (h:p.seen V f b) (hx:p.err x=0) (hn:f=false ∨ p.better x b=true):p.seen (fun y => V y ∨ y=x) true x:=by
 refine .inr ⟨rfl,hx,fun y hy => ?_⟩
 by_cases he:p.err y=0
 ·rcases hy with hy | rfl
  ·rcases h with ⟨h1,h2⟩ | ⟨h1,h2,h3⟩
   ·exact absurd he (h2 y hy)
   ·have hb:p.better x b=true:=by
     rcases hn with hn | hn
     ·rw [h1] at hn; cases hn
     ·exact hn
    cases hc:p.better y x with
    | false => rfl
    | true =>
     have:=Pb.better_trans he hx h2 hc hb
     rw [h3 y hy] at this; cases this
  ·exact Pb.better_irrefl _ _
 ·exact Pb.better_bad he
theorem Pb.seen_leave {p:Pb} {V:Pn→Prop} {f:Bool} {b x:Pn} (h:p.seen V f b) (hx:p.err x ≠ 0 ∨ (f=true∧p.better x b=false)):p.seen (fun y => V y ∨ y=x) f b:=by
 rcases h with ⟨h1,h2⟩ | ⟨h1,h2,h3⟩
 ·refine .inl ⟨h1,fun y hy => ?_⟩
  rcases hy with hy | rfl
  ·exact h2 y hy
  ·rcases hx with hx | ⟨hx,_⟩
   ·exact hx
   ·rw [h1] at hx; cases hx
 ·refine .inr ⟨h1,h2,fun y hy => ?_⟩
  rcases hy with hy | rfl
  ·exact h3 y hy
  ·rcases hx with hx | ⟨_,hx⟩
   ·exact Pb.better_bad hx
   ·exact hx
theorem Pb.seen_end {p:Pb} {V:Pn→Prop} {f:Bool} {b:Pn} (hc:p.chk=0) (hl:p.lim=true) (h:p.seen V f b) (hV:∀ y,p.err y=0→V y) :
  (f=true∧b=p.best∧p.bestE=0) ∨ (f=false∧p.bestE=20):=by
 rcases h with ⟨h1,h2⟩ | ⟨h1,h2,h3⟩
 ·refine .inr ⟨h1,?_⟩
  rcases Pb.bestE_cases hc hl with h | h
  ·have h4:=(Pb.best_top h).2.2.1
   exact absurd h4 (h2 _ (hV _ h4))
  ·exact h
 ·have hE:p.bestE=0:=by
   rcases Pb.bestE_cases hc hl with h | h
   ·exact h
   ·exact absurd h2 (Pb.best_none h hc b)
  obtain ⟨_,_,h5,_,h6⟩:=Pb.best_top hE
  refine .inl ⟨h1,?_,hE⟩
  have h7:=h3 _ (hV _ h5)
  rcases h6 b h2 with h8 | ⟨h8,h9 | h9⟩
  ·have:=(Pb.better_iff h5 h2).2 (.inl h8)
   rw [h7] at this; cases this
  ·exact h9.symm
  ·have:=(Pb.better_iff h5 h2).2 (.inr ⟨h8,h9⟩)
   rw [h7] at this; cases this
def Pn.ext (x y:Pn):Prop:=y.start=x.start∧x.charge <+: y.charge∧x.heat <+: y.heat
def Pn.push (x:Pn) (c h:Int):Pn:=⟨x.charge ++ [c],x.heat ++ [h],x.start⟩
theorem prefix_push {l m:List Int} (h:l <+: m) (hk:l.length < m.length):l ++ [m.getD l.length 0] <+: m:=by
 obtain ⟨r,rfl⟩:=h
 cases r with
 | nil => simp at hk
 | cons a r =>
  rw [show (l ++ a :: r).getD l.length 0=a by simp [List.getD]]
  exact ⟨r,by simp⟩
theorem Pn.ext_push {x y:Pn} (h:x.ext y) (h1:x.charge.length < y.charge.length) (h2:x.heat.length < y.heat.length):(x.push (y.charge.getD x.charge.length 0) (y.heat.getD x.heat.length 0)).ext y :=
 ⟨h.1,prefix_push h.2.1 h1,prefix_push h.2.2 h2⟩
theorem Pn.ext_end {x y:Pn} (h:x.ext y) (h1:x.charge.length=y.charge.length) (h2:x.heat.length=y.heat.length):y=x:=by
 obtain ⟨e1,e2,e3⟩:=h
 have e2:=List.IsPrefix.eq_of_length e2 h1
 have e3:=List.IsPrefix.eq_of_length e3 h2
 obtain ⟨a,b,c⟩:=x
 obtain ⟨a',b',c'⟩:=y
 simp only at e1 e2 e3
 rw [e1,e2,e3]
theorem Pb.feasible {p:Pb} {y:Pn} (h:p.err y=0):y.charge.length=p.n∧y.heat.length=p.n∧y.start.length=p.loads.length ∧
  (∀ k,k < p.n → -p.bat.discharge ≤ y.charge.getD k 0∧y.charge.getD k 0 ≤ p.bat.charge∧0 ≤ y.heat.getD k 0∧y.heat.getD k 0 ≤ p.room.steps):=by
 obtain ⟨hc,hf,he⟩:=Pb.err_zero h
 obtain ⟨hs,_,_⟩:=Pb.form_good hf
 simp only [Pb.sized,decide_eq_true_eq] at hs
 refine ⟨hs.1,hs.2.1,hs.2.2,fun k hk => ?_⟩
 have h1:=(Pb.slot_zero (Pb.errTo_each he hk).2).1
 refine ⟨?_,?_,?_,?_⟩
 ·exact Int.not_lt.1 fun g => win_charge (.inl g) h1
 ·exact Int.not_lt.1 fun g => win_charge (.inr g) h1
 ·exact Int.not_lt.1 fun g => Pb.heat_ne hk (.inl g) h
 ·exact Int.not_lt.1 fun g => Pb.heat_ne hk (.inr g) h
theorem prefix_getD {l m:List Int} (h:l <+: m) {i:Nat} (hi:i < l.length):m.getD i 0=l.getD i 0:=by
 obtain ⟨r,rfl⟩:=h
 simp [List.getD,List.getElem?_append_left hi]
theorem Pn.ext_state {p:Pb} {x z:Pn} (h:x.ext z) (he:x.heat.length=x.charge.length) (i:Nat) (hi:i ≤ x.charge.length):p.lv z i=p.lv x i∧p.tm z i=p.tm x i:=by
 induction i with
 | zero => exact ⟨rfl,rfl⟩
 | succ i ih =>
  obtain ⟨h1,h2⟩:=ih (by omega)
  have e1:=prefix_getD h.2.1 (show i < x.charge.length by omega)
  have e2:=prefix_getD h.2.2 (show i < x.heat.length by omega)
  refine ⟨?_,?_⟩
  ·show (stepZ p.bat (p.lv z i) (z.charge.getD i 0)).1=(stepZ p.bat (p.lv x i) (x.charge.getD i 0)).1
   rw [h1,e1]
  ·show p.room.valid.step (p.tm z i) (p.outside.getD i 0) (z.heat.getD i 0)=p.room.valid.step (p.tm x i) (p.outside.getD i 0) (x.heat.getD i 0)
   rw [h2,e2]
theorem Pn.ext_slot {p:Pb} {x z:Pn} (h:x.ext z) (he:x.heat.length=x.charge.length) {i:Nat} (hi:i < x.charge.length):p.slotErr z i=p.slotErr x i:=by
 obtain ⟨h1,h2⟩:=Pn.ext_state (p:=p) h he i (by omega)
 obtain ⟨_,h3⟩:=Pn.ext_state (p:=p) h he (i+1) (by omega)
 have e1:=prefix_getD h.2.1 hi
 have e2:=prefix_getD h.2.2 (show i < x.heat.length by omega)
 unfold Pb.slotErr Pb.slotOk Pb.net Pb.uses
 rw [h1,h3,e1,e2,h.1]
theorem Pn.ext_bad {p:Pb} {x z:Pn} (h:x.ext z) (he:x.heat.length=x.charge.length) (hn:x.charge.length ≤ p.n) (hb:∃ i,i < x.charge.length∧p.slotErr x i ≠ 0):p.err z ≠ 0:=by
 obtain ⟨i,hi,hb⟩:=hb
 rw [← Pn.ext_slot h he hi] at hb
 exact Pb.slot_ne (by omega) hb
def Vc (V:Pn→Prop) (x:Pn) (c:Int) (z:Pn):Prop:=V z ∨ (x.ext z∧z.charge.getD x.charge.length 0 < c)
def Vh (V:Pn→Prop) (x:Pn) (c h:Int) (z:Pn):Prop:=V z ∨ (x.ext z∧(z.charge.getD x.charge.length 0 < c ∨ (z.charge.getD x.charge.length 0=c∧z.heat.getD x.charge.length 0 < h)))
def Ve (V:Pn→Prop) (x:Pn) (z:Pn):Prop:=V z ∨ x.ext z
section
variable {p:Pb} {V:Pn→Prop} {f:Bool} {b x:Pn} {c h:Int}
theorem see_start (hk:x.charge.length < p.n) (hs:p.seen V f b):p.seen (Vc V x (-p.bat.discharge)) f b :=
 Pb.seen_mono hs fun z hz => by
  rcases hz with hz | ⟨h1,h2⟩
  ·exact .inl hz
  ·refine .inr fun he => ?_
   have:=((Pb.feasible he).2.2.2 _ hk).1
   omega
theorem see_in (hk:x.charge.length < p.n) (hs:p.seen (Vc V x c) f b):p.seen (Vh V x c 0) f b :=
 Pb.seen_mono hs fun z hz => by
  rcases hz with hz | ⟨h1,h2 | ⟨h2,h3⟩⟩
  ·exact .inl (.inl hz)
  ·exact .inl (.inr ⟨h1,h2⟩)
  ·refine .inr fun he => ?_
   have:=((Pb.feasible he).2.2.2 _ hk).2.2.1
   omega
theorem see_push (hk:x.charge.length < p.n) (hl:x.heat.length=x.charge.length) {z:Pn} (h1:x.ext z) (he:p.err z=0) (hc:z.charge.getD x.charge.length 0=c) (hh:z.heat.getD x.charge.length 0=h):(x.push c h).ext z:=by
 obtain ⟨e1,e2,_⟩:=Pb.feasible he
 have h2:=Pn.ext_push h1 (by omega) (by omega)
 rw [hl,hc,hh] at h2
 exact h2
theorem see_bad (hk:x.charge.length < p.n) (hl:x.heat.length=x.charge.length) (hb:∀ z,(x.push c h).ext z→p.err z ≠ 0) (hs:p.seen (Vh V x c h) f b):p.seen (Vh V x c (h+1)) f b :=
 Pb.seen_mono hs fun z hz => by
  rcases hz with hz | ⟨h1,h2 | ⟨h2,h3⟩⟩
  ·exact .inl (.inl hz)
  ·exact .inl (.inr ⟨h1,.inl h2⟩)
  ·by_cases h4:z.heat.getD x.charge.length 0 < h
   ·exact .inl (.inr ⟨h1,.inr ⟨h2,h4⟩⟩)
   ·by_cases he:p.err z=0
    ·exact absurd he (hb z (see_push hk hl h1 he h2 (by omega)))
    ·exact .inr he
theorem see_more (hk:x.charge.length < p.n) (hl:x.heat.length=x.charge.length) (hs:p.seen (Ve (Vh V x c h) (x.push c h)) f b):p.seen (Vh V x c (h+1)) f b :=
 Pb.seen_mono hs fun z hz => by
  rcases hz with hz | ⟨h1,h2 | ⟨h2,h3⟩⟩
  ·exact .inl (.inl (.inl hz))
  ·exact .inl (.inl (.inr ⟨h1,.inl h2⟩))
  ·by_cases h4:z.heat.getD x.charge.length 0 < h
   ·exact .inl (.inl (.inr ⟨h1,.inr ⟨h2,h4⟩⟩))
   ·by_cases he:p.err z=0
    ·exact .inl (.inr (see_push hk hl h1 he h2 (by omega)))
    ·exact .inr he
theorem see_out (hk:x.charge.length < p.n) (hh:p.room.steps < h) (hs:p.seen (Vh V x c h) f b):p.seen (Vc V x (c+1)) f b :=
 Pb.seen_mono hs fun z hz => by
  rcases hz with hz | ⟨h1,h2⟩
  ·exact .inl (.inl hz)
  ·by_cases he:p.err z=0
   ·have:=((Pb.feasible he).2.2.2 _ hk).2.2.2
    by_cases h3:z.charge.getD x.charge.length 0 < c
    ·exact .inl (.inr ⟨h1,.inl h3⟩)
    ·exact .inl (.inr ⟨h1,.inr ⟨by omega,by omega⟩⟩)
   ·exact .inr he
theorem see_end (hk:x.charge.length < p.n) (hc:p.bat.charge < c) (hs:p.seen (Vc V x c) f b):p.seen (Ve V x) f b :=
 Pb.seen_mono hs fun z hz => by
  rcases hz with hz | h1
  ·exact .inl (.inl hz)
  ·by_cases he:p.err z=0
   ·have:=((Pb.feasible he).2.2.2 _ hk).2.1
    exact .inl (.inr ⟨h1,by omega⟩)
   ·exact .inr he
theorem see_leaf (hk:x.charge.length=p.n) (hl:x.heat.length=p.n) {f':Bool} {b':Pn} (hs:p.seen (fun z => V z ∨ z=x) f' b'):p.seen (Ve V x) f' b' :=
 Pb.seen_mono hs fun z hz => by
  rcases hz with hz | h1
  ·exact .inl (.inl hz)
  ·by_cases he:p.err z=0
   ·obtain ⟨e1,e2,_⟩:=Pb.feasible he
    exact .inl (.inr (Pn.ext_end h1 (by omega) (by omega)))
   ·exact .inr he
end
def Vs (V:Pn→Prop) (s:List Int) (z:Pn):Prop:=V z ∨ s <+: z.start
def Vi (V:Pn→Prop) (s l:List Int) (z:Pn):Prop:=V z ∨ (s <+: z.start∧z.start.getD s.length 0 ∈ l)
section
variable {p:Pb} {V:Pn→Prop} {f:Bool} {b x:Pn}
theorem see_s0 {s:List Int} (hs:p.seen V f b):p.seen (Vi V s []) f b :=
 Pb.seen_mono hs fun z hz => by
  rcases hz with hz | ⟨_,h2⟩
  ·exact .inl hz
  ·cases h2
theorem see_s1 {s l:List Int} {a:Int} (hk:s.length < p.loads.length) (hs:p.seen (Vs (Vi V s l) (s ++ [a])) f b):p.seen (Vi V s (l ++ [a])) f b :=
 Pb.seen_mono hs fun z hz => by
  rcases hz with hz | ⟨h1,h2⟩
  ·exact .inl (.inl (.inl hz))
  ·rw [List.mem_append,List.mem_singleton] at h2
   rcases h2 with h2 | h2
   ·exact .inl (.inl (.inr ⟨h1,h2⟩))
   ·by_cases he:p.err z=0
    ·obtain ⟨_,_,e3,_⟩:=Pb.feasible he
     have h3:=prefix_push h1 (by omega)
     rw [h2] at h3
     exact .inl (.inr h3)
    ·exact .inr he
theorem see_s2 {s:List Int} (hk:s.length < p.loads.length) (hs:p.seen (Vi V s ((p.loads.getD s.length Ld.zero).starts p.n)) f b):p.seen (Vs V s) f b :=
 Pb.seen_mono hs fun z hz => by
  rcases hz with hz | h1
  ·exact .inl (.inl hz)
  ·by_cases he:p.err z=0
   ·have hf:=(Pb.form_good (Pb.err_zero he).2.1).2.1
    simp only [Pb.fitsTo,List.all_eq_true,List.mem_range] at hf
    have hm:=hf _ hk
    rw [Ld.fit_mem,decide_eq_true_iff] at hm
    exact .inl (.inr ⟨h1,hm⟩)
   ·exact .inr he
theorem see_s3 (hk:x.start.length=p.loads.length) (h1:x.charge = []) (h2:x.heat = []) (hs:p.seen (Ve V x) f b):p.seen (Vs V x.start) f b :=
 Pb.seen_mono hs fun z hz => by
  rcases hz with hz | h3
  ·exact .inl (.inl hz)
  ·by_cases he:p.err z=0
   ·obtain ⟨_,_,e3,_⟩:=Pb.feasible he
    have:=List.IsPrefix.eq_of_length h3 (by omega)
    exact .inl (.inr ⟨this.symm,by rw [h1]; exact List.nil_prefix,by rw [h2]; exact List.nil_prefix⟩)
   ·exact .inr he
end
theorem allTo_iff {l:List Ld} {n:Int} {k:Nat} (hk:k ≤ l.length):allTo l n k=0 ↔ (∀ x ∈ l.take k,x.chk n=0)∧((l.take k).map Ld.name).Nodup:=by
 induction k with
 | zero => simp [allTo]
 | succ k ih =>
  have hk':k < l.length:=by omega
  have ih:=ih (by omega)
  rw [List.take_succ_eq_append_getElem hk',List.map_append,List.nodup_append]
  have e:allTo l n (k+1)=0 ↔ allTo l n k=0∧loadErr l n k=0:=by
   rw [allTo]
   constructor
   ·intro h
    split at h
    ·rename_i h1; exact ⟨h1,h⟩
    ·rename_i h1; exact absurd h h1
   ·rintro ⟨h1,h2⟩
    rw [if_pos h1,h2]
  rw [e,ih]
  constructor
  ·rintro ⟨⟨h1,h2⟩,h3⟩
   have hc:l[k].chk n=0:=by
    by_cases h4:l[k].chk n=0
    ·exact h4
    ·rw [loadErr_bad hk' h4] at h3; exact absurd h3 h4
   refine ⟨?_,h2,by simp,?_⟩
   ·intro x hx
    rw [List.mem_append,List.mem_singleton] at hx
    rcases hx with hx | rfl
    ·exact h1 x hx
    ·exact hc
   ·intro a ha b hb2 hab
    simp only [List.map_cons,List.map_nil,List.mem_singleton] at hb2
    subst hab
    rw [List.mem_map] at ha
    obtain ⟨y,hy,hyn⟩:=ha
    rw [List.mem_iff_getElem] at hy
    obtain ⟨j,hj,rfl⟩:=hy
    rw [List.length_take] at hj
    have hj2:j < k:=by omega
    rw [List.getElem_take] at hyn
    rw [loadErr_dup hk' hc hj2 (by rw [hyn,hb2])] at h3
    cases h3
  ·rintro ⟨h1,h2, -,h4⟩
   refine ⟨⟨fun x hx => h1 x (List.mem_append_left _ hx),h2⟩,?_⟩
   refine loadErr_ok hk' (h1 _ (List.mem_append_right _ (by simp))) ?_
   rintro ⟨x,hx,y,hy,hn⟩
   rw [List.getElem?_eq_getElem hk'] at hx
   injection hx with hx
   subst hx
   exact h4 y.name (List.mem_map.2 ⟨y,hy,rfl⟩) l[k].name (by simp) hn
theorem allChk_iff {l:List Ld} {n:Int}:allChk l n=0 ↔ l.length ≤ 4∧(∀ x ∈ l,x.chk n=0)∧(l.map Ld.name).Nodup:=by
 have h:=allTo_iff (l:=l) (n:=n) (k:=l.length) (Nat.le_refl _)
 rw [List.take_length] at h
 unfold allChk
 constructor
 ·intro g
  split at g
  ·cases g
  ·exact ⟨by omega,h.1 g⟩
 ·rintro ⟨g1,g2⟩
  rw [if_neg (by omega)]
  exact h.2 g2
theorem getD_dropZ (l:List Int) (k i:Nat):(l.drop k).getD i 0=l.getD (k+i) 0:=by simp [List.getD]
theorem allB_drop {l:List Int} {lo hi:Int} (k:Nat) (h:allB l lo hi=true):allB (l.drop k) lo hi=true:=by
 unfold allB at *
 rw [List.all_eq_true] at *
 exact fun z hz => h z (List.mem_of_mem_drop hz)
theorem Tf.rest_chk {t:Tf} {k:Nat} (h:t.chk=0) (hk:k < t.buy.length):(Tf.mk (t.buy.drop k) (t.sell.drop k) t.fuse).chk=0:=by
 have g:=Tf.good h
 have h1:=g.n1; have h2:=g.len
 have ho:t.orderTo t.buy.length=true:=by
  cases h3:t.orderTo t.buy.length
  ·unfold Tf.chk at h
   split at h
   ·split at h
    ·rw [h3] at h; simp at h
    ·cases h
   ·cases h
  ·rfl
 have hn:t.nums=true:=by
  cases h3:t.nums
  ·unfold Tf.chk at h
   split at h
   ·rw [h3] at h; simp at h
   ·cases h
  ·rfl
 refine Tf.chk_ok ?_ ?_ ?_
 ·simp only [Tf.lim,List.length_drop,decide_eq_true_iff]; omega
 ·simp only [Tf.nums,Bool.and_eq_true] at hn ⊢
  exact ⟨allB_drop k hn.1,allB_drop k hn.2.1,hn.2.2⟩
 ·simp only [Tf.orderTo,List.all_eq_true,List.mem_range,decide_eq_true_iff,List.length_drop,getD_dropZ] at ho ⊢
  exact fun i hi => ho (k+i) (by omega)
theorem Rm.rest_chk {r:Rm} {n k:Nat} (h:r.chk n=0) (hk:k < n):(Rm.mk r.gain r.loss r.steps r.power (r.low.drop k) (r.high.drop k)).chk ((n - k:Nat):Int)=0:=by
 unfold Rm.chk at h
 split at h
 ·rename_i hs
  split at h
  ·rename_i hn
   split at h
   ·rename_i hsl
    simp only [Rm.sizeOk,decide_eq_true_eq] at hs
    refine Rm.chk_ok ?_ hn ?_
    ·simp only [Rm.sizeOk,List.length_drop,decide_eq_true_iff]; omega
    ·simp only [Rm.slotsTo,List.all_eq_true,List.mem_range,List.length_drop,getD_dropZ] at hsl ⊢
     exact fun i hi => hsl (k+i) (by omega)
   ·cases h
  ·cases h
 ·cases h
theorem Pb.fit_each {p:Pb} {x:Pn} (h:p.form x=0) {j:Nat} (hj:j < p.loads.length):(p.loads.getD j Ld.zero).fit (x.start.getD j 0) p.n=true:=by
 have hf:=(Pb.form_good h).2.1
 unfold Pb.fitsTo at hf
 rw [List.all_eq_true] at hf
 exact hf j (List.mem_range.2 hj)
structure Dc where
 charge:Int
 heat:Int
 starts:List Bool
def Dc.zero:Dc:=⟨0,0, []⟩
def Pb.fallback (p:Pb):Dc:=⟨0,p.room.valid.hold 0 p.temp (p.outside.getD 0 0),p.loads.map fun l => decide (l.last=0)⟩
def Pn.first (x:Pn):Dc:=⟨x.charge.getD 0 0,x.heat.getD 0 0,x.start.map fun s => decide (s=0)⟩
def Pb.dec (p:Pb):Dc:=if p.chk ≠ 0 then Dc.zero else if p.bestE=0 then p.best.first else p.fallback
def Pb.clash (p:Pb) (d:Dc) (k:Nat):Bool:=(List.range k).any fun i => d.starts.getD i false && decide ((p.loads.getD i Ld.zero).early ≠ 0)
def Pb.canDo (p:Pb) (d:Dc):Int:=if d.starts.length ≠ p.loads.length then 3 else if d.heat < 0 ∨ p.room.steps < d.heat then 2 else if p.clash d p.loads.length=true then 2 else 0
def Pb.doE (p:Pb) (d:Dc):Int:=if p.chk ≠ 0 then p.chk else if p.canDo d ≠ 0 then p.canDo d else (stepZ p.bat p.level d.charge).2.2
def Pb.firstUse (p:Pb) (d:Dc):Nat→Int
 | 0 => 0
 | k+1 => p.firstUse d k+if d.starts.getD k false=true then (p.loads.getD k Ld.zero).prof.getD 0 0 else 0
def Pb.nextLv (p:Pb) (d:Dc):Int:=(stepZ p.bat p.level d.charge).1
def Pb.nextTm (p:Pb) (d:Dc):Int:=p.room.valid.step p.temp (p.outside.getD 0 0) d.heat
def Pb.nextNet (p:Pb) (d:Dc):Int:=p.demand.getD 0 0+(stepZ p.bat p.level d.charge).2.1+d.heat * p.room.power - p.solar.getD 0 0+p.firstUse d p.loads.length
def Ld.okNext (r:Ld) (b:Bool):Bool:=b || r.canShift 1
def Ld.hasNext (r:Ld) (b:Bool):Bool := !b || decide (1 < r.prof.length)
def Ld.next (r:Ld) (b:Bool):Ld:=if b=true then ⟨r.name,r.prof.drop 1,0,(r.prof.length:Int) - 1⟩ else r.shift 1
def Pb.okTo (p:Pb) (d:Dc) (k:Nat):Bool:=(List.range k).all fun i => (p.loads.getD i Ld.zero).okNext (d.starts.getD i false)
def Pb.whichs (p:Pb) (d:Dc) (k:Nat):List Nat:=(List.range k).filter fun i => (p.loads.getD i Ld.zero).hasNext (d.starts.getD i false)
def Pb.nexts (p:Pb) (d:Dc) (k:Nat):List Ld:=(p.whichs d k).map fun i => (p.loads.getD i Ld.zero).next (d.starts.getD i false)
def Pb.advE (p:Pb) (d:Dc):Int:=if p.doE d ≠ 0 then p.doE d else if p.n=1 then 2 else if p.okTo d p.loads.length=false then 20 else 0
def Pb.adv (p:Pb) (d:Dc):Pb :=
 ⟨⟨p.t.buy.drop 1,p.t.sell.drop 1,p.t.fuse⟩,p.solar.drop 1,p.demand.drop 1,p.outside.drop 1,p.bat,⟨p.room.gain,p.room.loss,p.room.steps,p.room.power,p.room.low.drop 1,p.room.high.drop 1⟩,p.nexts d p.loads.length,p.nextLv d,p.nextTm d⟩
theorem Pb.clash_succ (p:Pb) (d:Dc) (k:Nat):p.clash d (k+1)=(p.clash d k || (d.starts.getD k false && decide ((p.loads.getD k Ld.zero).early ≠ 0))):=by
 simp [Pb.clash,List.range_succ,List.any_append]
theorem Pb.clash_le {p:Pb} {d:Dc} {k m:Nat} (h:p.clash d k=true) (hm:k ≤ m):p.clash d m=true:=by
 simp only [Pb.clash,List.any_eq_true,List.mem_range] at h ⊢
 obtain ⟨i,hi,h⟩:=h
 exact ⟨i,by omega,h⟩
theorem Pb.okTo_succ (p:Pb) (d:Dc) (k:Nat):p.okTo d (k+1)=(p.okTo d k && (p.loads.getD k Ld.zero).okNext (d.starts.getD k false)):=by
 simp [Pb.okTo,List.range_succ,List.all_append]
theorem Pb.okTo_le {p:Pb} {d:Dc} {k m:Nat} (h:p.okTo d k=false) (hm:k ≤ m):p.okTo d m=false:=by
 rw [← Bool.not_eq_true] at h ⊢
 simp only [Pb.okTo,List.all_eq_true,List.mem_range] at h ⊢
 exact fun g => h fun i hi => g i (by omega)
theorem Pb.whichs_succ (p:Pb) (d:Dc) (k:Nat):p.whichs d (k+1)=if (p.loads.getD k Ld.zero).hasNext (d.starts.getD k false)=true then p.whichs d k ++ [k] else p.whichs d k:=by
 unfold Pb.whichs
 rw [List.range_succ,List.filter_append]
 split
 ·rename_i h
  have e:List.filter (fun i => (p.loads.getD i Ld.zero).hasNext (d.starts.getD i false)) [k] = [k]:=List.filter_cons_of_pos (p:=fun i => (p.loads.getD i Ld.zero).hasNext (d.starts.getD i false)) (l := []) h
  rw [e]
 ·rename_i h
  have e:List.filter (fun i => (p.loads.getD i Ld.zero).hasNext (d.starts.getD i false)) [k] = []:=List.filter_cons_of_neg (p:=fun i => (p.loads.getD i Ld.zero).hasNext (d.starts.getD i false)) (l := []) h
  rw [e,List.append_nil]
theorem Pb.nexts_succ (p:Pb) (d:Dc) (k:Nat):p.nexts d (k+1)=if (p.loads.getD k Ld.zero).hasNext (d.starts.getD k false)=true then p.nexts d k ++ [(p.loads.getD k Ld.zero).next (d.starts.getD k false)] else p.nexts d k:=by
 unfold Pb.nexts
 rw [Pb.whichs_succ]
 split
 ·rw [List.map_append]; rfl
 ·rfl
theorem Pb.nexts_len (p:Pb) (d:Dc) (k:Nat):(p.nexts d k).length=(p.whichs d k).length:=by unfold Pb.nexts; rw [List.length_map]
theorem Pb.whichs_mem {p:Pb} {d:Dc} {k i:Nat}:i ∈ p.whichs d k ↔ i < k∧(p.loads.getD i Ld.zero).hasNext (d.starts.getD i false)=true:=by
 unfold Pb.whichs; rw [List.mem_filter,List.mem_range]
theorem Pb.whichs_sorted (p:Pb) (d:Dc) (k:Nat):(p.whichs d k).Pairwise (· < ·):=List.pairwise_lt_range.filter _
theorem Pb.whichs_len (p:Pb) (d:Dc) (k:Nat):(p.whichs d k).length ≤ k:=by
 have:=List.length_filter_le (fun i => (p.loads.getD i Ld.zero).hasNext (d.starts.getD i false)) (List.range k)
 rw [List.length_range] at this
 exact this
theorem holdTo_spec (p:Int→Bool) (n:Nat):0 ≤ holdTo p n∧holdTo p n ≤ (n:Int)∧(∀ x,0 ≤ x→x < holdTo p n→p x=false)∧(holdTo p n=(n:Int) ∨ p (holdTo p n)=true):=by
 induction n with
 | zero => exact ⟨by simp [holdTo],by simp [holdTo],fun x h0 h1 => by simp [holdTo] at h1; omega,.inl (by simp [holdTo])⟩
 | succ n ih =>
  obtain ⟨h1,h2,h3,h4⟩:=ih
  rw [holdTo]
  by_cases ha:(upto n).any p=true
  ·rw [if_pos ha]
   refine ⟨h1,by omega,h3,?_⟩
   rcases h4 with h4 | h4
   ·exfalso
    rw [List.any_eq_true] at ha
    obtain ⟨x,hx,hp⟩:=ha
    rw [mem_upto] at hx
    rw [h3 x hx.1 (by omega)] at hp
    cases hp
   ·exact .inr h4
  ·rw [if_neg ha]
   have hn:∀ x,0 ≤ x→x < (n:Int)→p x=false:=by
    intro x g0 g1
    cases hp:p x
    ·rfl
    ·exact absurd (List.any_eq_true.2 ⟨x,mem_upto.2 ⟨g0,g1⟩,hp⟩) ha
   cases hp:p (n:Int)
   ·rw [if_neg (by simp)]
    refine ⟨by omega,by omega,fun x g0 g1 => ?_,.inl (by omega)⟩
    by_cases e:x=(n:Int)
    ·rw [e]; exact hp
    ·exact hn x g0 (by omega)
   ·rw [if_pos rfl]
    exact ⟨by omega,by omega,hn,.inr hp⟩
structure Pb.Able (p:Pb) (d:Dc):Prop where
 len:d.starts.length=p.loads.length
 h0:0 ≤ d.heat
 h1:d.heat ≤ p.room.steps
 st:∀ i,i < p.loads.length→d.starts.getD i false=true→(p.loads.getD i Ld.zero).early=0
 nx:∀ i,i < p.loads.length→d.starts.getD i false=false→((p.loads.getD i Ld.zero).prof.length:Int) < (p.loads.getD i Ld.zero).late
 sp:(stepZ p.bat p.level d.charge).2.2=0
theorem Pb.load_at {p:Pb} (g:p.Good) {i:Nat} (hi:i < p.loads.length):(p.loads.getD i Ld.zero).chk p.n=0:=by
 have h:=Pb.load_ok g hi
 rwa [show p.loads.getD i Ld.zero=p.loads[i] by simp [List.getD,hi]]
theorem Ld.last_good {r:Ld} {n:Int} (h:r.chk n=0):r.last=r.late - (r.prof.length:Int):=by
 have g:=Ld.good h
 have g1:=g.p; have g2:=g.l1; have g3:=g.n1; have g4:=g.e0
 unfold Ld.last
 rw [if_neg (by omega),if_neg (by omega)]
theorem Ld.fit_iff {r:Ld} {s n:Int}:r.fit s n=true ↔ r.chk n=0∧r.early ≤ s∧s ≤ r.late - (r.prof.length:Int):=by
 simp only [Ld.fit,Bool.and_eq_true,decide_eq_true_iff]
theorem getD_map {α β : Type} {l:List α} {f : α → β} {k:Nat} (hk:k < l.length) (a : α) (b : β):(l.map f).getD k b=f (l.getD k a):=by simp [List.getD,hk]
theorem range_getD {n k:Nat} (h:k < n):(List.range n).getD k 0=k:=by simp [List.getD,h]
theorem getD_at (l:List Int) {k:Nat} (h:k < l.length):l.getD k 0=l[k]:=by simp [List.getD,h]
theorem bools_getD {α : Type} {l:List α} {f : α → Bool} {i:Nat} (hi:i < l.length):(l.map f).getD i false=f l[i]:=by simp [List.getD,hi]
theorem Pb.hold_bd {p:Pb} (g:p.Good):0 ≤ p.fallback.heat∧p.fallback.heat ≤ p.room.steps∧(∀ h,0 ≤ h→h < p.fallback.heat→p.room.valid.step p.temp (p.outside.getD 0 0) h < p.room.low.getD 0 0) ∧
  (p.fallback.heat=p.room.steps ∨ p.room.low.getD 0 0 ≤ p.room.valid.step p.temp (p.outside.getD 0 0) p.fallback.heat):=by
 obtain ⟨hok,hl,hh,hv⟩:=Pb.room_ok g
 have gr:=Rm.good hok
 have hs:=gr.s0
 have hn:=Pb.nbd g
 have hv2:=hv
 show 0 ≤ p.room.valid.hold 0 p.temp (p.outside.getD 0 0)∧p.room.valid.hold 0 p.temp (p.outside.getD 0 0) ≤ _∧(∀ h,0 ≤ h→h < p.room.valid.hold 0 p.temp (p.outside.getD 0 0)→_)∧(p.room.valid.hold 0 p.temp (p.outside.getD 0 0)=_ ∨ _ ≤ p.room.valid.step _ _ (p.room.valid.hold 0 p.temp (p.outside.getD 0 0)))
 rw [hv]
 have e:p.room.hold 0 p.temp (p.outside.getD 0 0)=holdTo (fun h => decide (p.room.low.getD 0 0 ≤ p.room.step p.temp (p.outside.getD 0 0) h)) p.room.steps.toNat:=by
  unfold Rm.hold; rw [if_pos ⟨Int.le_refl _,by omega⟩]; rfl
 rw [e]
 obtain ⟨h1,h2,h3,h4⟩:=holdTo_spec (fun h => decide (p.room.low.getD 0 0 ≤ p.room.step p.temp (p.outside.getD 0 0) h)) p.room.steps.toNat
 refine ⟨h1,by omega,fun h g0 g1 => ?_,?_⟩
 ·have:=h3 h g0 g1
  simp only [decide_eq_false_iff_not] at this
  omega
 ·rcases h4 with h4 | h4
  ·exact .inl (by omega)
  ·exact .inr (by simpa using h4)
theorem Pb.fallback_able {p:Pb} (h:p.chk=0):p.Able p.fallback:=by
 have g:=Pb.good h
 have hb:=Pb.hold_bd g
 have hst:∀ i,i < p.loads.length→p.fallback.starts.getD i false=decide ((p.loads.getD i Ld.zero).last=0):=fun i hi => by
  show (p.loads.map _).getD i false=_
  rw [bools_getD hi,show p.loads.getD i Ld.zero=p.loads[i] by simp [List.getD,hi]]
 refine ⟨by simp [Pb.fallback],hb.1,hb.2.1,fun i hi hs => ?_,fun i hi hs => ?_,?_⟩
 ·rw [hst i hi,decide_eq_true_iff,Ld.last_good (Pb.load_at g hi)] at hs
  have gl:=Ld.good (Pb.load_at g hi)
  have g1:=gl.p; have g2:=gl.e0
  omega
 ·rw [hst i hi,decide_eq_false_iff_not,Ld.last_good (Pb.load_at g hi)] at hs
  have gl:=Ld.good (Pb.load_at g hi)
  have g1:=gl.p; have g2:=gl.e0
  omega
 ·show (stepZ p.bat p.level 0).2.2=0
  rw [step_zero (Pb.bat_good g).1 g.l0 g.l1]
theorem Pb.first_able {p:Pb} {x:Pn} (h:p.err x=0):p.Able x.first:=by
 obtain ⟨hc,hf,he⟩:=Pb.err_zero h
 have g:=Pb.good hc
 have hn:=Pb.nbd g
 obtain ⟨e1,e2,e3,e4⟩:=Pb.feasible h
 have hs:=(Pb.slot_zero (Pb.errTo_each he (k:=0) (by omega)).2).1
 have h0:=e4 0 (by omega)
 have hst:∀ i,i < p.loads.length→x.first.starts.getD i false=decide (x.start.getD i 0=0):=fun i hi => by
  show (x.start.map _).getD i false=_
  rw [bools_getD (by omega),show x.start.getD i 0=x.start[i]'(by omega) by simp [List.getD,show i < x.start.length by omega]]
 refine ⟨by simp [Pn.first,e3],h0.2.2.1,h0.2.2.2,fun i hi h1 => ?_,fun i hi h1 => ?_,hs⟩
 ·rw [hst i hi,decide_eq_true_iff] at h1
  obtain ⟨h2,h3,h4⟩:=Ld.fit_iff.1 (Pb.fit_each hf hi)
  have:=(Ld.good h2).e0
  omega
 ·rw [hst i hi,decide_eq_false_iff_not] at h1
  obtain ⟨h2,h3,h4⟩:=Ld.fit_iff.1 (Pb.fit_each hf hi)
  have:=(Ld.good h2).e0
  omega
theorem Pb.dec_best {p:Pb} (h:p.bestE=0):p.dec=p.best.first:=by
 unfold Pb.dec
 rw [if_neg (fun e => e (Pb.best_top h).1),if_pos h]
theorem Pb.dec_none {p:Pb} (hc:p.chk=0) (h:p.bestE ≠ 0):p.dec=p.fallback:=by
 unfold Pb.dec
 rw [if_neg (fun e => e hc),if_neg h]
theorem Pb.dec_able {p:Pb} (h:p.chk=0):p.Able p.dec:=by
 by_cases h2:p.bestE=0
 ·rw [Pb.dec_best h2]; exact Pb.first_able (Pb.best_top h2).2.2.1
 ·rw [Pb.dec_none h h2]; exact Pb.fallback_able h
theorem Pb.able_do {p:Pb} {d:Dc} (h:p.chk=0) (a:p.Able d):p.doE d=0:=by
 have hc:p.canDo d=0:=by
  unfold Pb.canDo
  have hcl:¬ p.clash d p.loads.length=true:=by
   intro hc
   simp only [Pb.clash,List.any_eq_true,List.mem_range,Bool.and_eq_true,decide_eq_true_iff] at hc
   obtain ⟨i,hi,h1,h2⟩:=hc
   exact h2 (a.st i hi h1)
  have h0:=a.h0; have h1:=a.h1
  rw [if_neg (fun e => e a.len),if_neg (by omega),if_neg hcl]
 unfold Pb.doE
 rw [if_neg (fun e => e h),if_neg (fun e => e hc)]
 exact a.sp
theorem Pb.able_ok {p:Pb} {d:Dc} (h:p.chk=0) (a:p.Able d):p.okTo d p.loads.length=true:=by
 have g:=Pb.good h
 simp only [Pb.okTo,List.all_eq_true,List.mem_range]
 intro i hi
 unfold Ld.okNext
 cases hb:d.starts.getD i false
 ·rw [Bool.false_or]
  refine Ld.can_yes (Ld.chk96 (Pb.load_at g hi)) ?_
  have:=a.nx i hi hb
  unfold clampK
  rw [if_neg (by omega),if_neg (by omega)]
  omega
 ·rfl
theorem Pb.able_adv {p:Pb} {d:Dc} (h:p.chk=0) (a:p.Able d) (hn:1 < p.n):p.advE d=0:=by
 unfold Pb.advE
 rw [if_neg (fun e => e (Pb.able_do h a)),if_neg (by omega),if_neg (by rw [Pb.able_ok h a]; decide)]
theorem Ld.next_chk {r:Ld} {n:Int} {b:Bool} (h:r.chk n=0) (n1:1 < n) (hs:b=true→r.early=0) (hx:b=false→(r.prof.length:Int) < r.late) (hh:r.hasNext b=true):(r.next b).chk (n - 1)=0:=by
 have g:=Ld.good h
 have g1:=g.n1; have g2:=g.p0; have g3:=g.p1; have g4:=g.l1; have g5:=g.e0; have g6:=g.p
 cases b
 ·have h2:=hx rfl
  have hc:r.canShift 1=true:=by
   refine Ld.can_yes (Ld.chk96 h) ?_
   unfold clampK
   rw [if_neg (by omega),if_neg (by omega)]
   omega
  show (if false=true then _ else r.shift 1).chk (n - 1)=0
  rw [if_neg (by decide),Ld.shift_yes hc]
  exact Ld.moved_chk h (by omega) n1 hc
 ·have h2:=hs rfl
  have h3:1 < r.prof.length:=by simpa [Ld.hasNext] using hh
  show (Ld.mk r.name (r.prof.drop 1) 0 ((r.prof.length:Int) - 1)).chk (n - 1)=0
  rw [Ld.chk_iff]
  refine ⟨g.name,?_,?_,?_⟩
  ·simp only [Ld.lim,List.length_drop,decide_eq_true_iff]; omega
  ·have hu:=g.units
   rw [List.all_eq_true] at hu ⊢
   exact fun z hz => hu z (List.mem_of_mem_drop hz)
  ·simp only [Ld.span,List.length_drop,decide_eq_true_iff]; omega
theorem Ld.next_name {r:Ld} {b:Bool} (h:r.okNext b=true):(r.next b).name=r.name:=by
 cases b
 ·show (if false=true then _ else r.shift 1).name=_
  rw [if_neg (by decide),Ld.shift_yes (by simpa [Ld.okNext] using h)]; rfl
 ·rfl
theorem Pb.nexts_names {p:Pb} {d:Dc} (h:p.okTo d p.loads.length=true) {j:Nat} (hj:j ≤ p.loads.length):((p.nexts d j).map Ld.name).Sublist ((p.loads.take j).map Ld.name):=by
 simp only [Pb.okTo,List.all_eq_true,List.mem_range] at h
 induction j with
 | zero => simp [Pb.nexts,Pb.whichs]
 | succ j ih =>
  have ih:=ih (by omega)
  rw [Pb.nexts_succ,List.take_succ_eq_append_getElem (show j < p.loads.length by omega),List.map_append]
  have e:p.loads.getD j Ld.zero=p.loads[j]:=by simp [List.getD,show j < p.loads.length by omega]
  split
  ·rw [List.map_append]
   refine ih.append ?_
   simp only [List.map_cons,List.map_nil]
   rw [Ld.next_name (h j (by omega)),e]
   exact List.Sublist.refl _
  ·exact ih.trans (List.sublist_append_left _ _)
theorem Pb.adv_n (p:Pb) (d:Dc):(p.adv d).n=p.n - 1:=by simp [Pb.n,Pb.adv]
theorem Pb.adv_chk {p:Pb} {d:Dc} (h:p.chk=0) (a:p.Able d) (hn:1 < p.n):(p.adv d).chk=0:=by
 have g:=Pb.good h
 obtain ⟨e1,e2,e3⟩:=g.lens
 have hl:=step_ok_bd a.sp
 have ht : -1000 ≤ p.nextTm d∧p.nextTm d ≤ 2000:=stepT_bd _ _ _ _ _ _
 have hok:=Pb.able_ok h a
 have hn2:(((p.adv d).n:Nat):Int)=(p.n:Int) - 1:=by rw [Pb.adv_n]; omega
 apply Pb.chk_of
 refine ⟨Tf.rest_chk g.t hn,?_,allB_drop 1 g.so,allB_drop 1 g.de,allB_drop 1 g.ou,g.bat,?_,?_,hl.1,hl.2,ht.1,ht.2⟩
 ·rw [Pb.adv_n]
  simp only [Pb.adv,List.length_drop]
  omega
 ·rw [Pb.adv_n]; exact Rm.rest_chk g.room hn
 ·rw [hn2]
  have g0:=allChk_iff.1 g.loads
  show allChk (p.nexts d p.loads.length) _=0
  rw [allChk_iff]
  refine ⟨?_,?_,?_⟩
  ·rw [Pb.nexts_len]; exact Nat.le_trans (Pb.whichs_len _ _ _) g0.1
  ·intro y hy
   unfold Pb.nexts at hy
   rw [List.mem_map] at hy
   obtain ⟨i,hi,rfl⟩:=hy
   rw [Pb.whichs_mem] at hi
   exact Ld.next_chk (Pb.load_at g hi.1) (by omega) (a.st i hi.1) (a.nx i hi.1) hi.2
  ·have hs:=Pb.nexts_names hok (Nat.le_refl p.loads.length)
   rw [List.take_length] at hs
   exact List.Nodup.sublist hs g0.2.2
theorem Pb.whichs_pre (p:Pb) (d:Dc) {a b:Nat} (h:a ≤ b):p.whichs d a <+: p.whichs d b:=by
 induction b with
 | zero => rw [show a=0 by omega]; exact List.prefix_refl _
 | succ b ih =>
  by_cases e:a=b+1
  ·rw [e]; exact List.prefix_refl _
  ·have ih:=ih (by omega)
   rw [Pb.whichs_succ]
   split
   ·exact ih.trans (List.prefix_append _ _)
   ·exact ih
theorem Pb.whichs_at {p:Pb} {d:Dc} {j m:Nat} (hj:j ∈ p.whichs d m):(p.whichs d j).length < (p.whichs d m).length∧(p.whichs d m).getD (p.whichs d j).length 0=j:=by
 have h:=Pb.whichs_mem.1 hj
 have h2:=Pb.whichs_pre p d (show j+1 ≤ m by omega)
 rw [Pb.whichs_succ,if_pos h.2] at h2
 obtain ⟨r,hr⟩:=h2
 rw [← hr]
 exact ⟨by simp,by simp [List.getD]⟩
theorem Pb.nexts_get {p:Pb} {d:Dc} {m k:Nat} (hk:k < (p.whichs d m).length):(p.nexts d m).getD k Ld.zero=(p.loads.getD ((p.whichs d m).getD k 0) Ld.zero).next (d.starts.getD ((p.whichs d m).getD k 0) false):=by
 unfold Pb.nexts
 simp [List.getD,hk]
def setStart (st:List Int) (ids:List Nat) (bs:List Bool) (slot:Int):Nat→List Int
 | 0 => st
 | k+1 => if bs.getD k false=true∧(setStart st ids bs slot k).getD (ids.getD k 0) 0 < 0 then (setStart st ids bs slot k).set (ids.getD k 0) slot else setStart st ids bs slot k
structure Sim where
 q:Pb
 ids:List Nat
 start:List Int
def Sim.next (s:Sim) (i:Nat):Sim :=
 ⟨s.q.adv s.q.dec,(s.q.whichs s.q.dec s.q.loads.length).map fun k => s.ids.getD k 0,setStart s.start s.ids s.q.dec.starts i s.q.dec.starts.length⟩
def Pb.sim (p:Pb):Nat→Sim
 | 0 => ⟨p,List.range p.loads.length,List.replicate p.loads.length (-1)⟩
 | i+1 => (p.sim i).next i
def Pb.simC (p:Pb) (k:Nat):List Int:=(List.range k).map fun i => (p.sim i).q.dec.charge
def Pb.simH (p:Pb) (k:Nat):List Int:=(List.range k).map fun i => (p.sim i).q.dec.heat
def Pb.simP (p:Pb):Pn:=if p.chk ≠ 0 then Pn.zero else ⟨p.simC p.n,p.simH p.n,(p.sim p.n).start⟩
theorem Pb.simC_succ (p:Pb) (k:Nat):p.simC (k+1)=p.simC k ++ [(p.sim k).q.dec.charge]:=by simp [Pb.simC,List.range_succ]
theorem Pb.simH_succ (p:Pb) (k:Nat):p.simH (k+1)=p.simH k ++ [(p.sim k).q.dec.heat]:=by simp [Pb.simH,List.range_succ]
theorem setStart_len (st:List Int) (ids:List Nat) (bs:List Bool) (slot:Int) (m:Nat):(setStart st ids bs slot m).length=st.length:=by
 induction m with
 | zero => rfl
 | succ m ih => rw [setStart]; split <;> simp [ih]
theorem set_getD (l:List Int) (i j:Nat) (v:Int) (hj:j < l.length):(l.set i v).getD j 0=if i=j then v else l.getD j 0:=by
 simp only [List.getD,List.getElem?_set]
 split
 ·rename_i h; subst h; simp [hj]
 ·rfl
theorem setStart_get {st:List Int} {ids:List Nat} {bs:List Bool} {slot:Int} (m:Nat) {j:Nat} (hj:j < st.length) :
  ((∃ k,k < m∧bs.getD k false=true∧ids.getD k 0=j)→st.getD j 0 < 0→(setStart st ids bs slot m).getD j 0=slot) ∧
  (¬ (∃ k,k < m∧bs.getD k false=true∧ids.getD k 0=j)→(setStart st ids bs slot m).getD j 0=st.getD j 0) ∧
  (0 ≤ st.getD j 0→(setStart st ids bs slot m).getD j 0=st.getD j 0):=by
 induction m with
 | zero => exact ⟨fun ⟨k,hk,_⟩ => by omega,fun _ => rfl,fun _ => rfl⟩
 | succ m ih =>
  obtain ⟨h1,h2,h3⟩:=ih
  have hl:j < (setStart st ids bs slot m).length:=by rw [setStart_len]; exact hj
  rw [setStart]
  refine ⟨?_,?_,?_⟩
  ·rintro ⟨k,hk,hb,he⟩ hneg
   by_cases hex:∃ k,k < m∧bs.getD k false=true∧ids.getD k 0=j
   ·have h4:=h1 hex hneg
    split
    ·rw [set_getD _ _ _ _ hl]
     split
     ·rfl
     ·exact h4
    ·exact h4
   ·have hkm:k=m:=by
     by_cases e:k=m
     ·exact e
     ·exact absurd ⟨k,by omega,hb,he⟩ hex
    subst hkm
    have h4:=h2 hex
    rw [if_pos ⟨hb,by rw [he,h4]; exact hneg⟩,set_getD _ _ _ _ hl,if_pos he]
  ·intro hno
   have h4:=h2 fun ⟨k,hk,hb,he⟩ => hno ⟨k,by omega,hb,he⟩
   split
   ·rename_i hc
    rw [set_getD _ _ _ _ hl,if_neg (fun e => hno ⟨m,by omega,hc.1,e⟩)]
    exact h4
   ·exact h4
  ·intro hp
   have h4:=h3 hp
   split
   ·rename_i hc
    rw [set_getD _ _ _ _ hl]
    split
    ·rename_i e
     rw [e,h4] at hc
     omega
    ·exact h4
   ·exact h4
structure SimOk (p:Pb) (i:Nat) (s:Sim):Prop where
 pc:p.chk=0
 chk:s.q.chk=0
 n:s.q.n=p.n - i
 lim:i < p.n
 steps:s.q.room.steps=p.room.steps
 len:s.ids.length=s.q.loads.length
 lt:∀ k,k < s.ids.length→s.ids.getD k 0 < p.loads.length
 inj:s.ids.Pairwise (· < ·)
 name:∀ k,k < s.ids.length→(s.q.loads.getD k Ld.zero).name=(p.loads.getD (s.ids.getD k 0) Ld.zero).name
 sl:s.start.length=p.loads.length
 st:∀ j,j < p.loads.length→0 ≤ s.start.getD j 0→(p.loads.getD j Ld.zero).fit (s.start.getD j 0) p.n=true
 un:∀ j,j < p.loads.length→s.start.getD j 0 < 0→∃ k,k < s.ids.length∧s.ids.getD k 0=j∧(s.q.loads.getD k Ld.zero).prof=(p.loads.getD j Ld.zero).prof ∧
  (s.q.loads.getD k Ld.zero).late=(p.loads.getD j Ld.zero).late - i∧(s.q.loads.getD k Ld.zero).early=if (p.loads.getD j Ld.zero).early - i < 0 then 0 else (p.loads.getD j Ld.zero).early - i
theorem Pb.sim_zero {p:Pb} (h:p.chk=0):SimOk p 0 (p.sim 0):=by
 have g:=Pb.good h
 have hn:=Pb.nbd g
 refine ⟨h,h,rfl,by omega,rfl,by simp [Pb.sim],fun k hk => ?_,List.pairwise_lt_range,fun k hk => ?_,by simp [Pb.sim],fun j hj h0 => ?_,fun j hj h0 => ?_⟩
 ·have hk:k < p.loads.length:=by simpa [Pb.sim] using hk
  show (List.range p.loads.length).getD k 0 < _
  rw [range_getD hk]; exact hk
 ·have hk:k < p.loads.length:=by simpa [Pb.sim] using hk
  show (p.loads.getD k Ld.zero).name=(p.loads.getD ((List.range p.loads.length).getD k 0) Ld.zero).name
  rw [range_getD hk]
 ·have h0:0 ≤ (List.replicate p.loads.length (-1:Int)).getD j 0:=h0
  rw [show (List.replicate p.loads.length (-1:Int)).getD j 0 = -1 by simp [List.getD,hj]] at h0
  omega
 ·have g1:=(Ld.good (Pb.load_at g hj)).e0
  refine ⟨j,by simpa [Pb.sim] using hj,range_getD hj,rfl,?_,?_⟩
  ·show (p.loads.getD j Ld.zero).late=_
   omega
  ·show (p.loads.getD j Ld.zero).early=_
   rw [if_neg (by omega)]
   omega
theorem SimOk.inj' {p:Pb} {i:Nat} {s:Sim} (h:SimOk p i s) {a b:Nat} (ha:a < s.ids.length) (hb:b < s.ids.length) (e:s.ids.getD a 0=s.ids.getD b 0):a=b:=by
 have hp:=List.pairwise_iff_getElem.1 h.inj
 rw [show s.ids.getD a 0=s.ids[a] by simp [List.getD,ha],show s.ids.getD b 0=s.ids[b] by simp [List.getD,hb]] at e
 rcases Nat.lt_trichotomy a b with h1 | h1 | h1
 ·have:=hp a b ha hb h1; omega
 ·exact h1
 ·have:=hp b a hb ha h1; omega
theorem SimOk.able {p:Pb} {i:Nat} {s:Sim} (h:SimOk p i s):s.q.Able s.q.dec:=Pb.dec_able h.chk
theorem SimOk.starts {p:Pb} {i:Nat} {s:Sim} (h:SimOk p i s) {j:Nat} (hj:j < p.loads.length) :
  (0 ≤ (s.next i).start.getD j 0→(p.loads.getD j Ld.zero).fit ((s.next i).start.getD j 0) p.n=true) ∧
  ((s.next i).start.getD j 0 < 0→s.start.getD j 0 < 0∧∀ k,k < s.ids.length→s.ids.getD k 0=j→s.q.dec.starts.getD k false=false):=by
 have a:=h.able
 have g:=Pb.good h.chk
 have hb:=a.len
 have hl:=h.len
 have hs:=setStart_get (ids:=s.ids) (bs:=s.q.dec.starts) (slot:=(i:Int)) s.q.dec.starts.length (st:=s.start) (j:=j) (by rw [h.sl]; exact hj)
 show (0 ≤ (setStart s.start s.ids s.q.dec.starts i s.q.dec.starts.length).getD j 0→(p.loads.getD j Ld.zero).fit ((setStart s.start s.ids s.q.dec.starts i s.q.dec.starts.length).getD j 0) p.n=true)∧((setStart s.start s.ids s.q.dec.starts i s.q.dec.starts.length).getD j 0 < 0→_)
 generalize setStart s.start s.ids s.q.dec.starts i s.q.dec.starts.length=T at *
 by_cases h0:0 ≤ s.start.getD j 0
 ·rw [hs.2.2 h0]
  exact ⟨fun _ => h.st j hj h0,fun h1 => by omega⟩
 ·obtain ⟨k,hk,he,e1,e2,e3⟩:=h.un j hj (by omega)
  by_cases hbk:s.q.dec.starts.getD k false=true
  ·rw [hs.1 ⟨k,by omega,hbk,he⟩ (by omega)]
   refine ⟨fun _ => ?_,fun h1 => by omega⟩
   have h4:=a.st k (by omega) hbk
   rw [e3] at h4
   have hq:=Ld.good (Pb.load_at g (i:=k) (by omega))
   have q1:=hq.p; have q2:=hq.l1; have q3:=hq.p0
   rw [e1,e2,e3] at q1
   rw [e2,h.n] at q2
   have hi:=h.lim
   rw [Ld.fit_iff]
   refine ⟨?_,?_,?_⟩
   ·exact Pb.load_at (Pb.good h.pc) hj
   ·split at h4 <;> omega
   ·rw [h4] at q1; omega
  ·rw [hs.2.1 (fun ⟨k2,hk2,hb2,he2⟩ => by
    have:=h.inj' (a:=k2) (b:=k) (by omega) hk (by rw [he2,he])
    subst this
    exact hbk hb2)]
   refine ⟨fun h1 => by omega,fun _ => ⟨by omega,fun k2 hk2 he2 => ?_⟩⟩
   have:=h.inj' hk2 hk (by rw [he2,he])
   subst this
   simpa using hbk
theorem SimOk.next {p:Pb} {i:Nat} {s:Sim} (h:SimOk p i s) (hi:i+1 < p.n):SimOk p (i+1) (s.next i):=by
 have a:=h.able
 have g:=Pb.good h.chk
 have hn:1 < s.q.n:=by rw [h.n]; omega
 have hqc:=Pb.adv_chk h.chk a hn
 have hok:=Pb.able_ok h.chk a
 have hl:=h.len
 have hidn:(s.next i).ids.length=(s.q.whichs s.q.dec s.q.loads.length).length:=by simp [Sim.next]
 have hid:∀ k,k < (s.next i).ids.length→(s.next i).ids.getD k 0=s.ids.getD ((s.q.whichs s.q.dec s.q.loads.length).getD k 0) 0∧(s.q.whichs s.q.dec s.q.loads.length).getD k 0 < s.ids.length:=fun k hk => by
  rw [hidn] at hk
  refine ⟨getD_map hk 0 0,?_⟩
  have hm:(s.q.whichs s.q.dec s.q.loads.length)[k] ∈ s.q.whichs s.q.dec s.q.loads.length:=List.getElem_mem hk
  rw [show (s.q.whichs s.q.dec s.q.loads.length).getD k 0=(s.q.whichs s.q.dec s.q.loads.length)[k] by simp [List.getD,hk]]
  have:=(Pb.whichs_mem.1 hm).1
  omega
 have hld:∀ k,k < (s.next i).ids.length→(s.next i).q.loads.getD k Ld.zero=(s.q.loads.getD ((s.q.whichs s.q.dec s.q.loads.length).getD k 0) Ld.zero).next (s.q.dec.starts.getD ((s.q.whichs s.q.dec s.q.loads.length).getD k 0) false):=fun k hk => by
  rw [hidn] at hk
  exact Pb.nexts_get hk
 have hokk:∀ k,k < s.q.loads.length→(s.q.loads.getD k Ld.zero).okNext (s.q.dec.starts.getD k false)=true:=by
  simp only [Pb.okTo,List.all_eq_true,List.mem_range] at hok
  exact hok
 refine ⟨h.pc,hqc,?_,hi,h.steps,?_,?_,?_,?_,?_,?_,?_⟩
 ·show (s.q.adv s.q.dec).n=_
  rw [Pb.adv_n,h.n]; omega
 ·rw [hidn]
  show _=(s.q.nexts s.q.dec s.q.loads.length).length
  rw [Pb.nexts_len]
 ·intro k hk
  rw [(hid k hk).1]
  exact h.lt _ (hid k hk).2
 ·show ((s.q.whichs s.q.dec s.q.loads.length).map fun k => s.ids.getD k 0).Pairwise (· < ·)
  rw [List.pairwise_map]
  refine (List.Pairwise.and_mem.1 (Pb.whichs_sorted s.q s.q.dec s.q.loads.length)).imp ?_
  rintro x y ⟨hx,hy,hxy⟩
  have hx:=(Pb.whichs_mem.1 hx).1
  have hy:=(Pb.whichs_mem.1 hy).1
  have:=List.pairwise_iff_getElem.1 h.inj x y (by omega) (by omega) hxy
  rwa [show s.ids.getD x 0=s.ids[x]'(by omega) by simp [List.getD,show x < s.ids.length by omega],show s.ids.getD y 0=s.ids[y]'(by omega) by simp [List.getD,show y < s.ids.length by omega]]
 ·intro k hk
  rw [(hid k hk).1,hld k hk,Ld.next_name (hokk _ (by have:=(hid k hk).2; omega))]
  exact h.name _ (hid k hk).2
 ·show (setStart _ _ _ _ _).length=_
  rw [setStart_len]; exact h.sl
 ·exact fun j hj h0 => (h.starts hj).1 h0
 ·intro j hj h0
  obtain ⟨h1,h2⟩:=(h.starts hj).2 h0
  obtain ⟨k,hk,he,e1,e2,e3⟩:=h.un j hj h1
  have hb:=h2 k hk he
  have hm:k ∈ s.q.whichs s.q.dec s.q.loads.length:=by
   rw [Pb.whichs_mem,hb]
   exact ⟨by omega,rfl⟩
  obtain ⟨k1,k2⟩:=Pb.whichs_at hm
  have hk1:(s.q.whichs s.q.dec k).length < (s.next i).ids.length:=by rw [hidn]; exact k1
  have hc:=hokk k (by omega)
  rw [hb] at hc
  have hsh:(s.q.loads.getD k Ld.zero).next false=(s.q.loads.getD k Ld.zero).moved 1:=by
   unfold Ld.next; rw [if_neg (by decide),Ld.shift_yes (by simpa [Ld.okNext] using hc)]
  refine ⟨(s.q.whichs s.q.dec k).length,hk1,?_,?_,?_,?_⟩
  ·rw [(hid _ hk1).1,k2,he]
  ·rw [hld _ hk1,k2,hb,hsh]; exact e1
  ·rw [hld _ hk1,k2,hb,hsh]
   show (s.q.loads.getD k Ld.zero).late - clampK 1=_
   rw [e2]
   unfold clampK
   rw [if_neg (by omega),if_neg (by omega)]
   omega
  ·rw [hld _ hk1,k2,hb,hsh]
   show (if (s.q.loads.getD k Ld.zero).early - clampK 1 < 0 then 0 else (s.q.loads.getD k Ld.zero).early - clampK 1)=_
   rw [e3]
   unfold clampK
   rw [if_neg (show ¬ (1:Int) < 0 by omega),if_neg (show ¬ (96:Int) < 1 by omega)]
   split <;> split <;> split <;> omega
theorem Pb.sim_ok {p:Pb} (h:p.chk=0) {i:Nat} (hi:i < p.n):SimOk p i (p.sim i):=by
 induction i with
 | zero => exact Pb.sim_zero h
 | succ i ih => exact (ih (by omega)).next hi
theorem Pb.sim_end {p:Pb} (h:p.chk=0):(p.sim p.n).start.length=p.loads.length∧∀ j,j < p.loads.length→(p.loads.getD j Ld.zero).fit ((p.sim p.n).start.getD j 0) p.n=true:=by
 have hn:=Pb.nbd (Pb.good h)
 obtain ⟨m,hm⟩:∃ m,p.n=m+1:=⟨p.n - 1,by omega⟩
 have hs:=Pb.sim_ok h (i:=m) (by omega)
 have e:p.sim p.n=(p.sim m).next m:=by rw [hm]; rfl
 rw [e]
 refine ⟨by show (setStart _ _ _ _ _).length=_; rw [setStart_len]; exact hs.sl,fun j hj => ?_⟩
 by_cases h0:0 ≤ ((p.sim m).next m).start.getD j 0
 ·exact (hs.starts hj).1 h0
 ·exfalso
  obtain ⟨h1,h2⟩:=(hs.starts hj).2 (by omega)
  obtain ⟨k,hk,he,e1,e2,e3⟩:=hs.un j hj h1
  have hb:=h2 k hk he
  have hl:=hs.len
  have h3:=hs.able.nx k (by omega) hb
  have gl:=Ld.good (Pb.load_at (Pb.good hs.chk) (i:=k) (by omega))
  have q1:=gl.l1; have q2:=gl.p0
  rw [hs.n] at q1
  omega
theorem Pb.sim_plan {p:Pb} (h:p.chk=0):p.simP=⟨p.simC p.n,p.simH p.n,(p.sim p.n).start⟩:=by unfold Pb.simP; rw [if_neg (fun e => e h)]
theorem Pb.sim_lens {p:Pb} (h:p.chk=0):p.simP.charge.length=p.n∧p.simP.heat.length=p.n∧p.simP.start.length=p.loads.length∧∀ j,j < p.loads.length→(p.loads.getD j Ld.zero).fit (p.simP.start.getD j 0) p.n=true:=by
 obtain ⟨h1,h2⟩:=Pb.sim_end h
 rw [Pb.sim_plan h]
 exact ⟨by simp [Pb.simC],by simp [Pb.simH],h1,h2⟩
end Go.Proofs.YtnppngaabfhkpaaGreat
