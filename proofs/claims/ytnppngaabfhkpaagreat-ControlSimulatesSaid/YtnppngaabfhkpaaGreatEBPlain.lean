/-
  The plain mathematics of a battery (layer 39): what Check, Step, Choices, Reach and Round compute, on integers and lists. No program in sight.
-/
import Derived.Calls
namespace Go.Proofs.YtnppngaabfhkpaaGreat
structure Bat where
 cap : Int
 reserve : Int
 charge : Int
 discharge : Int
 eff : Int
def Bat.v (b : Bat) : Value := .agg #[.int .i64 b.cap,.int .i64 b.reserve,.int .i64 b.charge,.int .i64 b.discharge,.int .i64 b.eff]
def wB (n lo hi : Int) : Bool:=decide (lo ≤ n) && decide (n ≤ hi)
theorem wB_true {n lo hi : Int} : wB n lo hi = true ↔ lo ≤ n∧n ≤ hi:=by simp [wB]
theorem wB_false {n lo hi : Int} : wB n lo hi = false ↔ n < lo ∨ hi < n:=by
 cases h : wB n lo hi
 ·have : ¬ (lo ≤ n∧n ≤ hi):=fun g => by rw [wB_true.2 g] at h; cases h
  simp; omega
 ·have:=wB_true.1 h; simp; omega
def Bat.ok (b : Bat) : Bool:=wB b.cap 0 40 && (wB b.reserve 0 b.cap && (wB b.charge 0 40 && (wB b.discharge 0 40 && wB b.eff 500 1000)))
structure Bat.Good (b : Bat) : Prop where
 cap0 : 0 ≤ b.cap
 cap1 : b.cap ≤ 40
 res0 : 0 ≤ b.reserve
 res1 : b.reserve ≤ b.cap
 ch0 : 0 ≤ b.charge
 ch1 : b.charge ≤ 40
 di0 : 0 ≤ b.discharge
 di1 : b.discharge ≤ 40
 ef0 : 500 ≤ b.eff
 ef1 : b.eff ≤ 1000
theorem Bat.good {b : Bat} (h : b.ok = true) : b.Good:=by
 simp only [Bat.ok,Bool.and_eq_true,wB_true] at h
 obtain ⟨⟨a1,a2⟩,⟨b1,b2⟩,⟨c1,c2⟩,⟨d1,d2⟩,e1,e2⟩:=h
 exact ⟨a1,a2,b1,b2,c1,c2,d1,d2,e1,e2⟩
def Bat.chk (b : Bat) : Int:=if b.ok = true then 0 else 2
def drawnZ (b : Bat) (c : Int) : Int:=if 0 < c then (1000 * c+b.eff - 1) / b.eff else c
def stepZ (b : Bat) (l c : Int) : Int × Int × Int :=
 if b.ok = false then (0,0,2) else
 if l < 0 ∨ b.cap < l ∨ c < -b.discharge ∨ b.charge < c then (0,0,2) else
 if b.cap < l+c ∨ (c < 0∧l+c < b.reserve) then (0,0,20) else (l+c,drawnZ b c,0)
def canZ (b : Bat) (l c : Int) : Bool:=decide ((stepZ b l c).2.2 = 0)
theorem canZ_iff {b : Bat} {l c : Int} : canZ b l c = true ↔ b.ok = true∧0 ≤ l∧l ≤ b.cap ∧ -b.discharge ≤ c∧c ≤ b.charge∧l+c ≤ b.cap∧(0 ≤ c ∨ b.reserve ≤ l+c):=by
 unfold canZ stepZ
 by_cases h : b.ok = false
 ·simp [h]
 ·rw [if_neg h]
  have h' : b.ok = true:=by simpa using h
  by_cases h2 : l < 0 ∨ b.cap < l ∨ c < -b.discharge ∨ b.charge < c
  ·rw [if_pos h2]; simp [h']; omega
  ·rw [if_neg h2]
   by_cases h3 : b.cap < l+c ∨ (c < 0∧l+c < b.reserve)
   ·rw [if_pos h3]; simp [h']; omega
   ·rw [if_neg h3]; simp [h']; omega
def choicesZ (b : Bat) (l : Int) : List Int :=
 if b.ok = true then ((List.range (b.discharge+b.charge+1).toNat).map fun (i : Nat) => (i : Int) - b.discharge).filter (canZ b l) else []
def span (a : Int) (n : Nat) : List Int:=(List.range n).map fun (i : Nat) => a+(i : Int)
theorem span_succ (a : Int) (n : Nat) : span a (n+1) = span a n ++ [a+(n : Int)]:=by simp [span,List.range_succ]
theorem span_add (a : Int) (m n : Nat) : span a (m+n) = span a m ++ span (a+(m : Int)) n:=by
 induction n with
 | zero => simp [span]
 | succ n ih => rw [← Nat.add_assoc,span_succ,ih,span_succ,List.append_assoc]; congr 3; push_cast; omega
theorem mem_span {a x : Int} {n : Nat} : x ∈ span a n ↔ a ≤ x∧x < a+(n : Int):=by
 simp only [span,List.mem_map,List.mem_range]
 constructor
 ·rintro ⟨i,hi,rfl⟩; omega
 ·intro ⟨h1,h2⟩; exact ⟨(x - a).toNat,by omega,by omega⟩
theorem span_length (a : Int) (n : Nat) : (span a n).length = n:=by simp [span]
theorem filter_span_none {p : Int→Bool} {a : Int} {n : Nat} (h : ∀ x,a ≤ x→x < a+(n : Int)→p x = false) : (span a n).filter p = []:=by
 rw [List.filter_eq_nil_iff]
 intro x hx
 rw [mem_span] at hx
 rw [h x hx.1 hx.2]
 simp
theorem filter_span {p : Int→Bool} {a c : Int} {n m : Nat} (h0 : a ≤ c) (h1 : c+(m : Int) ≤ a+(n : Int)) (hl : ∀ x,x < c→p x = false) (hr : ∀ x,c+(m : Int) ≤ x→p x = false) :
  (span a n).filter p = (span c m).filter p:=by
 obtain ⟨k,hk⟩ : ∃ k : Nat,n = (c - a).toNat+(m+k):=⟨n - ((c - a).toNat+m),by omega⟩
 subst hk
 rw [span_add,span_add,List.filter_append,List.filter_append,filter_span_none (fun x _ h => hl x (by omega)),
  show a+(((c - a).toNat : Nat) : Int) = c by omega,filter_span_none (a:=c+(m : Int)) (fun x h _ => hr x h)]
 simp
theorem choicesZ_span (b : Bat) (l : Int) : choicesZ b l = (span (-40) 81).filter (canZ b l):=by
 unfold choicesZ
 by_cases h : b.ok = true
 ·rw [if_pos h]
  have hg:=Bat.good h
  have d0:=hg.di0; have d1:=hg.di1; have c0:=hg.ch0; have c1:=hg.ch1
  rw [filter_span (c := -b.discharge) (m:=(b.discharge+b.charge+1).toNat) (by omega) (by omega)]
  ·unfold span
   congr 2
   funext i
   omega
  ·intro x hx
   rw [← Bool.not_eq_true,canZ_iff]; omega
  ·intro x hx
   rw [← Bool.not_eq_true,canZ_iff]; omega
 ·rw [if_neg h]
  symm
  rw [List.filter_eq_nil_iff]
  intro x _
  rw [canZ_iff]
  simp [h]
theorem mem_choicesZ {b : Bat} {l c : Int} : c ∈ choicesZ b l ↔ canZ b l c = true:=by
 rw [choicesZ_span,List.mem_filter,mem_span]
 constructor
 ·exact fun h => h.2
 ·intro h
  refine ⟨?_,h⟩
  rw [canZ_iff] at h
  have hg:=Bat.good h.1
  have d0:=hg.di0; have d1:=hg.di1; have c0:=hg.ch0; have c1:=hg.ch1
  omega
theorem choicesZ_length (b : Bat) (l : Int) : (choicesZ b l).length ≤ 81:=by
 rw [choicesZ_span]
 exact Nat.le_trans (List.length_filter_le _ _) (by rw [span_length]; omega)
structure Rm where
 gain : Int
 loss : Int
 steps : Int
 power : Int
 low : List Int
 high : List Int
def Rm.v (r : Rm) (A : Option Addr) (c : Nat) (B : Option Addr) (d : Nat) : Value := .agg #[.int .i64 r.gain,.int .i64 r.loss,.int .i64 r.steps,.int .i64 r.power,.slice A r.low.length c,.slice B r.high.length d]
def Rm0 : Rm:=⟨0,0,0,0, [], []⟩
def wT (n lo hi : Int) : Bool:=decide (lo ≤ n) && decide (n ≤ hi)
theorem wT_true {n lo hi : Int} : wT n lo hi = true ↔ lo ≤ n∧n ≤ hi:=by simp [wT]
theorem wT_false {n lo hi : Int} : wT n lo hi = false ↔ n < lo ∨ hi < n:=by
 cases h : wT n lo hi
 ·have : ¬ (lo ≤ n∧n ≤ hi):=fun g => by rw [wT_true.2 g] at h; cases h
  simp; omega
 ·have:=wT_true.1 h; simp; omega
def slotOk (lo hi : Int) : Bool:=decide (-500 ≤ lo) && (decide (lo ≤ hi) && decide (hi ≤ 1000))
theorem slotOk_true {lo hi : Int} : slotOk lo hi = true ↔ -500 ≤ lo∧lo ≤ hi∧hi ≤ 1000:=by simp [slotOk]
def Rm.slotsTo (r : Rm) (k : Nat) : Bool:=(List.range k).all fun i => slotOk (r.low.getD i 0) (r.high.getD i 0)
theorem Rm.slotsTo_succ (r : Rm) (k : Nat) : r.slotsTo (k+1) = (r.slotsTo k && slotOk (r.low.getD k 0) (r.high.getD k 0)):=by
 simp [Rm.slotsTo,List.range_succ,List.all_append]
def Rm.numsOk (r : Rm) : Bool:=wT r.gain 0 100 && (wT r.loss 0 1000 && (wT r.steps 0 40 && wT r.power 0 1000))
def Rm.sizeOk (r : Rm) (n : Int) : Bool:=decide (1 ≤ n∧n ≤ 96∧(r.low.length : Int) = n∧(r.high.length : Int) = n)
def Rm.chk (r : Rm) (n : Int) : Int:=if r.sizeOk n = true then (if r.numsOk = true then (if r.slotsTo r.low.length = true then 0 else 2) else 2) else 3
def Rm.slotErr (r : Rm) (k : Nat) : Int:=if r.slotsTo k = true then 0 else 2
theorem Rm.chk_size {r : Rm} {n : Int} (h : r.sizeOk n = false) : r.chk n = 3:=by unfold Rm.chk; rw [if_neg (by simp [h])]
theorem Rm.chk_nums {r : Rm} {n : Int} (h : r.sizeOk n = true) (h2 : r.numsOk = false) : r.chk n = 2:=by unfold Rm.chk; rw [if_pos h,if_neg (by simp [h2])]
theorem Rm.chk_ok {r : Rm} {n : Int} (h : r.sizeOk n = true) (h2 : r.numsOk = true) (h3 : r.slotsTo r.low.length = true) : r.chk n = 0:=by unfold Rm.chk; rw [if_pos h,if_pos h2,if_pos h3]
theorem Rm.slotsTo_le {r : Rm} {k m : Nat} (h : r.slotsTo k = false) (hm : k ≤ m) : r.slotsTo m = false:=by
 rw [← Bool.not_eq_true] at h ⊢
 simp only [Rm.slotsTo,List.all_eq_true,List.mem_range] at h ⊢
 exact fun g => h fun i hi => g i (by omega)
theorem Rm.size_false {r : Rm} {n : Int} (h : r.sizeOk n = false) : (n < 1 ∨ 96 < n) ∨ ((1 ≤ n∧n ≤ 96)∧(r.low.length : Int) ≠ n) ∨ ((1 ≤ n∧n ≤ 96)∧(r.low.length : Int) = n∧(r.high.length : Int) ≠ n):=by
 simp only [Rm.sizeOk,decide_eq_false_iff_not] at h
 omega
theorem Rm.size_true {r : Rm} {n : Int} (h : r.sizeOk n = true) : 1 ≤ n∧n ≤ 96∧(r.low.length : Int) = n∧(r.high.length : Int) = n:=by
 simpa only [Rm.sizeOk,decide_eq_true_eq] using h
def Rm.ok (r : Rm) : Bool:=decide (r.chk r.low.length = 0)
def Rm.valid (r : Rm) : Rm:=if r.ok = true then r else Rm0
structure Rm.Good (r : Rm) : Prop where
 len0 : 1 ≤ r.low.length
 len1 : r.low.length ≤ 96
 len2 : r.high.length = r.low.length
 g0 : 0 ≤ r.gain
 g1 : r.gain ≤ 100
 l0 : 0 ≤ r.loss
 l1 : r.loss ≤ 1000
 s0 : 0 ≤ r.steps
 s1 : r.steps ≤ 40
 p0 : 0 ≤ r.power
 p1 : r.power ≤ 1000
 slots : ∀ i,i < r.low.length → -500 ≤ r.low.getD i 0∧r.low.getD i 0 ≤ r.high.getD i 0∧r.high.getD i 0 ≤ 1000
theorem Rm.good {r : Rm} (h : r.ok = true) : r.Good:=by
 simp only [Rm.ok,decide_eq_true_eq] at h
 unfold Rm.chk at h
 split at h
 ·rename_i hs
  split at h
  ·rename_i hn
   split at h
   ·rename_i hsl
    simp only [Rm.sizeOk,decide_eq_true_eq] at hs
    simp only [Rm.numsOk,Bool.and_eq_true,wT_true] at hn
    simp only [Rm.slotsTo,List.all_eq_true,List.mem_range,slotOk_true] at hsl
    obtain ⟨a1,a2,_,a4⟩:=hs
    obtain ⟨⟨b1,b2⟩,⟨c1,c2⟩,⟨d1,d2⟩,e1,e2⟩:=hn
    exact ⟨by omega,by omega,by omega,b1,b2,c1,c2,d1,d2,e1,e2,hsl⟩
   ·cases h
  ·cases h
 ·cases h
structure Rm.Fine (r : Rm) : Prop where
 len1 : r.low.length ≤ 96
 len2 : r.high.length = r.low.length
 g0 : 0 ≤ r.gain
 g1 : r.gain ≤ 100
 l0 : 0 ≤ r.loss
 l1 : r.loss ≤ 1000
 s0 : 0 ≤ r.steps
 s1 : r.steps ≤ 40
 slots : ∀ i,i < r.low.length → -500 ≤ r.low.getD i 0∧r.low.getD i 0 ≤ r.high.getD i 0∧r.high.getD i 0 ≤ 1000
theorem Rm.fine (r : Rm) : r.valid.Fine:=by
 unfold Rm.valid
 split
 ·rename_i h
  have g:=Rm.good h
  exact ⟨g.len1,g.len2,g.g0,g.g1,g.l0,g.l1,g.s0,g.s1,g.slots⟩
 ·exact ⟨by simp [Rm0],by simp [Rm0],by simp [Rm0],by simp [Rm0],by simp [Rm0],by simp [Rm0],by simp [Rm0],by simp [Rm0],by simp [Rm0]⟩
theorem Rm.valid_ok {r : Rm} (h : r.ok = true) : r.valid = r:=by unfold Rm.valid; rw [if_pos h]
theorem Rm.valid_not {r : Rm} (h : ¬ r.ok = true) : r.valid = Rm0:=by unfold Rm.valid; rw [if_neg h]
theorem Rm.zero_ok : ¬ Rm0.ok = true:=by decide
theorem Rm.valid_valid (r : Rm) : r.valid.valid = r.valid:=by
 by_cases h : r.ok = true
 ·rw [Rm.valid_ok h,Rm.valid_ok h]
 ·rw [Rm.valid_not h,Rm.valid_not Rm.zero_ok]
def limT (t : Int) : Int:=if t < -1000 then -1000 else if 2000 < t then 2000 else t
theorem limT_bd (t : Int) : -1000 ≤ limT t∧limT t ≤ 2000:=by unfold limT; split <;> (try split) <;> omega
def heatT (h s : Int) : Int:=if h < 0 then 0 else if s < h then s else h
theorem heatT_bd {h s : Int} (hs : 0 ≤ s) : 0 ≤ heatT h s∧heatT h s ≤ s:=by unfold heatT; split <;> (try split) <;> omega
def stepT (g l s temp out heat : Int) : Int:=limT (limT temp+g * heatT heat s - l * (limT temp - limT out) / 1000)
def Rm.step (r : Rm) (temp out heat : Int) : Int:=stepT r.gain r.loss r.steps temp out heat
theorem stepT_bd (g l s temp out heat : Int) : -1000 ≤ stepT g l s temp out heat∧stepT g l s temp out heat ≤ 2000:=limT_bd _
def Rm.okAt (r : Rm) (i temp : Int) : Bool:=decide (0 ≤ i) && (decide (i < (r.low.length : Int)) && wT temp (r.low.getD i.toNat 0) (r.high.getD i.toNat 0))
def upto (n : Nat) : List Int:=(List.range n).map fun (i : Nat) => (i : Int)
theorem upto_succ (n : Nat) : upto (n+1) = upto n ++ [(n : Int)]:=by simp [upto,List.range_succ]
theorem upto_length (n : Nat) : (upto n).length = n:=by simp [upto]
theorem mem_upto {n : Nat} {x : Int} : x ∈ upto n ↔ 0 ≤ x∧x < (n : Int):=by
 simp only [upto,List.mem_map,List.mem_range]
 constructor
 ·rintro ⟨i,hi,rfl⟩; omega
 ·intro ⟨h1,h2⟩; exact ⟨x.toNat,by omega,by omega⟩
def Rm.choices (r : Rm) (i temp out : Int) : List Int:=(upto (r.steps+1).toNat).filter fun h => r.okAt i (r.step temp out h)
def holdTo (p : Int→Bool) : Nat→Int
 | 0 => 0
 | n+1 => if (upto n).any p = true then holdTo p n else if p (n : Int) = true then (n : Int) else (n : Int)+1
def Rm.hold (r : Rm) (i temp out : Int) : Int:=if 0 ≤ i∧i < (r.low.length : Int) then holdTo (fun h => decide (r.low.getD i.toNat 0 ≤ r.step temp out h)) r.steps.toNat else 0
def byteN (s : ByteArray) (i : Nat) : Nat:=if h : i < s.size then (s[i]'h).toNat else 0
theorem byteN_lt {s : ByteArray} {i : Nat} (h : i < s.size) : byteN s i = (s[i]'h).toNat:=by unfold byteN; rw [dif_pos h]
def okByte (i c : Nat) : Bool:=(decide (97 ≤ c) && decide (c ≤ 122)) || (decide (i ≠ 0) && (decide (c = 95) || (decide (c = 45) || (decide (48 ≤ c) && decide (c ≤ 57)))))
def okTo (s : ByteArray) (k : Nat) : Bool:=(List.range k).all fun i => okByte i (byteN s i)
theorem okTo_succ (s : ByteArray) (k : Nat) : okTo s (k+1) = (okTo s k && okByte k (byteN s k)):=by simp [okTo,List.range_succ,List.all_append]
theorem okTo_le {s : ByteArray} {k m : Nat} (h : okTo s k = false) (hm : k ≤ m) : okTo s m = false:=by
 rw [← Bool.not_eq_true] at h ⊢
 simp only [okTo,List.all_eq_true,List.mem_range] at h ⊢
 exact fun g => h fun i hi => g i (by omega)
def nameOk (s : ByteArray) : Bool:=decide (1 ≤ s.size∧s.size ≤ 24) && okTo s s.size
theorem okByte_cases (i c : Nat) : (okByte i c = true∧((97 ≤ c∧c ≤ 122) ∨ ((c < 97 ∨ 122 < c)∧i ≠ 0∧c = 95) ∨ ((c < 97 ∨ 122 < c)∧i ≠ 0∧c ≠ 95∧c = 45) ∨ ((c < 97 ∨ 122 < c)∧i ≠ 0∧c ≠ 95∧c ≠ 45∧48 ≤ c∧c ≤ 57))) ∨
  (okByte i c = false∧(c < 97 ∨ 122 < c)∧(i = 0 ∨ (i ≠ 0∧c ≠ 95∧c ≠ 45∧(c < 48 ∨ 57 < c)))):=by
 unfold okByte
 by_cases h1 : 97 ≤ c <;> by_cases h2 : c ≤ 122 <;> by_cases h3 : i = 0 <;> by_cases h4 : c = 95 <;> by_cases h5 : c = 45 <;> by_cases h6 : 48 ≤ c <;> by_cases h7 : c ≤ 57 <;> simp [*] <;> omega
structure Ld where
 name : ByteArray
 prof : List Int
 early : Int
 late : Int
def Ld.v (r : Ld) (A : Option Addr) (c : Nat) : Value := .agg #[.string r.name,.slice A r.prof.length c,.int .i64 r.early,.int .i64 r.late]
def unitZ (n : Int) : Int:=if n < 0 then 0 else if 1000 < n then 1000 else n
theorem unitZ_bd (n : Int) : 0 ≤ unitZ n∧unitZ n ≤ 1000:=by unfold unitZ; split <;> (try split) <;> omega
def unitOk (n : Int) : Bool:=decide (0 ≤ n) && decide (n ≤ 1000)
theorem unitOk_true {n : Int} : unitOk n = true ↔ 0 ≤ n∧n ≤ 1000:=by simp [unitOk]
theorem unitOk_eq (n : Int) : (n != unitZ n) = !unitOk n:=by
 unfold unitZ unitOk
 by_cases h : n < 0
 ·rw [if_pos h]; simp [show ¬ 0 ≤ n by omega]; omega
 ·rw [if_neg h]
  by_cases h2 : 1000 < n
  ·rw [if_pos h2]; simp [show 0 ≤ n by omega,show ¬ n ≤ 1000 by omega]; omega
  ·rw [if_neg h2]; simp [show 0 ≤ n by omega,show n ≤ 1000 by omega]
def Ld.lim (r : Ld) : Bool:=decide (1 ≤ r.prof.length∧r.prof.length ≤ 24)
def Ld.span (r : Ld) (n : Int) : Bool:=decide (1 ≤ n∧n ≤ 96∧0 ≤ r.early∧r.late ≤ n∧r.early ≤ r.late∧(r.prof.length : Int) ≤ r.late - r.early)
def Ld.chk (r : Ld) (n : Int) : Int:=if nameOk r.name = true then (if r.lim = true then (if r.prof.all unitOk = true∧r.span n = true then 0 else 2) else 3) else 10
theorem Ld.chk_name {r : Ld} {n : Int} (h : nameOk r.name = false) : r.chk n = 10:=by unfold Ld.chk; rw [if_neg (by simp [h])]
theorem Ld.chk_lim {r : Ld} {n : Int} (h : nameOk r.name = true) (h2 : r.lim = false) : r.chk n = 3:=by unfold Ld.chk; rw [if_pos h,if_neg (by simp [h2])]
theorem Ld.chk_bad {r : Ld} {n : Int} (h : nameOk r.name = true) (h2 : r.lim = true) (h3 : r.prof.all unitOk = false ∨ r.span n = false) : r.chk n = 2:=by
 unfold Ld.chk; rw [if_pos h,if_pos h2,if_neg]; rintro ⟨a,b⟩; rcases h3 with h3 | h3 <;> simp [h3] at *
theorem Ld.chk_ok {r : Ld} {n : Int} (h : nameOk r.name = true) (h2 : r.lim = true) (h3 : r.prof.all unitOk = true) (h4 : r.span n = true) : r.chk n = 0:=by unfold Ld.chk; rw [if_pos h,if_pos h2,if_pos ⟨h3,h4⟩]
def seqFrom (a : Int) (k : Nat) : List Int:=(List.range k).map fun (i : Nat) => a+(i : Int)
theorem seqFrom_succ (a : Int) (k : Nat) : seqFrom a (k+1) = seqFrom a k ++ [a+(k : Int)]:=by simp [seqFrom,List.range_succ]
theorem seqFrom_length (a : Int) (k : Nat) : (seqFrom a k).length = k:=by simp [seqFrom]
theorem mem_seqFrom {a x : Int} {k : Nat} : x ∈ seqFrom a k ↔ a ≤ x∧x < a+(k : Int):=by
 simp only [seqFrom,List.mem_map,List.mem_range]
 constructor
 ·rintro ⟨i,hi,rfl⟩; omega
 ·intro ⟨h1,h2⟩; exact ⟨(x - a).toNat,by omega,by omega⟩
def Ld.cnt (r : Ld) : Nat:=(r.late - (r.prof.length : Int) - r.early+1).toNat
def Ld.starts (r : Ld) (n : Int) : List Int:=if r.chk n = 0 then seqFrom r.early r.cnt else []
structure Ld.Good (r : Ld) (n : Int) : Prop where
 n0 : 1 ≤ n
 n1 : n ≤ 96
 e0 : 0 ≤ r.early
 l1 : r.late ≤ n
 el : r.early ≤ r.late
 p : (r.prof.length : Int) ≤ r.late - r.early
 p0 : 1 ≤ r.prof.length
 p1 : r.prof.length ≤ 24
 units : r.prof.all unitOk = true
 name : nameOk r.name = true
theorem Ld.good {r : Ld} {n : Int} (h : r.chk n = 0) : r.Good n:=by
 unfold Ld.chk at h
 split at h
 ·rename_i hn
  split at h
  ·rename_i hl
   split at h
   ·rename_i hs
    obtain ⟨hu,hs⟩:=hs
    simp only [Ld.lim,decide_eq_true_iff] at hl
    simp only [Ld.span,decide_eq_true_iff] at hs
    exact ⟨by omega,by omega,by omega,by omega,by omega,by omega,hl.1,hl.2,hu,hn⟩
   ·cases h
  ·cases h
 ·cases h
def Ld.last (r : Ld) : Int:=if r.late < (r.prof.length : Int) then -1 else if 96 < r.late then -1 else r.late - (r.prof.length : Int)
def Ld.fit (r : Ld) (s n : Int) : Bool:=decide (r.chk n = 0) && (decide (r.early ≤ s) && decide (s ≤ r.late - (r.prof.length : Int)))
def Ld.use (r : Ld) (s i : Int) : Int:=if i < s then 0 else if (r.prof.length : Int) ≤ i - s then 0 else unitZ (r.prof.getD (i - s).toNat 0)
def sumZ : List Int→Int
 | [] => 0
 | x :: l => x+sumZ l
theorem sumZ_append (l m : List Int) : sumZ (l ++ m) = sumZ l+sumZ m:=by
 induction l with
 | nil => simp [sumZ]
 | cons x l ih => simp only [List.cons_append,sumZ,ih]; omega
theorem Ld.use_bd (r : Ld) (s i : Int) : 0 ≤ r.use s i∧r.use s i ≤ 1000:=by
 unfold Ld.use
 split
 ·omega
 ·split
  ·omega
  ·exact unitZ_bd _
theorem Ld.fit_mem (r : Ld) (s n : Int) : r.fit s n = decide (s ∈ r.starts n):=by
 unfold Ld.fit Ld.starts
 by_cases hc : r.chk n = 0
 ·have g:=Ld.good hc
  rw [if_pos hc,decide_eq_true hc,Bool.true_and,Bool.eq_iff_iff]
  have hcnt : (r.cnt : Int) = r.late - (r.prof.length : Int) - r.early+1:=by
   have:=g.p; unfold Ld.cnt; omega
  simp only [Bool.and_eq_true,decide_eq_true_iff,mem_seqFrom]
  omega
 ·rw [if_neg hc,decide_eq_false hc]; simp
theorem wrapU {i s : Int} (h : s ≤ i) (h1 : -9223372036854775808 ≤ s) (h2 : i ≤ 9223372036854775807) :
  (i % 18446744073709551616 - s % 18446744073709551616) % 18446744073709551616 = i - s:=by omega
def dupTo (l : List Ld) (i k : Nat) : Prop := ∃ x,l[i]? = some x∧∃ y ∈ l.take k,y.name = x.name
instance (l : List Ld) (i k : Nat) : Decidable (dupTo l i k) :=
 match h : l[i]? with
 | none => .isFalse (by rintro ⟨x,hx,_⟩; rw [h] at hx; cases hx)
 | some x => if h2 : ∃ y ∈ l.take k,y.name = x.name then .isTrue ⟨x,h,h2⟩ else .isFalse (by rintro ⟨z,hz,hh⟩; rw [h] at hz; injection hz with hz; subst hz; exact h2 hh)
def loadErr (l : List Ld) (n : Int) (i : Nat) : Int:=match l[i]? with
 | none => 0
 | some x => if x.chk n = 0 then (if dupTo l i i then 9 else 0) else x.chk n
def allTo (l : List Ld) (n : Int) : Nat→Int
 | 0 => 0
 | k+1 => if allTo l n k = 0 then loadErr l n k else allTo l n k
def allChk (l : List Ld) (n : Int) : Int:=if 4 < l.length then 3 else allTo l n l.length
theorem allTo_stay {l : List Ld} {n : Int} {k m : Nat} (h : allTo l n k ≠ 0) (hm : k ≤ m) : allTo l n m = allTo l n k:=by
 induction m with
 | zero => rw [show k = 0 by omega]
 | succ m ih =>
  by_cases e : k = m+1
  ·rw [e]
  ·have:=ih (by omega)
   rw [allTo,this,if_neg h]
theorem allTo_hit {l : List Ld} {n : Int} {k : Nat} (h0 : allTo l n k = 0) (h : loadErr l n k ≠ 0) (hk : k < l.length) (h4 : l.length ≤ 4) : allChk l n = loadErr l n k:=by
 unfold allChk
 rw [if_neg (by omega)]
 have h1 : allTo l n (k+1) = loadErr l n k:=by rw [allTo,if_pos h0]
 rw [allTo_stay (k:=k+1) (by rw [h1]; exact h) (by omega),h1]
theorem allTo_go {l : List Ld} {n : Int} {k : Nat} (h0 : allTo l n k = 0) (h : loadErr l n k = 0) : allTo l n (k+1) = 0:=by rw [allTo,if_pos h0,h]
theorem loadErr_bad {l : List Ld} {n : Int} {k : Nat} (hk : k < l.length) (h : l[k].chk n ≠ 0) : loadErr l n k = l[k].chk n:=by
 unfold loadErr; rw [List.getElem?_eq_getElem hk]; simp only []; rw [if_neg h]
theorem loadErr_dup {l : List Ld} {n : Int} {k j : Nat} (hk : k < l.length) (h : l[k].chk n = 0) (hj : j < k) (e : l[j].name = l[k].name) : loadErr l n k = 9:=by
 unfold loadErr; rw [List.getElem?_eq_getElem hk]; simp only []
 rw [if_pos h,if_pos]
 refine ⟨_,List.getElem?_eq_getElem hk,l[j],?_,e⟩
 rw [List.mem_iff_getElem]
 exact ⟨j,by rw [List.length_take]; omega,by simp⟩
theorem loadErr_ok {l : List Ld} {n : Int} {k : Nat} (hk : k < l.length) (h : l[k].chk n = 0) (hd : ¬ dupTo l k k) : loadErr l n k = 0:=by
 unfold loadErr; rw [List.getElem?_eq_getElem hk]; simp only []
 rw [if_pos h,if_neg hd]
theorem dupTo_zero (l : List Ld) (i : Nat) : ¬ dupTo l i 0:=by rintro ⟨x,_,y,hy,_⟩; simp at hy
theorem dupTo_succ {l : List Ld} {i j : Nat} (hi : i < l.length) (hj : j < l.length) (h : ¬ dupTo l i j) (e : l[j].name ≠ l[i].name) : ¬ dupTo l i (j+1):=by
 rintro ⟨x,hx,y,hy,hn⟩
 rw [List.take_succ_eq_append_getElem hj,List.mem_append,List.mem_singleton] at hy
 rcases hy with hy | rfl
 ·exact h ⟨x,hx,y,hy,hn⟩
 ·rw [List.getElem?_eq_getElem hi] at hx
  injection hx with hx
  subst hx
  exact e hn
def addTo (ls : List (List Int)) (k i : Nat) : Int:=sumZ ((ls.take k).map fun l => l.getD i 0)
theorem addTo_succ {ls : List (List Int)} {k : Nat} (hk : k < ls.length) (i : Nat) : addTo ls (k+1) i = addTo ls k i+ls[k].getD i 0:=by
 unfold addTo
 rw [List.take_succ_eq_append_getElem hk,List.map_append,sumZ_append]
 simp [sumZ]
theorem addTo_zero (ls : List (List Int)) (i : Nat) : addTo ls 0 i = 0:=by simp [addTo,sumZ]
theorem getD_bd {l : List Int} {b : Int} (h : ∀ v ∈ l,0 ≤ v∧v ≤ b) (hb : 0 ≤ b) (i : Nat) : 0 ≤ l.getD i 0∧l.getD i 0 ≤ b:=by
 by_cases hi : i < l.length
 ·have:=h _ (List.getElem_mem hi)
  simpa [List.getD,hi] using this
 ·simp [List.getD,List.getElem?_eq_none (Nat.le_of_not_lt hi),hb]
theorem addTo_bd {ls : List (List Int)} (h : ∀ l ∈ ls, ∀ v ∈ l,0 ≤ v∧v ≤ 1000) (k i : Nat) : 0 ≤ addTo ls k i∧addTo ls k i ≤ 1000 * (k : Int):=by
 induction k with
 | zero => rw [addTo_zero]; omega
 | succ k ih =>
  by_cases hk : k < ls.length
  ·rw [addTo_succ hk]
   have:=getD_bd (h _ (List.getElem_mem hk)) (by omega) i
   omega
  ·unfold addTo at ih ⊢
   rw [List.take_of_length_le (by omega)] at ih ⊢
   omega
def addL (ls : List (List Int)) (n : Nat) : List Int:=(List.range n).map (addTo ls ls.length)
def addMid (ls : List (List Int)) (k j i : Nat) : Int:=if i < j then addTo ls (k+1) i else addTo ls k i
theorem addMid_zero (ls : List (List Int)) (k i : Nat) : addMid ls k 0 i = addTo ls k i:=by simp [addMid]
theorem addMid_full {ls : List (List Int)} {k n i : Nat} (h : i < n) : addMid ls k n i = addTo ls (k+1) i:=by simp [addMid,h]
theorem addMid_succ {ls : List (List Int)} {k j : Nat} (i : Nat) : addMid ls k (j+1) i = if i = j then addTo ls (k+1) j else addMid ls k j i:=by
 unfold addMid
 by_cases h : i = j
 ·subst h; simp
 ·rw [if_neg h]
  by_cases h2 : i < j
  ·rw [if_pos h2,if_pos (by omega)]
  ·rw [if_neg h2,if_neg (by omega)]
def slotsN (n : Int) : Nat:=if n < 0 then 0 else if 96 < n then 96 else n.toNat
theorem slotsN_le (n : Int) : slotsN n ≤ 96:=by unfold slotsN; split <;> (try split) <;> omega
def useTo (ls : List Ld) (ss : List Int) (i : Int) (k : Nat) : Int:=sumZ (((ls.zip ss).take k).map fun x => x.1.use x.2 i)
def usesL (ls : List Ld) (ss : List Int) (n : Int) : List Int:=(List.range (slotsN n)).map fun (i : Nat) => useTo ls ss i (min ls.length ss.length)
theorem useTo_succ {ls : List Ld} {ss : List Int} {k : Nat} (h1 : k < ls.length) (h2 : k < ss.length) (i : Int) : useTo ls ss i (k+1) = useTo ls ss i k+ls[k].use ss[k] i:=by
 unfold useTo
 rw [List.take_succ_eq_append_getElem (by rw [List.length_zip]; omega),List.map_append,sumZ_append]
 simp [sumZ]
theorem useTo_zero (ls : List Ld) (ss : List Int) (i : Int) : useTo ls ss i 0 = 0:=by simp [useTo,sumZ]
theorem useTo_bd (ls : List Ld) (ss : List Int) (i : Int) (k : Nat) : 0 ≤ useTo ls ss i k∧useTo ls ss i k ≤ 1000 * (k : Int):=by
 induction k with
 | zero => rw [useTo_zero]; omega
 | succ k ih =>
  by_cases h : k < (ls.zip ss).length
  ·rw [List.length_zip] at h
   rw [useTo_succ (by omega) (by omega)]
   have:=(ls[k]'(by omega)).use_bd (ss[k]'(by omega)) i
   omega
  ·unfold useTo at ih ⊢
   rw [List.take_of_length_le (by omega)] at ih ⊢
   omega
def oneRow (r : Ld) (s : Int) (n : Nat) : List Int:=(List.range n).map fun (i : Nat) => r.use s (i : Int)
def rowsOf (ls : List Ld) (ss : List Int) (n : Nat) : List (List Int):=(ls.zip ss).map fun x => oneRow x.1 x.2 n
theorem oneRow_length (r : Ld) (s : Int) (n : Nat) : (oneRow r s n).length = n:=by simp [oneRow]
theorem oneRow_bd (r : Ld) (s : Int) (n : Nat) : ∀ v ∈ oneRow r s n,0 ≤ v∧v ≤ 1000:=by
 intro v hv
 simp only [oneRow,List.mem_map,List.mem_range] at hv
 obtain ⟨i,_,rfl⟩:=hv
 exact r.use_bd s i
theorem oneRow_get {r : Ld} {s : Int} {n i : Nat} (h : i < n) : (oneRow r s n).getD i 0 = r.use s (i : Int):=by simp [oneRow,List.getD,h]
theorem rows_use (ls : List Ld) (ss : List Int) {n i : Nat} (h : i < n) (k : Nat) : addTo (rowsOf ls ss n) k i = useTo ls ss i k:=by
 unfold addTo useTo rowsOf
 rw [← List.map_take,List.map_map]
 congr 1
 apply List.map_congr_left
 intro x _
 exact oneRow_get h
theorem addL_rows (ls : List Ld) (ss : List Int) (n : Int) : addL (rowsOf ls ss (slotsN n)) (slotsN n) = usesL ls ss n:=by
 unfold addL usesL
 apply List.map_congr_left
 intro i hi
 rw [List.mem_range] at hi
 rw [rows_use ls ss hi]
 congr 1
 simp [rowsOf]
def Ld.zero : Ld:=⟨ByteArray.empty, [],0,0⟩
def clampK (k : Int) : Int:=if k < 0 then 0 else if 96 < k then 96 else k
theorem clampK_bd (k : Int) : 0 ≤ clampK k∧clampK k ≤ 96:=by unfold clampK; split <;> (try split) <;> omega
def Ld.canShift (r : Ld) (k : Int) : Bool:=decide (r.chk 96 = 0) && decide ((r.prof.length : Int) ≤ r.late - clampK k)
def Ld.moved (r : Ld) (k : Int) : Ld:=⟨r.name,r.prof,if r.early - clampK k < 0 then 0 else r.early - clampK k,r.late - clampK k⟩
def Ld.shift (r : Ld) (k : Int) : Ld:=if r.canShift k = true then r.moved k else Ld.zero
theorem Ld.shift_no {r : Ld} {k : Int} (h : r.canShift k = false) : r.shift k = Ld.zero:=by unfold Ld.shift; rw [if_neg (by simp [h])]
theorem Ld.shift_yes {r : Ld} {k : Int} (h : r.canShift k = true) : r.shift k = r.moved k:=by unfold Ld.shift; rw [if_pos h]
theorem Ld.can_chk {r : Ld} {k : Int} (h : r.chk 96 ≠ 0) : r.canShift k = false:=by unfold Ld.canShift; rw [decide_eq_false h]; rfl
theorem Ld.can_len {r : Ld} {k : Int} (h : ¬ (r.prof.length : Int) ≤ r.late - clampK k) : r.canShift k = false:=by unfold Ld.canShift; rw [decide_eq_false h,Bool.and_false]
theorem Ld.can_yes {r : Ld} {k : Int} (h : r.chk 96 = 0) (h2 : (r.prof.length : Int) ≤ r.late - clampK k) : r.canShift k = true:=by simp [Ld.canShift,h,h2]
theorem Ld.chk_iff {r : Ld} {n : Int} : r.chk n = 0 ↔ (nameOk r.name = true∧r.lim = true∧r.prof.all unitOk = true∧r.span n = true):=by
 unfold Ld.chk
 constructor
 ·intro h
  split at h
  ·split at h
   ·split at h
    ·rename_i a b c; exact ⟨a,b,c.1,c.2⟩
    ·cases h
   ·cases h
  ·cases h
 ·rintro ⟨a,b,c,d⟩
  rw [if_pos a,if_pos b,if_pos ⟨c,d⟩]
theorem Ld.chk96 {r : Ld} {n : Int} (h : r.chk n = 0) : r.chk 96 = 0:=by
 rw [Ld.chk_iff] at h ⊢
 refine ⟨h.1,h.2.1,h.2.2.1,?_⟩
 have:=h.2.2.2
 simp only [Ld.span,decide_eq_true_iff] at this ⊢
 omega
theorem Ld.moved_chk {r : Ld} {n k : Int} (h : r.chk n = 0) (k0 : 0 ≤ k) (k1 : k < n) (hc : r.canShift k = true) : (r.moved k).chk (n - k) = 0:=by
 have g:=Ld.good h
 have hk : clampK k = k:=by have:=g.n1; unfold clampK; rw [if_neg (by omega),if_neg (by omega)]
 have hl : (r.prof.length : Int) ≤ r.late - k:=by
  have:=hc
  simp only [Ld.canShift,Bool.and_eq_true,decide_eq_true_iff,hk] at this
  exact this.2
 rw [Ld.chk_iff] at h ⊢
 refine ⟨h.1,h.2.1,h.2.2.1,?_⟩
 have hs:=h.2.2.2
 simp only [Ld.span,decide_eq_true_iff,Ld.moved,hk] at hs ⊢
 split <;> omega
end Go.Proofs.YtnppngaabfhkpaaGreat
