/-
  Shared words on memory: a slice that reads as a list, a block known whole, append onto a row of the call's own. After the kit's page extra-words, turned to this claim.
-/
import Derived.OrdersHeld
import Derived.WalkKit
import Derived.WalkSpells
import Derived.Laws.OwnMore
import Derived.Laws.Rows
import Derived.Deep.AppendLies
import Derived.Deep.Draws
import Derived.Deep.OwnRows
import Derived.Maps.AppendAt
import Derived.RegionTactic
import Derived.OwnWalk
import Derived.Test.YtnppngaabfhkpaaGreatProg
namespace Go.Proofs.YtnppngaabfhkpaaGreat
open Go.RowKit
theorem block_of_add (a : Addr) (n : Nat) : (a.add n).block = a.block:=by unfold Addr.add; split <;> rfl
theorem add_of_add (a : Addr) (i j : Nat) : (a.add i).add j = a.add (i+j):=by
 unfold Addr.add
 by_cases hi : i = 0 <;> by_cases hj : j = 0 <;> simp [hi,hj,Nat.add_assoc]
def Reads (w : World) (B size : Nat) (A : Option Addr) (n : Nat) (xs : List Value) : Prop :=
 xs.length = n * size∧(0 < n→∃ ad,A = some ad∧ad.block < B∧∀ j u,xs[j]? = some u→w.cell? (ad.add j) = some u)
section
variable {w w' : World} {B B' size n : Nat} {A : Option Addr} {xs : List Value}
theorem Reads.at_ {k : Nat} (h : Reads w B 1 A n xs) (hk : k < n) : ∃ ad u,A = some ad∧ad.block < B∧xs[k]? = some u∧w.cell? (ad.add k) = some u:=by
 obtain ⟨ad,e,hb,hc⟩:=h.2 (by omega)
 have hl : k < xs.length:=by have:=h.1; omega
 exact ⟨ad,xs[k],e,hb,List.getElem?_eq_getElem hl,hc k _ (List.getElem?_eq_getElem hl)⟩
theorem Reads.keep (h : Reads w B size A n xs) (hk : ∀ p : Addr,p.block < B→w'.cell? p = w.cell? p) : Reads w' B size A n xs :=
 ⟨h.1,fun hn => by
  obtain ⟨ad,e,hb,hc⟩:=h.2 hn
  exact ⟨ad,e,hb,fun j u hu => (hk _ (by rw [block_of_add]; exact hb)).trans (hc j u hu)⟩⟩
theorem Reads.more (h : Reads w B size A n xs) (hB : B ≤ B') : Reads w B' size A n xs :=
 ⟨h.1,fun hn => by
  obtain ⟨ad,e,hb,hc⟩:=h.2 hn
  exact ⟨ad,e,by omega,hc⟩⟩
theorem Reads.below (h : Reads w B size A n xs) (hb : Below B w w') : Reads w' B size A n xs:=h.keep fun _ hp => hb.cell hp
theorem Reads.alloc (h : Reads w B size A n xs) (hB : B ≤ w.heap.size) (o : Obj) : Reads (w.alloc o) B size A n xs:=h.keep fun p hp => World.cell?_alloc_lt w o p (by omega)
theorem Reads.cut (h : Reads w B size A n xs) {k cap : Nat} (hk : k ≤ n) (hc : n ≤ cap) :
  Reads w B size (if cap = k then A else A.map (·.add (k * size))) (n - k) (xs.drop (k * size)):=by
 refine ⟨by rw [List.length_drop,h.1,Nat.sub_mul],fun hn => ?_⟩
 obtain ⟨ad,rfl,hb,hcell⟩:=h.2 (by omega)
 rw [if_neg (by omega)]
 refine ⟨ad.add (k * size),rfl,by rw [block_of_add]; exact hb,fun j u hu => ?_⟩
 rw [add_of_add]
 exact hcell _ u (by rw [← hu,List.getElem?_drop])
theorem Reads.of_own {base : Nat} {e : TypeId} {c : Nat} (h : w.ownsRow base e size (.slice A n c) n xs) : Reads w w.heap.size size A n xs:=by
 refine ⟨h.1,fun hn => ?_⟩
 obtain ⟨g,cap,hv,_,hlt⟩:=h.form hn
 have hA : A = some ⟨g,0,none⟩:=by injection hv
 subst hA
 exact ⟨_,rfl,hlt,h.cells (g:=g) rfl⟩
end
def Blk (w : World) (g : Nat) (t : TypeId) (cs : Array Value) : Prop:=w.heap[g]? = some (.cells cs t (0,0))
section
variable {w w' : World} {g : Nat} {t : TypeId} {cs : Array Value}
theorem Blk.lt (h : Blk w g t cs) : g < w.heap.size:=by
 rcases Nat.lt_or_ge g w.heap.size with hlt | hge
 ·exact hlt
 ·unfold Blk at h; rw [Array.getElem?_eq_none hge] at h; cases h
theorem Blk.cell (h : Blk w g t cs) (i : Nat) : w.cell? ⟨g,i,none⟩ = cs[i]? := cell_of_row w g i cs t (0,0) h
theorem Blk.frozen (h : Blk w g t cs) (i : Nat) : w.frozen? ⟨g,i,none⟩ = false:=by
 unfold Blk at h
 simp [World.frozen?,h]
theorem Blk.new (w : World) (t : TypeId) (cs : Array Value) : Blk (w.alloc (.cells cs t)) w.heap.size t cs:=heap_alloc_new w _
theorem Blk.drew (h : Blk w g t cs) : Blk w.drew g t cs:=h
theorem Blk.drewN (h : Blk w g t cs) (n : Nat) : Blk (w.drewN n) g t cs:=h
theorem Blk.alloc (h : Blk w g t cs) (o : Obj) : Blk (w.alloc o) g t cs:=(Below.heap_alloc w o g h.lt).trans h
theorem Blk.set_ (h : Blk w g t cs) (i : Nat) (u : Value) : Blk (w.setCell ⟨g,i,none⟩ u) g t (cs.setIfInBounds i u):=by
 unfold Blk at h ⊢
 simp [World.setCell,Array.getElem?_modify,h]
theorem Blk.far (h : Blk w g t cs) {p : Addr} (hp : g ≠ p.block) (u : Value) : Blk (w.setCell p u) g t cs:=(Below.heap_setCell w p u g hp).trans h
theorem Blk.below {B : Nat} (h : Blk w g t cs) (hb : Below B w w') (hg : g < B) : Blk w' g t cs:=(hb.block g hg).trans h
theorem Blk.grown {row : Option Nat} (h : Blk w g t cs) (hb : w.grownBy w' row) (hg : some g ≠ row) : Blk w' g t cs:=(hb.block g h.lt hg).trans h
theorem Blk.ne_ {g' : Nat} {t' : TypeId} {cs' : Array Value} (h : Blk w g t cs) (h' : Blk w g' t' cs') (hne : t ≠ t') : g ≠ g':=by
 rintro rfl
 unfold Blk at h h'
 rw [h] at h'
 injection h' with h'
 injection h' with _ ht
 exact hne ht
theorem own_blk_ne {base : Nat} {e : TypeId} {size n : Nat} {v : Value} {xs : List Value} (h : w.ownsRow base e size v n xs) (hg : Blk w g t cs) (hne : e ≠ t) : v.ownBlock ≠ some g:=by
 rcases h.2 with ⟨rfl,_⟩ | ⟨g',cap,cur,rfl,_,hh,_⟩
 ·simp [Value.ownBlock]
 ·intro he
  have : g' = g:=by simpa [Value.ownBlock] using he
  subst this
  exact Blk.ne_ (t:=e) hh hg hne rfl
end
section
variable {P : Program} (w : World)
theorem run_append_of_nil (base : Nat) (t ty e : TypeId) (i : TypeInfo) (size : Nat) (ht : P.underlying t = some (.slice e)) (hi : P.info? e = some i)
  (v : Value) (n : Nat) (xs : List Value) (hown : w.ownsRow base e size v n xs) (c : Nat) : (Builtin.append_ #[t,t] ty #[v,.slice none 0 c]).run P w = .ok v w:=by
 rcases hown.2 with ⟨rfl,rfl⟩ | ⟨g,cap,cur,rfl,_,_,hnc,_⟩
 ·simp [Builtin.append_,run_underlying ht,sizeOf,typeInfo,hi,Builtin.lenOf,Builtin.firstCells]
 ·simp [Builtin.append_,run_underlying ht,sizeOf,typeInfo,hi,Builtin.lenOf,Builtin.firstCells,hnc,storeCells]
theorem run_append_any (base : Nat) (t ty e : TypeId) (i : TypeInfo) (z : Value) (size bytes : Nat) (ht : P.underlying t = some (.slice e)) (hi : P.info? e = some i) (hz : i.zero = some z)
  (hsize : i.size = size) (hby : i.bytes = bytes) (hzs : z.cells.size = size) (hsz : 0 < size)
  (v : Value) (n : Nat) (xs : List Value) (hown : w.ownsRow base e size v n xs)
  (B : Nat) (A : Option Addr) (m c : Nat) (news : List Value) (hr : Reads w B size A m news) (h1 : ∀ u ∈ news,u.oneCell' = true)
  (h63 : n+m ≤ maxLen) (hbytes : (n+m) * bytes ≤ 140737488355328) (hbase : base ≤ w.heap.size) :
  ∃ v' w',(Builtin.append_ #[t,t] ty #[v,.slice A m c]).run P w = .ok v' w'∧w'.ownsRow base e size v' (n+m) (xs ++ news)∧w.grownBy w' v.ownBlock ∧
   (v'.ownBlock = v.ownBlock ∨ v'.ownBlock = some w.heap.size):=by
 rcases A with _ | ad
 ·have hm : m = 0:=by
   rcases Nat.eq_zero_or_pos m with h0 | h0
   ·exact h0
   ·obtain ⟨ad,h,_⟩:=hr.2 h0
    cases h
  subst hm
  have hn : news = []:=List.eq_nil_of_length_eq_zero (by simpa using hr.1)
  subst hn
  exact ⟨v,w,run_append_of_nil w base t ty e i size ht hi v n xs hown c,by simpa using hown,World.grownBy.refl w _,.inl rfl⟩
 ·have hcells : ∀ j u,news[j]? = some u→w.cell? (ad.add j) = some u:=by
   intro j u hu
   rcases Nat.eq_zero_or_pos m with h0 | h0
   ·subst h0
    have hn : news = []:=List.eq_nil_of_length_eq_zero (by simpa using hr.1)
    subst hn
    simp at hu
   ·obtain ⟨ad',h,_,hc⟩:=hr.2 h0
    injection h with h
    subst h
    exact hc j u hu
  obtain ⟨v',w',hrun,h2,h3,_,h5⟩:=run_append_own_at (P:=P) w base t ty e i z size bytes ht hi hz hsize hby hzs hsz v n xs hown ad m c news hr.1 hcells h1 h63 hbytes hbase
  exact ⟨v',w',hrun,h2,h3,h5⟩
theorem wp_append_any {o : Oper} {a : Act} {K : Act→World→Prop} {Q : Exit→Act→World→Prop} (s x : Operand) (t : TypeId)
  (ho : o.op = .call { callee := .builtin .append,args:=#[s,x],argTypes:=#[t,t] })
  (base : Nat) (e : TypeId) (i : TypeInfo) (z : Value) (size bytes : Nat) (ht : P.underlying t = some (.slice e)) (hi : P.info? e = some i) (hz : i.zero = some z)
  (hsize : i.size = size) (hby : i.bytes = bytes) (hzs : z.cells.size = size) (hsz : 0 < size)
  (v : Value) (n : Nat) (xs : List Value) (hs : a.eval s = v) (hown : w.ownsRow base e size v n xs)
  (B : Nat) (A : Option Addr) (m c : Nat) (news : List Value) (hx : a.eval x = .slice A m c) (hr : Reads w B size A m news) (h1 : ∀ u ∈ news,u.oneCell' = true)
  (h63 : n+m ≤ maxLen) (hbytes : (n+m) * bytes ≤ 140737488355328) (hbase : base ≤ w.heap.size)
  (h : ∀ v' w',w'.ownsRow base e size v' (n+m) (xs ++ news)→w.grownBy w' v.ownBlock→(v'.ownBlock = v.ownBlock ∨ v'.ownBlock = some w.heap.size)→K (a.put o.dst v') w') : o.wp P a w K Q:=by
 obtain ⟨v',w',hrun,h2,h3,h4⟩:=run_append_any (P:=P) w base t o.type e i z size bytes ht hi hz hsize hby hzs hsz v n xs hown B A m c news hr h1 h63 hbytes hbase
 unfold Oper.wp execOp
 simp only [ho,resolve,invoke,builtin,Sem.run_bind,Sem.run_pure,Result.andThen_ok,List.map_toArray,List.map_cons,List.map_nil,hs,hx,hrun]
 exact h v' w' h2 h3 h4
theorem wpList_append_any {ops : Array Oper} {rest : List Oper} {o : Oper} {a : Act} {Q : Exit→Act→World→Prop} (hgd : o.guard = none) (s x : Operand) (t : TypeId)
  (ho : o.op = .call { callee := .builtin .append,args:=#[s,x],argTypes:=#[t,t] })
  (base : Nat) (e : TypeId) (i : TypeInfo) (z : Value) (size bytes : Nat) (ht : P.underlying t = some (.slice e)) (hi : P.info? e = some i) (hz : i.zero = some z)
  (hsize : i.size = size) (hby : i.bytes = bytes) (hzs : z.cells.size = size) (hsz : 0 < size)
  (v : Value) (n : Nat) (xs : List Value) (hs : a.eval s = v) (hown : w.ownsRow base e size v n xs)
  (B : Nat) (A : Option Addr) (m c : Nat) (news : List Value) (hx : a.eval x = .slice A m c) (hr : Reads w B size A m news) (h1 : ∀ u ∈ news,u.oneCell' = true)
  (h63 : n+m ≤ maxLen) (hbytes : (n+m) * bytes ≤ 140737488355328) (hbase : base ≤ w.heap.size)
  (h : ∀ v' w',w'.ownsRow base e size v' (n+m) (xs ++ news)→w.grownBy w' v.ownBlock→(v'.ownBlock = v.ownBlock ∨ v'.ownBlock = some w.heap.size)→wpList P ops Q rest (a.put o.dst v') w') : wpList P ops Q (o :: rest) a w :=
 wpList_plain hgd fun _ hK => wp_append_any w s x t ho base e i z size bytes ht hi hz hsize hby hzs hsz v n xs hs hown B A m c news hx hr h1 h63 hbytes hbase fun v' w' h2 h3 h4 => hK _ _ (h v' w' h2 h3 h4)
theorem step_append_any {ops : Array Oper} {o : Oper} {a : Act} {K : Act→World→Prop} {Q : Exit→Act→World→Prop} {E : Prop} (hgd : o.guard = none) (s x : Operand) (t : TypeId)
  (ho : o.op = .call { callee := .builtin .append,args:=#[s,x],argTypes:=#[t,t] })
  (base : Nat) (e : TypeId) (i : TypeInfo) (z : Value) (size bytes : Nat) (ht : P.underlying t = some (.slice e)) (hi : P.info? e = some i) (hz : i.zero = some z)
  (hsize : i.size = size) (hby : i.bytes = bytes) (hzs : z.cells.size = size) (hsz : 0 < size)
  (v : Value) (n : Nat) (xs : List Value) (hs : a.eval s = v) (hown : w.ownsRow base e size v n xs)
  (B : Nat) (A : Option Addr) (m c : Nat) (news : List Value) (hx : a.eval x = .slice A m c) (hr : Reads w B size A m news) (h1 : ∀ u ∈ news,u.oneCell' = true)
  (h63 : n+m ≤ maxLen) (hbytes : (n+m) * bytes ≤ 140737488355328) (hbase : base ≤ w.heap.size)
  (h : ∀ v' w',w'.ownsRow base e size v' (n+m) (xs ++ news)→w.grownBy w' v.ownBlock→(v'.ownBlock = v.ownBlock ∨ v'.ownBlock = some w.heap.size)→K (a.put o.dst v') w') :
  if Region.wanted o (yielded ops a.tmps) = true then Oper.wp P o a w K Q else E:=by
 have hw : Region.wanted o (yielded ops a.tmps) = true:=by simp [Region.wanted,hgd]
 rw [if_pos hw]
 exact wp_append_any w s x t ho base e i z size bytes ht hi hz hsize hby hzs hsz v n xs hs hown B A m c news hx hr h1 h63 hbytes hbase h
end
theorem ret_int {k : IntKind} {a b : Int} (h : a = b) : Ending.returned (.int k a) = .returned (.int k b):=by rw [h]
theorem ret_bool {a b : Bool} (h : a = b) : Ending.returned (.bool a) = .returned (.bool b):=by rw [h]
theorem bcell {W w1 : World} (hb : Below W.heap.size W w1) : (∀ b o,b < W.heap.size→w1.cell? ⟨b,o,none⟩ = W.cell? ⟨b,o,none⟩)∧(∀ b o,b < W.heap.size→w1.frozen? ⟨b,o,none⟩ = W.frozen? ⟨b,o,none⟩) :=
 ⟨fun b o h => hb.cell (p:=⟨b,o,none⟩) h,fun b o h => hb.frozen (p:=⟨b,o,none⟩) h⟩
theorem bcell' {B : Nat} {W w1 : World} (hb : Below B W w1) : (∀ b o,b < B→w1.cell? ⟨b,o,none⟩ = W.cell? ⟨b,o,none⟩)∧(∀ b o,b < B→w1.frozen? ⟨b,o,none⟩ = W.frozen? ⟨b,o,none⟩) :=
 ⟨fun b o h => hb.cell (p:=⟨b,o,none⟩) h,fun b o h => hb.frozen (p:=⟨b,o,none⟩) h⟩
theorem below_drewN {B : Nat} {a w : World} (h : Below B a w) (n : Nat) : Below B a (w.drewN n):=⟨h.os,h.tape,h.output,h.size,h.block⟩
def ints (l : List Int) : List Value:=l.map (Value.int .i64)
theorem ints_length (l : List Int) : (ints l).length = l.length:=by simp [ints]
theorem ints_get {l : List Int} {k : Nat} {u : Value} (h : (ints l)[k]? = some u) : ∃ x,l[k]? = some x∧u = .int .i64 x:=by
 simp only [ints,List.getElem?_map,Option.map_eq_some_iff] at h
 obtain ⟨x,h1,h2⟩:=h
 exact ⟨x,h1,h2.symm⟩
theorem ints_append (l r : List Int) : ints (l ++ r) = ints l ++ ints r:=by simp [ints]
theorem ints_one (l : List Int) : ∀ u ∈ ints l,u.oneCell' = true:=by
 intro u hu
 simp only [ints,List.mem_map] at hu
 obtain ⟨x,_,rfl⟩:=hu
 rfl
def RInts (w : World) (A : Option Addr) (l : List Int) : Prop:=Reads w w.heap.size 1 A l.length (ints l)
theorem RInts.below {w w' : World} {A : Option Addr} {l : List Int} (h : RInts w A l) (hb : Below w.heap.size w w') : RInts w' A l:=(Reads.below h hb).more hb.size
theorem RInts.nil {w : World} {A : Option Addr} : RInts w A []:=⟨by simp [ints],fun h => absurd h (by simp)⟩
theorem RInts.at_ {w : World} {A : Option Addr} {l : List Int} {k : Nat} (h : RInts w A l) (hk : k < l.length) : ∃ ad,A = some ad∧ad.block < w.heap.size∧w.cell? (ad.add k) = some (.int .i64 l[k]):=by
 obtain ⟨ad,u,e,hb,hu,hc⟩:=Reads.at_ h hk
 obtain ⟨x,hx,rfl⟩:=ints_get hu
 rw [List.getElem?_eq_getElem hk] at hx
 injection hx with hx
 subst hx
 exact ⟨ad,e,hb,hc⟩
theorem addr_add (b o k : Nat) : (⟨b,o,none⟩ : Addr).add k = ⟨b,o+k,none⟩:=by unfold Addr.add; split <;> simp_all
theorem RInts.at' {w : World} {A : Option Addr} {l : List Int} {k : Nat} (h : RInts w A l) (hk : k < l.length) : ∃ b o,A = some ⟨b,o,none⟩∧b < w.heap.size∧w.cell? ⟨b,o+k,none⟩ = some (.int .i64 l[k]):=by
 obtain ⟨ad,e,hb,hc⟩:=h.at_ hk
 obtain ⟨ad',e',_,hc0⟩:=h.at_ (show 0 < l.length by omega)
 rw [e] at e'
 injection e' with e'
 subst e'
 obtain ⟨b,o,sp⟩:=ad
 have hsp : sp = none:=by
  cases sp with
  | none => rfl
  | some x =>
   simp only [Addr.add,if_pos,World.cell?] at hc0
   split at hc0 <;> simp at hc0
 subst hsp
 rw [addr_add] at hc
 exact ⟨b,o,e,hb,hc⟩
theorem RInts.alloc {w : World} {A : Option Addr} {l : List Int} (h : RInts w A l) (o : Obj) : RInts (w.alloc o) A l:=(Reads.alloc h (Nat.le_refl _) o).more (by simp)
theorem RInts.drewN {w : World} {A : Option Addr} {l : List Int} (h : RInts w A l) (n : Nat) : RInts (w.drewN n) A l:=h
theorem rints_lit (w : World) (cs : Array Value) (t : TypeId) {l : List Int} (h : cs.toList = ints l) : RInts (w.alloc (.cells cs t)) (some ⟨w.heap.size,0,none⟩) l:=by
 refine ⟨by rw [ints_length,Nat.mul_one],fun _ => ⟨_,rfl,by simp,fun j u hu => ?_⟩⟩
 have hadd : (⟨w.heap.size,0,none⟩ : Addr).add j = ⟨w.heap.size,j,none⟩:=by unfold Addr.add; split <;> simp_all
 rw [hadd,(Blk.new w t cs).cell j, ← hu, ← h]
 simp
def IntsOut (l : List Int) (w : World) (e : Ending) (w' : World) : Prop := ∃ A c,e = .returned (.slice A l.length c)∧RInts w' A l∧(∀ ad,A = some ad→w.heap.size ≤ ad.block)∧Below w.heap.size w w'
theorem own_form {w : World} {base : Nat} {e : TypeId} {size n : Nat} {v : Value} {xs : List Value} (h : w.ownsRow base e size v n xs) : ∃ A c,v = .slice A n c:=by
 rcases h.2 with ⟨rfl,hx⟩ | ⟨g,cap,cur,rfl,_⟩
 ·subst hx; exact ⟨_,_,rfl⟩
 ·exact ⟨_,_,rfl⟩
theorem own_fresh {w : World} {base : Nat} {e : TypeId} {size n c : Nat} {A : Option Addr} {xs : List Value} (h : w.ownsRow base e size (.slice A n c) n xs) : ∀ ad,A = some ad→base ≤ ad.block:=by
 intro ad hA
 subst hA
 exact (h.lt ad.block (by simp [Value.ownBlock])).1
theorem ints_own {w : World} {base : Nat} {e : TypeId} {v : Value} {n : Nat} {l : List Int} (h : w.ownsRow base e 1 v n (ints l)) : ∃ A c,v = .slice A l.length c∧RInts w A l∧∀ ad,A = some ad→base ≤ ad.block:=by
 obtain ⟨A,c,rfl⟩:=own_form h
 have hn : n = l.length:=by have:=h.1; rw [ints_length] at this; omega
 subst hn
 exact ⟨A,c,rfl,Reads.of_own h,own_fresh h⟩
theorem ints_out {w0 w : World} {base : Nat} {e : TypeId} {v : Value} {n : Nat} {l : List Int} (h : w.ownsRow base e 1 v n (ints l)) (hb : w0.heap.size ≤ base) (hB : Below w0.heap.size w0 w) : IntsOut l w0 (.returned v) w:=by
 obtain ⟨A,c,rfl,hr,hf⟩:=ints_own h
 exact ⟨A,c,rfl,hr,fun ad ha => Nat.le_trans hb (hf ad ha),hB⟩
theorem nil_out {w0 w : World} (hB : Below w0.heap.size w0 w) : IntsOut [] w0 (.returned (.slice none 0 0)) w:=⟨none,0,rfl,RInts.nil,(fun _ h => by cases h),hB⟩
theorem only_setCell {a w : World} {g : Nat} (h : a.grownBy w (some g)) {p : Addr} (hp : p.block = g ∨ a.heap.size ≤ p.block) (u : Value) : a.grownBy (w.setCell p u) (some g) :=
 ⟨h.os,h.tape,h.output,by simpa [World.setCell] using h.size,fun i hi hne => (Below.heap_setCell w p u i (by
  rintro rfl
  rcases hp with hp | hp
  ·exact hne (by rw [hp])
  ·omega)).trans (h.block i hi hne)⟩
theorem row_below {w w' : World} {b : Nat} {t : TypeId} {n : Nat} {f : Nat→Value} (h : w.rowIs b t n f) (hb : Below w.heap.size w w') : w'.rowIs b t n f:=h.of_block (hb.block b h.lt)
theorem own_below {w w' : World} {base : Nat} {e : TypeId} {size n : Nat} {v : Value} {xs : List Value} (h : w.ownsRow base e size v n xs) (hb : Below w.heap.size w w') : w'.ownsRow base e size v n xs :=
 h.kept (row:=none) ⟨hb.os,hb.tape,hb.output,hb.size,fun i hi _ => hb.block i hi⟩ (by cases hv : v.ownBlock <;> simp)
theorem one_int (k : IntKind) (x : Int) : ∀ u ∈ (#[Value.int k x] : Array Value).toList,u.oneCell' = true:=by
 intro u hu
 simp at hu
 subst hu
 rfl
theorem wpList_append_new {P : Program} {ops : Array Oper} {rest : List Oper} {o : Oper} {a : Act} {Q : Exit→Act→World→Prop} (w w0 : World) (hgd : o.guard = none) (s x : Operand) (t : TypeId)
  (ho : o.op = .call { callee := .builtin .append,args:=#[s,x],argTypes:=#[t,t] })
  (base : Nat) (e : TypeId) (i : TypeInfo) (z : Value) (size bytes : Nat) (ht : P.underlying t = some (.slice e)) (hi : P.info? e = some i) (hz : i.zero = some z)
  (hsize : i.size = size) (hby : i.bytes = bytes) (hzs : z.cells.size = size) (hsz : 0 < size) (hb4 : bytes ≤ 4096)
  (v : Value) (n : Nat) (xs : List Value) (hs : a.eval s = v) (hown : w0.ownsRow base e size v n xs)
  (cs : Array Value) (hcs : cs.size = size) (h1 : ∀ u ∈ cs.toList,u.oneCell' = true) (hx : a.eval x = .slice (some ⟨w0.heap.size,0,none⟩) 1 1)
  (hw : w = w0.alloc (.cells cs e)) (hn : n ≤ 1000000000) (hbase : base ≤ w0.heap.size)
  (h : ∀ v' w',w'.ownsRow base e size v' (n+1) (xs ++ cs.toList)→Below base w0 w'→wpList P ops Q rest (a.put o.dst v') w') : wpList P ops Q (o :: rest) a w:=by
 subst hw
 refine wpList_append_own (w0.alloc (.cells cs e)) hgd s x t ho base e i z size bytes ht hi hz hsize hby hzs hsz v n xs hs (hown.alloc _) ⟨w0.heap.size,0,none⟩ 1 1 cs.toList hx (by simp [hcs]) ?_ h1 (by unfold maxLen; omega) ?_ (by simp; omega) ?_
 ·intro j u hu
  have hadd : (⟨w0.heap.size,0,none⟩ : Addr).add j = ⟨w0.heap.size,j,none⟩:=by unfold Addr.add; split <;> simp_all
  rw [hadd,(Blk.new w0 e cs).cell j]
  simpa using hu
 ·have : (n+1) * bytes ≤ 1000000001 * 4096:=Nat.mul_le_mul (by omega) hb4
  omega
 ·intro v' w' h2 h3 _
  exact h v' w' h2 (((Below.refl base w0).alloc hbase _).grown h3 (by simp; omega) (fun k hk => ((hown.alloc (.cells cs e)).lt k hk).1))
theorem one_box {w w1 : World} {cs : Array Value} {t : TypeId} (hb : Below (w.alloc (.cells cs t)).heap.size (w.alloc (.cells cs t)) w1) :
  Blk w1 w.heap.size t cs∧w.heap.size < w1.heap.size∧Below w.heap.size w w1:=by
 have h:=(Blk.new w t cs).below hb (by simp)
 exact ⟨h,h.lt,((Below.refl _ _).alloc (Nat.le_refl _) _).trans (hb.mono (by simp))⟩
theorem two_boxes {w w1 : World} {cs cs2 : Array Value} {t t2 : TypeId} (hb : Below ((w.alloc (.cells cs t)).alloc (.cells cs2 t2)).heap.size ((w.alloc (.cells cs t)).alloc (.cells cs2 t2)) w1) :
  Blk w1 w.heap.size t cs∧Blk w1 (w.heap.size+1) t2 cs2∧w.heap.size+1 < w1.heap.size∧Below w.heap.size w w1:=by
 have h1:=((Blk.new w t cs).alloc (.cells cs2 t2)).below hb (by simp; omega)
 have h2:=(Blk.new (w.alloc (.cells cs t)) t2 cs2).below hb (by simp)
 simp only [World.size_alloc] at h2
 exact ⟨h1,h2,h2.lt,(((Below.refl _ _).alloc (Nat.le_refl _) _).alloc (by simp) _).trans (hb.mono (by simp; omega))⟩
theorem three_boxes {w w1 : World} {cs cs2 cs3 : Array Value} {t t2 t3 : TypeId} (hb : Below (((w.alloc (.cells cs t)).alloc (.cells cs2 t2)).alloc (.cells cs3 t3)).heap.size (((w.alloc (.cells cs t)).alloc (.cells cs2 t2)).alloc (.cells cs3 t3)) w1) :
  Blk w1 w.heap.size t cs∧Blk w1 (w.heap.size+1) t2 cs2∧Blk w1 (w.heap.size+2) t3 cs3∧w.heap.size+2 < w1.heap.size∧Below w.heap.size w w1:=by
 have h1:=(((Blk.new w t cs).alloc (.cells cs2 t2)).alloc (.cells cs3 t3)).below hb (by simp; omega)
 have h2:=((Blk.new (w.alloc (.cells cs t)) t2 cs2).alloc (.cells cs3 t3)).below hb (by simp)
 have h3:=(Blk.new ((w.alloc (.cells cs t)).alloc (.cells cs2 t2)) t3 cs3).below hb (by simp)
 simp only [World.size_alloc] at h2 h3
 exact ⟨h1,h2,h3,h3.lt,((((Below.refl _ _).alloc (Nat.le_refl _) _).alloc (by simp) _).alloc (by simp; omega) _).trans (hb.mono (by simp; omega))⟩
theorem RInts.setFar {w : World} {A : Option Addr} {l : List Int} {p : Addr} (h : RInts w A l) (hne : ∀ ad,A = some ad→ad.block ≠ p.block) (u : Value) : RInts (w.setCell p u) A l:=by
 refine ⟨h.1,fun hn => ?_⟩
 obtain ⟨ad,e,hb,hc⟩:=h.2 hn
 refine ⟨ad,e,by simpa [World.setCell] using hb,fun j v hv => ?_⟩
 rw [World.cell?_setCell_other w p (ad.add j) u (fun e' => hne ad e (by rw [← block_of_add ad j,e']))]
 exact hc j v hv
theorem Tryz.infoInt : (Tryz.prog.info? 3).map (fun i => (i.zero,i.size,i.bytes)) = some (some (.int .i64 0),1,8):=by kernel_rfl
section
theorem tk {P : Program} {ops : Array Oper} {Q : Exit→Act→World→Prop} {md : Region.Mode} {S : World→Prop} {oi : Oper} {v : Value} {fuel : Nat} {listed : Array Bool} {a : Act} {w : World} (i : Nat)
  (h : wpAnyH P md ops Q S fuel (listed.setIfInBounds i true) (a.put oi.dst v) w) (hi : ops[i]? = some oi:=by exact rfl) (hs : Region.noSelect ops = true:=by kernel_rfl) (hf : Region.free md ops listed i = true:=by kernel_rfl)
  (hr : (Region.ready md ops listed).contains i = true:=by kernel_rfl) (hw : Region.wanted oi (yielded ops a.tmps) = true:=by rfl)
  (hv : ∀ w,S w→(execOp a.eval oi).run P w = .ok (.value v) w:=by (intro w' hSw; (try dsimp only at hSw); go_simp; try with_reducible rfl)) (hS : S w:=by assumption)
  (hQ : ∀ c a w,Q (.panic c) (a.put oi.dst v) w→Q (.panic c) a w:=by exact fun _ _ _ h => h) : wpAnyH P md ops Q S (fuel+1) listed a w:=wpAnyH_take hi hs hf hr hQ (Or.inl ⟨hw,hv⟩) hS h
theorem tu {P : Program} {ops : Array Oper} {Q : Exit→Act→World→Prop} {md : Region.Mode} {S : World→Prop} {oi : Oper} {fuel : Nat} {listed : Array Bool} {a : Act} {w : World} (i : Nat)
  (h : wpAnyH P md ops Q S fuel (listed.setIfInBounds i true) (a.put oi.dst undef) w) (hi : ops[i]? = some oi:=by exact rfl) (hs : Region.noSelect ops = true:=by kernel_rfl) (hf : Region.free md ops listed i = true:=by kernel_rfl)
  (hr : (Region.ready md ops listed).contains i = true:=by kernel_rfl) (hw : Region.wanted oi (yielded ops a.tmps) = false:=by rfl) (hS : S w:=by assumption)
  (hQ : ∀ c a w,Q (.panic c) (a.put oi.dst undef) w→Q (.panic c) a w:=by exact fun _ _ _ h => h) : wpAnyH P md ops Q S (fuel+1) listed a w:=wpAnyH_take hi hs hf hr hQ (Or.inr ⟨hw,rfl⟩) hS h
end
theorem jA {α : Type _} {xs : List α} {i : Nat} (h : i < xs.toArray.size) : xs.toArray[i] = xs[i]:=rfl
theorem jB {α : Type _} (a : α) (l : List α) (h : 0 < (a :: l).length) : (a :: l)[0] = a:=rfl
theorem jC {α : Type _} (a : α) (l : List α) (i : Nat) (h : i+1 < (a :: l).length) : (a :: l)[i+1] = l[i]'(Nat.lt_of_succ_lt_succ h):=rfl
theorem jD {α : Type _} (l : List α) (i : Nat) (a : α) : l.toArray.setIfInBounds i a = (l.set i a).toArray:=List.setIfInBounds_toArray l i a
theorem jE {α : Type _} {x : α} {xs : List α} {a : α} : (x :: xs).set 0 a = a :: xs:=rfl
theorem jF {α : Type _} {x : α} {xs : List α} {i : Nat} {a : α} : (x :: xs).set (i+1) a = x :: xs.set i a:=rfl
end Go.Proofs.YtnppngaabfhkpaaGreat
