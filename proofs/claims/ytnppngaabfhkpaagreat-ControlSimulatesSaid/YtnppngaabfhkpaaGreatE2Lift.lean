/-
  From a law's walk to its row: arguments read behind the call as they read before it, where nothing below the heap's end has turned.
-/
import Derived.Test.YtnppngaabfhkpaaGreatRows
import Derived.ProofKit
import Derived.Lib.SmallJoins
import Derived.Deep.Slices
import Derived.Deep.Fields
import Derived.ChangeSame
import Derived.Below
import Derived.Test.YtnppngaabfhkpaaGreatE0Words
import Derived.OpenShut
namespace Go.Proofs.YtnppngaabfhkpaaGreat
open Go.ChangeShapes Go.WideShapes Go.ChangeAt Go.RowKit
theorem Tryz.own:ownKnob Tryz.prog.godebug=none:=by kernel_rfl
theorem Tryz.laidOut:laidOutB Tryz.prog=true:=by kernel_rfl
section
variable {H:Type} {enc:TypeId × Value→H} {P:Program}
theorem trodAll_below (hl:laidOutB P=true) {W W':World} (hb:Below W.heap.size W W'):∀ {ts:List TypeId} {vs:List Value} {ds:List (DataW H)} {ps:List MemPlace},
  (∀ t ∈ ts,P.readableRec t=true∧t < P.types.size)→DataW.TrodAll enc P W 0 (fun _ => true) true ts vs ds ps→(∀ x ∈ ps,x.block < W.heap.size) →
  DataW.TrodAll enc P W' 0 (fun b => decide (b < W.heap.size)) true ts vs ds ps:=by
 intro ts
 induction ts with
 | nil =>
  intro vs ds ps _ h _
  obtain ⟨rfl,rfl,rfl⟩:=trodAll_nil h
  exact trodAll_mk0
 | cons t ts ih =>
  intro vs ds ps hts h hlt
  obtain ⟨v,vs',d,ds',p,p',rfl,rfl,rfl,h0,h1⟩:=trodAll_cons h
  obtain ⟨hr,hrow⟩:=hts t (by simp)
  exact trodAll_cons_mk (Below.trod hl hr hrow h0 hb (fun x hx => hlt x (List.mem_append.2 (.inl hx))))
   (ih (fun t' ht' => hts t' (List.mem_cons_of_mem _ ht')) h1 (fun x hx => hlt x (List.mem_append.2 (.inr hx))))
theorem law_post {f:Func} {s:ChangeSpec} {W W':World} {args:Array Value} {ds gs:List (DataW H)} {before:List MemPlace} {tb:TypeId} (hl:laidOutB P=true) (hvars:s.vars = [])
  (hW:DataW.Whole enc P f.params.toList s.vars false W args.toList ds gs before) (hts:∀ t ∈ f.params.toList,P.readableRec t=true∧t < P.types.size)
  (hrt:f.resultTypes = #[tb]) (htb:P.underlying tb=some .bool) (hr:(s.fn H (ds ++ gs)).results = [.lit (.bool true)]) (ha:(s.fn H (ds ++ gs)).args=ds) (hv:(s.fn H (ds ++ gs)).vars = [])
  (hb:Below W.heap.size W W'):s.post enc P f false true false false W args (.bool true) W':=by
 have hlt:∀ p ∈ before,p.block < W.heap.size:=fun p hp => hW.lt p hp
 have hW':=hW
 obtain ⟨p,q,hA,hV,rfl,hfz,hnd⟩:=hW
 rw [hvars] at hV
 obtain ⟨rfl,rfl⟩:=trodVars_none hV
 refine ⟨ds, [],p ++ [], [],p, [],hW',?_,?_,?_,hb.frame _,fun h => by cases h⟩
 ·rw [hr,hrt]
  exact trodAll_mk1 (shut_bool htb true)
 ·rw [ha]
  exact trodAll_below hl hb hts hA (fun x hx => hlt x (by simpa using hx))
 ·rw [hvars,hv]; rfl
end
end Go.Proofs.YtnppngaabfhkpaaGreat
namespace Go.Proofs.YtnppngaabfhkpaaGreat
open Go.Joins Go.ChangeShapes Go.WideShapes Go.RowKit Go.Deep
section
variable {H:Type} {enc:TypeId × Value→H} {P:Program} {w:World} {base:Nat} {spare:Nat→Bool} {held:Bool}
theorem open_slice_fields {t e:TypeId} {fs:Array Field} {fuel:Nat} {cs:List Value} {x:DataW H × List MemPlace} (ht:P.underlying t=some (.slice e)) (he:P.underlying e=some (.struct fs))
  (hone:oneCellFields P fs=true) (hC:P.cellsOf e=fs.size) (h:DataW.trod enc P w base spare held fuel t cs=some x) :
  (cs = [.slice none 0 0]∧x=(.nil, [])) ∨
  ∃ (a:Addr) (len cap m:Nat) (D:Nat→DataW H) (Pl:Nat→List MemPlace),cs = [.slice (some a) len cap]∧base ≤ a.block∧len ≤ cap∧cap ≤ maxLen∧m=(if spare a.block then cap else len) ∧
   x=(.slice ((List.range len).map D) ((List.range (m - len)).map fun j => D (len+j)),MemPlace.row a (m * fs.size) ++ (List.range m).flatMap Pl) ∧
   ∀ i,i < m→∃ (ys:List (DataW H × List MemPlace)) (n:Nat),D i = .agg (ys.map (·.1))∧Pl i=ys.flatMap (·.2)∧ys.length=fs.size ∧
    ∀ (j:Nat) (f:Field),fs[j]? = some f→∃ (v:Value) (y:DataW H × List MemPlace),w.cell? (a.add (i * fs.size+j))=some v∧ys[j]? = some y∧DataW.trod enc P w base spare held n f.type [v]=some y:=by
 rcases open_slice ht h with h0 | ⟨a,len,cap,m,n,D,Pl,hcs,hb,hl,hm,hmm,hx,hi⟩
 ·exact .inl h0
 ·refine .inr ⟨a,len,cap,m,D,Pl,hcs,hb,hl,hm,hmm,by rw [hC] at hx; exact hx,fun i him => ?_⟩
  obtain ⟨cs',hc,ht'⟩:=hi i him
  rw [hC] at hc
  obtain ⟨ys,n',hn',hy,hlen,hyl,hf⟩:=DataW.trod_struct he ht'
  obtain ⟨_,hcl,hat⟩:=World.cells?_some hc
  simp only [Prod.mk.injEq] at hy
  refine ⟨ys,n',hy.1,hy.2,hyl,fun j f hj => ?_⟩
  obtain ⟨ho,hk⟩:=hone_of hone j f hj
  have hjl:j < fs.size:=(Array.getElem?_eq_some_iff.1 hj).1
  have hcell:=hat j hjl
  have hv:cs'[j]? = some (cs'[j]'(by omega)):=List.getElem?_eq_getElem (by omega)
  have h1:=hf j f hj
  rw [ho,hk] at h1
  have hone':(cs'.drop j).take 1 = [cs'[j]'(by omega)]:=by
   rw [List.drop_eq_getElem_cons (by omega)]
   rfl
  rw [hone'] at h1
  have hys:ys[j]? = some (ys[j]'(by omega)):=List.getElem?_eq_getElem (by omega)
  refine ⟨_,_,?_,hys,h1.trans hys⟩
  rw [← Go.Deep.add_add,hcell,hv]
end
theorem open_int1 {H:Type} {enc:TypeId × Value→H} {w:World} {base:Nat} {spare:Nat→Bool} {held:Bool} {n:Nat} {v:Value} {y:DataW H × List MemPlace}
  (h:DataW.trod enc Tryz.prog w base spare held n 3 [v]=some y):∃ x:Int,v = .int .i64 x∧(Lit.int .i64 x).wf=true:=by
 obtain ⟨a,e0,_,wa⟩:=DataW.trod_int Tryz.underlying3 h
 simp at e0
 exact ⟨a,e0,wa⟩
theorem Tryz.cellsInt:Tryz.prog.cellsOf 3=1:=by kernel_rfl
set_option maxRecDepth 100000 in
theorem open_rints1 {H:Type} {enc:TypeId × Value→H} {w:World} {base:Nat} {held:Bool} {n:Nat} {v:Value} {y:DataW H × List MemPlace}
  (h:DataW.trod enc Tryz.prog w base (fun _ => true) held n 22 [v]=some y) :
  ∃ A c xs,v = .slice A xs.length c∧RInts w A xs∧xs.length ≤ maxLen∧(∀ x ∈ xs,(Lit.int .i64 x).wf=true):=by
 rcases open_ints Tryz.underlying22 Tryz.underlying3 Tryz.cellsInt h with ⟨hcs,_⟩ | ⟨a,len,cap,zs,hcs,_,hl,hm,hz,_,hcell,hwz⟩
 ·simp at hcs
  exact ⟨none,0, [],hcs,RInts.nil,by simp,by simp⟩
 ·simp at hcs
  simp only [if_true] at hz
  have hlen:(zs.take len).length=len:=by rw [List.length_take]; omega
  refine ⟨some a,cap,zs.take len,by rw [hlen]; exact hcs,?_,by rw [hlen]; omega,fun x hx => hwz x (List.mem_of_mem_take hx)⟩
  refine ⟨by rw [ints_length,Nat.mul_one],fun hn => ⟨a,rfl,?_,fun j u hu => ?_⟩⟩
  ·have:=World.block_lt_of_cell? _ _ (hcell 0 (by omega))
   rwa [block_of_add] at this
  ·obtain ⟨x,hx,rfl⟩:=ints_get hu
   rw [List.getElem?_take] at hx
   split at hx
   ·rw [hcell j (by obtain ⟨h1,_⟩:=List.getElem?_eq_some_iff.1 hx; exact h1)]
    simp [hx]
   ·cases hx
theorem int_bd {x:Int} (h:(Lit.int .i64 x).wf=true) : -9223372036854775808 ≤ x∧x ≤ 9223372036854775807:=by
 simp [Lit.wf,IntKind.min,IntKind.max,IntKind.signed,IntKind.bits] at h
 exact h
theorem open_str1 {H:Type} {enc:TypeId × Value→H} {w:World} {base:Nat} {spare:Nat→Bool} {held:Bool} {n:Nat} {v:Value} {y:DataW H × List MemPlace}
  (h:DataW.trod enc Tryz.prog w base spare held n 9 [v]=some y):∃ s:ByteArray,v = .string s∧s.size ≤ maxLen:=by
 obtain ⟨a,e0,_,wa⟩:=DataW.trod_string Tryz.underlying9 h
 simp at e0
 exact ⟨a,e0,wa⟩
theorem list_of {α : Type} {n:Nat} {P:Nat → α → Prop} (h:∀ i,i < n→∃ x,P i x):∃ l:List α,l.length=n∧∀ i (hi:i < l.length),P i l[i]:=by
 induction n with
 | zero => exact ⟨[],rfl,fun i hi => absurd hi (by simp)⟩
 | succ n ih =>
  obtain ⟨l,hl,hp⟩:=ih fun i hi => h i (by omega)
  obtain ⟨x,hx⟩:=h n (by omega)
  refine ⟨l ++ [x],by simp [hl],fun i hi => ?_⟩
  by_cases e:i < l.length
  ·rw [List.getElem_append_left e]; exact hp i e
  ·have:i=n:=by simp at hi; omega
   subst this
   rw [List.getElem_append_right (by omega)]
   simpa using hx
end Go.Proofs.YtnppngaabfhkpaaGreat
