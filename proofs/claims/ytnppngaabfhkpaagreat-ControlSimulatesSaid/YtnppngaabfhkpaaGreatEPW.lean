/-
  Words: a store of a whole block, and results that are read from a block.
-/
import Derived.Test.YtnppngaabfhkpaaGreatEP13
import Derived.Deep.MidRow
import Derived.Deep.RegionHeld3
namespace Go.Proofs.YtnppngaabfhkpaaGreat
open Go.RowKit
theorem blk_setCells {g:Nat} {t:TypeId}:∀ (vs:List Value) (o:Nat) (w:World) (cs:Array Value),Blk w g t cs→∃ cs',Blk (w.setCells g o vs) g t cs'∧cs'.size=cs.size
 | [],_,_,cs,h => ⟨cs,h,rfl⟩
 | v :: r,o,w,cs,h => by
  obtain ⟨cs',h1,h2⟩:=blk_setCells r (o+1) (w.setCell ⟨g,o,none⟩ v) _ (h.set_ o v)
  exact ⟨cs',h1,by simpa using h2⟩
theorem blk_there {w:World} {g:Nat} {t:TypeId} {cs:Array Value} (h:Blk w g t cs):w.there g 0 cs.size:=fun j hj => by
 rw [Nat.zero_add]
 exact ⟨by rw [h.cell]; simp [hj],h.frozen j⟩
theorem blk_store {w:World} {g:Nat} {t:TypeId} {cs vs:Array Value} (h:Blk w g t cs) (hs:vs.size=cs.size):Blk (w.setCells g 0 vs.toList) g t vs:=by
 obtain ⟨cs',h1,h2⟩:=blk_setCells vs.toList 0 w cs h
 have e:cs'=vs:=by
  apply Array.ext (by omega)
  intro j hj hj2
  have ht:=blk_there h
  have h3:=World.cell?_setCells_in g vs.toList 0 w (fun i hi => (ht i (by simpa [hs] using hi)).1) j (by simpa using hj2)
  rw [Nat.zero_add,h1.cell] at h3
  simpa [Array.getElem?_eq_getElem hj] using h3
 rwa [e] at h1
theorem grown_setCells {g:Nat}:∀ (vs:List Value) (o:Nat) (a w:World),a.grownBy w (some g)→a.grownBy (w.setCells g o vs) (some g)
 | [],_,_,_,h => h
 | v :: r,o,a,w,h => grown_setCells r (o+1) a (w.setCell ⟨g,o,none⟩ v) (only_setCell h (.inl rfl) v)
section
variable {P:Program} {ops:Array Oper} {rest:List Oper} {o:Oper} {a:Act} {W:World} {Q:Exit→Act→World→Prop}
theorem wpList_store_blk (hgd:o.guard=none) (ty:TypeId) (s y:Operand) (ho:o.op = .store ty s y) (g:Nat) (hx:a.eval s = .pointer (some ⟨g,0,none⟩)) (vs:Array Value) (hy:a.eval y = .agg vs)
  (hi:(P.info? ty).map (·.size)=some vs.size) (h1:vs.all (·.oneCell')=true) {t:TypeId} {cs:Array Value} (h:Blk W g t cs) (hsz:vs.size=cs.size)
  (hk:∀ w',Blk w' g t vs→W.grownBy w' (some g)→wpList P ops Q rest (a.put o.dst undef) w'):wpList P ops Q (o :: rest) a W:=by
 have ht:=blk_there h
 rw [← hsz] at ht
 exact wpList_store_mid hgd ty s y ho g 0 vs hx hy ht hi h1 (hk _ (blk_store h hsz) (grown_setCells _ _ _ _ ⟨rfl,rfl,rfl,Nat.le_refl _,fun _ _ _ => rfl⟩))
theorem step_load_blk {K:Act→World→Prop} {E:Prop} (hw:Region.wanted o (yielded ops a.tmps)=true) (ty:TypeId) {cs:Array Value} (hu:(P.underlying ty).map (fun d => match d with | .struct _ | .array _ _ => true | _ => false)=some true) (hi:(P.info? ty).map (·.size)=some cs.size)
  (s:Operand) (ho:o.op = .load ty s) (g:Nat) (hx:a.eval s = .pointer (some ⟨g,0,none⟩)) {t:TypeId} (h:Blk W g t cs) (hk:K (a.put o.dst (.agg cs)) W) :
  if Region.wanted o (yielded ops a.tmps)=true then Oper.wp P o a W K Q else E:=by
 rw [if_pos hw]
 cases hd:P.underlying ty with
 | none => rw [hd] at hu; cases hu
 | some d =>
  rw [hd] at hu
  exact wp_load_row ty s ho g hx t cs (0,0) d h hd (by cases d <;> simp_all) hi hk
end
theorem run_load_blk {P:Program} {ty t:TypeId} {W:World} {g:Nat} {cs:Array Value} (hu:(P.underlying ty).map (fun d => match d with | .struct _ | .array _ _ => true | _ => false)=some true) (hi:(P.info? ty).map (·.size)=some cs.size) (h:Blk W g t cs) :
  (loadVar ty ⟨g,0,none⟩).run P W = .ok (.agg cs) W:=by
 cases hd:P.underlying ty with
 | none => rw [hd] at hu; cases hu
 | some d =>
  rw [hd] at hu
  exact run_loadVar_row (P:=P) W g t ty cs (0,0) d h hd (by cases d <;> simp_all) hi
theorem results_cell {P:Program} {fn:Func} {i:Tmp} {ty:TypeId} (hr:fn.results = #[.cell i ty]) {tmps:Array Value} {g:Nat} (hi:tmps.getD i undef = .pointer (some ⟨g,0,none⟩)) {W:World} {v:Value} (hl:(loadVar ty ⟨g,0,none⟩).run P W = .ok v W) :
  (results fn tmps).run P W = .ok v W:=by
 have hi':tmps[i]?.getD undef = .pointer (some ⟨g,0,none⟩):=by simpa using hi
 simp [results,hr,hi',asAddr,hl]
theorem results_cell_tmp {P:Program} {fn:Func} {i j:Tmp} {ty:TypeId} (hr:fn.results = #[.cell i ty,.tmp j]) {tmps:Array Value} {g:Nat} (hi:tmps.getD i undef = .pointer (some ⟨g,0,none⟩)) {W:World} {v:Value} (hl:(loadVar ty ⟨g,0,none⟩).run P W = .ok v W) :
  (results fn tmps).run P W = .ok (.tuple #[v,tmps.getD j undef]) W:=by
 have hi':tmps[i]?.getD undef = .pointer (some ⟨g,0,none⟩):=by simpa using hi
 simp [results,hr,hi',asAddr,hl]
end Go.Proofs.YtnppngaabfhkpaaGreat
namespace Go.Proofs.YtnppngaabfhkpaaGreat
open Go.RowKit
attribute [local go_sem ↓] Go.wp_at_zero Go.wp_at_succ
theorem PbM.cs_one (x:PbM):x.cs.all (·.oneCell')=true:=by simp [PbM.cs,Value.oneCell']
section
variable {m:PbM} {y:PnM} {p1 x1:Nat} {w wr w1:World}
end
theorem yieldsIf_load_blk {P:Program} {ops:Array Oper} {S:World→Prop} {op:Oper} {a:Act} (hw:Region.wanted op (yielded ops a.tmps)=true) (ty:TypeId) {cs:Array Value} (hu:(P.underlying ty).map (fun d => match d with | .struct _ | .array _ _ => true | _ => false)=some true) (hi:(P.info? ty).map (·.size)=some cs.size)
  (x:Operand) (ho:op.op = .load ty x) (g:Nat) (hx:a.eval x = .pointer (some ⟨g,0,none⟩)) {t:TypeId} (hS:∀ w,S w→Blk w g t cs):YieldsIf P ops S op (.agg cs) a :=
 .inl ⟨hw,fun w hw' => by
  have h:=run_load_blk hu hi (hS w hw')
  unfold execOp
  simp only [ho,hx,Instr.loadAt,Instr.sureAddr,Sem.run_bind,Sem.run_pure,Result.andThen_ok,h]⟩
theorem below_al {W w':World} {o:Obj} (h:Below W.heap.size W w'):Below W.heap.size W (w'.alloc o):=h.alloc h.size o
theorem below_tr {W w' w'':World} (h:Below W.heap.size W w') (h2:Below w'.heap.size w' w''):Below W.heap.size W w'':=h.trans (h2.mono h.size)
end Go.Proofs.YtnppngaabfhkpaaGreat
