/-
  The arguments of the laws of layer 42 (plan) opened: a problem, a plan.
-/
import Derived.Test.YtnppngaabfhkpaaGreatE2Lift
import Derived.Test.YtnppngaabfhkpaaGreatEPW
namespace Go.Proofs.YtnppngaabfhkpaaGreat
open Go.Joins Go.ChangeShapes Go.WideShapes Go.RowKit Go.Deep
theorem Tryz.cellsLoadP:Tryz.prog.cellsOf 54=4:=by kernel_rfl
theorem Tryz.cellsProblem:Tryz.prog.cellsOf 31=20:=by kernel_rfl
theorem open_rintsD {H:Type} {enc:TypeId × Value→H} {w:World} {base:Nat} {held:Bool} {n:Nat} {v:Value} {y:DataW H × List MemPlace}
  (h:DataW.trod enc Tryz.prog w base (fun _ => true) held n 22 [v]=some y) :
  ∃ x:IntsM,v = .slice x.A x.l.length x.c∧RInts w x.A x.l∧x.l.length ≤ x.c∧x.l.length ≤ maxLen∧∀ s ∈ x.l, -9223372036854775808 ≤ s∧s ≤ 9223372036854775807:=by
 have hcap:∀ a len cap,v = .slice a len cap→len ≤ cap:=by
  intro a len cap e
  subst e
  rcases open_ints Tryz.underlying22 Tryz.underlying3 Tryz.cellsInt h with ⟨hcs,_⟩ | ⟨a',len',cap',zs,hcs,_,hl,hm,_⟩
  ·simp at hcs
   simp [hcs]
  ·simp at hcs
   omega
 obtain ⟨A,c,xs,rfl,hr,hm,hw⟩:=open_rints1 h
 exact ⟨⟨A,c,xs⟩,rfl,hr,hcap _ _ _ rfl,hm,fun s hs => int_bd (hw s hs)⟩
end Go.Proofs.YtnppngaabfhkpaaGreat
