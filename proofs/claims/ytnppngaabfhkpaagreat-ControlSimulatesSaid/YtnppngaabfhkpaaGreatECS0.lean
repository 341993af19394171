/-
  Words on copies with their capacities.
-/
import Derived.Test.YtnppngaabfhkpaaGreatEL20
import Derived.Test.YtnppngaabfhkpaaGreatEL19
namespace Go.Proofs.YtnppngaabfhkpaaGreat
open Go.RowKit
attribute [local go_sem ↓] Go.wp_at_zero Go.wp_at_succ
theorem own_cap {w:World} {B n c size:Nat} {A:Option Addr} {e:TypeId} {xs:List Value} (h:w.ownsRow B e size (.slice A n c) n xs):n ≤ c:=by
 rcases h.2 with ⟨hv,hn⟩ | ⟨g,cap,cur,hv,hb,hc,h1,_⟩
 ·omega
 ·injection hv with _ _ hv
  omega
def OwnOut (xs:List Int) (w:World) (e:Ending) (w':World):Prop := ∃ v,e = .returned v∧w'.ownsRow w.heap.size 3 1 v xs.length (ints xs)∧Below w.heap.size w w'
theorem clone_own (A:Option Addr) (c:Nat) (xs:List Int) (w:World) (hx:RInts w A xs) (h1:xs.length ≤ 1000000000) :
  Calls Tryz.prog 68 #[.slice A xs.length c] w (OwnOut xs w):=by
 have hnil:=fun (W:World) (a:Option Addr) (m k:Nat) => Lib.run_eql_slice_nil (P:=Tryz.prog) W 22 3 a m k 0 0 Tryz.underlying22
 cases A with
 | none =>
  obtain rfl:=hx.none
  clear h1
  go_enter Tryz.func68,Tryz.ntmps68
  go_wp2_with fail
  go_ret
  exact ⟨_,rfl,World.ownsRow_nil _ _ _ _,Below.refl _ _⟩
 | some ad =>
  have HX:=Lib.hid hx
  have h2:=ints_one xs
  obtain ⟨n,hn⟩:∃ n,n=xs.length:=⟨_,rfl⟩
  have HN:=Lib.hid hn
  rw [← hn] at h1 ⊢
  clear hn hx
  obtain ⟨i0,hi,hz0,hz1,hz2⟩:=info_parts Tryz.infoInt
  have HO:=Lib.hid (World.ownsRow_lit (base:=w.heap.size) (e:=3) (size:=1) w #[] 0 (Nat.le_refl _) (by unfold maxLen; omega) rfl)
  have HR:Hid (Reads (w.alloc (.cells #[] 3)) (w.heap.size+1) 1 (some ad) n (ints xs)):=by
   have h:=HX.out.alloc (.cells #[] 3)
   unfold RInts at h
   rw [← HN.out,World.size_alloc] at h
   exact h
  go_enter Tryz.func68,Tryz.ntmps68
  go_wp2_with (at_builtin; refine wpList_append_any _ rfl _ _ 22 rfl w.heap.size 3 i0 (.int .i64 0) 1 8 Tryz.underlying22 hi hz0 hz1 hz2 rfl (by decide) _ _ _ rfl HO.out _ _ _ _ (ints xs) rfl HR.out h2 (by unfold maxLen; omega) (by omega) (by simp) ?_)
  intro v' w5 hown5 hg5 hv5
  have hB5:Below w.heap.size w w5:=((Below.refl w.heap.size w).alloc (Nat.le_refl _) (.cells #[] 3)).grown hg5 (by simp) (fun k hk => (HO.out.lt k hk).1)
  have hfin:Hid (OwnOut xs w (.returned v') w5):=⟨v',rfl,by rw [← HN.out]; simpa using hown5,hB5⟩
  clear hown5 hg5 hv5 hB5
  go_wp2_with fail
  go_ret
  exact hfin.out
def IntsCap (l:List Int) (w:World) (e:Ending) (w':World):Prop := ∃ A c,e = .returned (.slice A l.length c)∧RInts w' A l∧l.length ≤ c∧(∀ ad,A=some ad→w.heap.size ≤ ad.block)∧Below w.heap.size w w'
def LdOutC (m:Ld) (ok:Bool) (w:World) (e:Ending) (w':World):Prop :=
 ∃ A c,e = .returned (.tuple #[.agg #[.string m.name,.slice A m.prof.length c,.int .i64 m.early,.int .i64 m.late],.bool ok])∧RInts w' A m.prof∧m.prof.length ≤ c∧(∀ ad,A=some ad→w.heap.size ≤ ad.block)∧Below w.heap.size w w'
theorem zero_outC {w w':World} (h:Below w.heap.size w w'):LdOutC Ld.zero false w (.returned (.tuple #[.agg #[.string ⟨#[]⟩,.slice none 0 0,.int .i64 0,.int .i64 0],.bool false])) w' :=
 ⟨none,0,rfl,RInts.nil,Nat.le_refl _,(fun _ h => by cases h),h⟩
theorem clone_cap (A:Option Addr) (c:Nat) (xs:List Int) (w:World) (hx:RInts w A xs) (h1:xs.length ≤ 1000000000):Calls Tryz.prog 68 #[.slice A xs.length c] w (IntsCap xs w) :=
 (clone_own A c xs w hx h1).mono fun e w' ⟨v,he,hr,hb⟩ => by
  obtain ⟨A',c',rfl⟩:=own_form hr
  exact ⟨A',c',he,Reads.of_own hr,own_cap hr,own_fresh hr,hb⟩
end Go.Proofs.YtnppngaabfhkpaaGreat
