/-
  The laws OptimumBetter and OptimumStrict, walked.
-/
import Derived.Test.YtnppngaabfhkpaaGreatECS0
import Derived.Test.YtnppngaabfhkpaaGreatEOP6
import Derived.Test.YtnppngaabfhkpaaGreatEOP7
namespace Go.Proofs.YtnppngaabfhkpaaGreat
open Go.RowKit
attribute [local go_sem ↓] Go.wp_at_zero Go.wp_at_succ
section
variable {ops:Array Oper} {rest:List Oper} {o:Oper} {a:Act} {W:World} {Q:Exit→Act→World→Prop}
theorem wpList_load_planG (hw:Region.wanted o (yielded ops a.tmps)=true) (s:Operand) (ho:o.op = .load 48 s) (g:Nat) (hx:a.eval s = .pointer (some ⟨g,0,none⟩)) (y:PnM) (h:Blk W g 48 y.cs) (hk:wpList Tryz.prog ops Q rest (a.put o.dst y.v) W) :
  wpList Tryz.prog ops Q (o :: rest) a W:=wpList_step fun _ hK => step_load_blk hw 48 (by kernel_rfl) (by kernel_rfl) s ho g hx h (hK _ _ hk)
end
set_option maxRecDepth 100000 in
set_option maxHeartbeats 16000000 in
theorem with_any (A:Option Addr) (c:Nat) (l:List Int) (n:Int) (w:World) (hR:RInts w A l) (h1:l.length ≤ 1000) :
  Calls Tryz.prog 75 #[.slice A l.length c,.int .i64 n] w (IntsCap (l ++ [n]) w):=by
 obtain ⟨i0,hi,hz0,hz1,hz2⟩:=info_parts Tryz.infoInt
 have HO:=Lib.hid (World.ownsRow_lit (base:=w.heap.size) (e:=3) (size:=1) w #[] 0 (by omega) (by unfold maxLen; omega) rfl)
 have HRS:Hid (Reads (w.alloc (.cells #[] 3)) w.heap.size 1 A l.length (ints l)):=Reads.alloc hR (Nat.le_refl _) _
 have HON:=Lib.hid (ints_one l)
 obtain ⟨sl,hsl⟩:∃ z,z=l.length:=⟨_,rfl⟩
 have HSL:=Lib.hid hsl
 rw [← hsl] at HRS h1
 rw [← hsl]
 clear hR hsl
 go_enter Tryz.func75,Tryz.ntmps75
 go_wp2_with (at_builtin; refine wpList_append_any _ rfl _ _ 22 rfl w.heap.size 3 i0 (.int .i64 0) 1 8 Tryz.underlying22 hi hz0 hz1 hz2 rfl (by decide) _ _ _ rfl HO.out _ _ _ _ (ints l) rfl HRS.out HON.out (by unfold maxLen; omega) (by omega) (by simp) ?_)
 intro v5 w5 hown5 hg5 hv5
 have hB5:Below w.heap.size w w5:=((Below.refl w.heap.size w).alloc (Nat.le_refl _) (.cells #[] 3)).grown hg5 (by simp) (fun k hk => (HO.out.lt k hk).1)
 have HB5:=Lib.hid hB5
 have HO5:Hid (w5.ownsRow w.heap.size 3 1 v5 sl (ints l)):=by
  show World.ownsRow _ _ _ _ _ _ _
  simpa using hown5
 have HZ5:=Lib.hid hB5.size
 have HLT:=Lib.hid (fun k hk => (hown5.lt k hk).1)
 clear hown5 hg5 hv5 hB5 HO HRS
 go_wp2_with (at_builtin; refine wpList_append_newGH _ w5 w5.heap.size rfl rfl _ _ 22 rfl w.heap.size 3 i0 (.int .i64 0) 1 8 Tryz.underlying22 hi hz0 hz1 hz2 rfl (by decide) (by decide) _ sl (ints l) rfl HO5.out #[.int .i64 n] rfl (one_int _ _) rfl rfl (by omega) HZ5.out ?_)
 intro v6 w6 hown6 hg6 hv6
 have hB6:Below w.heap.size w w6:=HB5.out.grown hg6 HZ5.out (fun k hk => HLT.out k hk)
 obtain ⟨A4,c4,rfl⟩:=own_form hown6
 have hlen:(l ++ [n]).length=sl+1:=by rw [List.length_append, ← HSL.out]; rfl
 have hr:RInts w6 A4 (l ++ [n]):=by
  unfold RInts
  rw [hlen,ints_append]
  exact Reads.of_own hown6
 have hc:sl+1 ≤ c4:=own_cap hown6
 have hfr:∀ ad,A4=some ad→w.heap.size ≤ ad.block:=fun ad e => (hown6.lt ad.block (by rw [e]; rfl)).1
 have HFR:=Lib.hid hfr
 have HR:=Lib.hid hr
 have HC:=Lib.hid hc
 have HLE:=Lib.hid hlen
 have HB:=Lib.hid hB6
 clear hown6 hg6 hv6 hB6 hr hc hlen hfr
 go_wp2_with fail
 go_ret
 exact ⟨A4,c4,by rw [HLE.out]; rfl,HR.out,by rw [HLE.out]; exact HC.out,HFR.out,HB.out⟩
end Go.Proofs.YtnppngaabfhkpaaGreat
namespace Go.Proofs.YtnppngaabfhkpaaGreat
open Go.RowKit
theorem Tryz.infoBool:(Tryz.prog.info? 4).map (fun i => (i.zero,i.size,i.bytes))=some (some (.bool false),1,1):=by kernel_rfl
def bools (l:List Bool):List Value:=l.map Value.bool
theorem bools_length (l:List Bool):(bools l).length=l.length:=by simp [bools]
theorem bools_append (l r:List Bool):bools (l ++ r)=bools l ++ bools r:=by simp [bools]
def RBools (w:World) (A:Option Addr) (l:List Bool):Prop:=Reads w w.heap.size 1 A l.length (bools l)
section
variable {w w':World} {A:Option Addr} {l:List Bool}
theorem RBools.below (h:RBools w A l) (hb:Below w.heap.size w w'):RBools w' A l:=(Reads.below h hb).more hb.size
theorem RBools.nil:RBools w A []:=⟨by simp [bools],fun h => absurd h (by simp)⟩
theorem RBools.at' {k:Nat} (h:RBools w A l) (hk:k < l.length):∃ b o,A=some ⟨b,o,none⟩∧b < w.heap.size∧w.cell? ⟨b,o+k,none⟩=some (.bool l[k]):=by
 obtain ⟨ad,u,e,hb,hu,hc⟩:=Reads.at_ h hk
 obtain ⟨ad',u',e',_,hu',hc0⟩:=Reads.at_ h (show 0 < l.length by omega)
 rw [e] at e'
 injection e' with e'
 subst e'
 obtain ⟨b,o,sp⟩:=ad
 have hsp:sp=none:=by
  cases sp with
  | none => rfl
  | some x =>
   simp only [Addr.add,if_pos,World.cell?] at hc0
   split at hc0 <;> simp at hc0
 subst hsp
 rw [addr_add] at hc
 refine ⟨b,o,e,hb,?_⟩
 rw [hc]
 simp only [bools,List.getElem?_map,Option.map_eq_some_iff] at hu
 obtain ⟨x,h1,h2⟩:=hu
 rw [List.getElem?_eq_getElem hk] at h1
 injection h1 with h1
 rw [← h2,h1]
theorem RBools.other {r:Option Nat} (h:RBools w A l) (hg:w.grownBy w' r) (hne:∀ ad,A=some ad→some ad.block ≠ r):RBools w' A l:=by
 refine ⟨h.1,fun hn => ?_⟩
 obtain ⟨ad,e,hb,hc⟩:=h.2 hn
 refine ⟨ad,e,Nat.lt_of_lt_of_le hb hg.size,fun j u hu => ?_⟩
 rw [World.cell?_of_block (hg.block (ad.add j).block (by rw [block_of_add]; exact hb) (by rw [block_of_add]; exact hne ad e))]
 exact hc j u hu
theorem RBools.lt (h:RBools w A l) (hl:l ≠ []):∀ ad,A=some ad→ad.block < w.heap.size:=by
 intro ad e
 obtain ⟨ad',e',hb,_⟩:=h.2 (List.length_pos_iff.2 hl)
 rw [e] at e'; injection e' with e'; subst e'; exact hb
end
theorem rbools_lit (w:World) (cs:Array Value) (t:TypeId) {l:List Bool} (h:cs.toList=bools l):RBools (w.alloc (.cells cs t)) (some ⟨w.heap.size,0,none⟩) l:=by
 refine ⟨by rw [bools_length,Nat.mul_one],fun _ => ⟨_,rfl,by simp,fun j u hu => ?_⟩⟩
 have hadd:(⟨w.heap.size,0,none⟩:Addr).add j=⟨w.heap.size,j,none⟩:=by unfold Addr.add; split <;> simp_all
 rw [hadd,(Blk.new w t cs).cell j, ← hu, ← h]
 simp
structure DcM where
 charge:Int
 heat:Int
 A:Option Addr
 c:Nat
 l:List Bool
def DcM.d (m:DcM):Dc:=⟨m.charge,m.heat,m.l⟩
def DcM.cs (m:DcM):Array Value:=#[.int .i64 m.charge,.int .i64 m.heat,.slice m.A m.l.length m.c]
def DcM.v (m:DcM):Value := .agg #[.int .i64 m.charge,.int .i64 m.heat,.slice m.A m.l.length m.c]
theorem DcM.cs_one (m:DcM):m.cs.all (·.oneCell')=true:=by simp [DcM.cs,Value.oneCell']
def DcM.zero:DcM:=⟨0,0,none,0, []⟩
def DecOut (d:Dc) (w:World) (v:Value) (w':World):Prop :=
 ∃ m:DcM,v=m.v∧m.d=d∧RBools w' m.A m.l∧m.l.length ≤ m.c∧(∀ ad,m.A=some ad→w.heap.size ≤ ad.block)∧Below w.heap.size w w'
structure PD (x:PbM) (m:DcM) (t:TypeId) (w wr:World):Prop where
 p:Blk wr w.heap.size 31 x.cs
 q:Blk wr (w.heap.size+1) t m.cs
 bel:Below w.heap.size w wr
section
variable {x:PbM} {m:DcM} {t:TypeId} {w wr w1:World}
theorem PD.start (x:PbM) (m:DcM) (t:TypeId) (w:World):PD x m t w ((w.alloc (.cells x.cs 31)).alloc (.cells m.cs t)):=by
 obtain ⟨h1,h2,h3,h4⟩:=two_boxes (w:=w) (cs:=x.cs) (t:=31) (cs2:=m.cs) (t2:=t) (Below.refl _ _)
 exact ⟨h1,h2,h4⟩
theorem PD.lt (h:PD x m t w wr):w.heap.size+2 ≤ wr.heap.size:=h.q.lt
theorem PD.below (h:PD x m t w wr) (hb:Below wr.heap.size wr w1):PD x m t w w1:=⟨h.p.below hb h.p.lt,h.q.below hb h.q.lt,h.bel.trans (hb.mono h.bel.size)⟩
theorem PD.alloc (h:PD x m t w wr) (o:Obj):PD x m t w (wr.alloc o):=h.below (below_al (Below.refl _ _))
end
structure DL (x:PbM) (w wr:World) (g:Nat) (C H:Int) (v:Value) (l:List Bool):Prop where
 pd:PD x DcM.zero 39 w wr
 blk:Blk wr g 39 #[.int .i64 C,.int .i64 H,v]
 own:wr.ownsRow (g+1) 4 1 v l.length (bools l)
 lt:w.heap.size+2 ≤ g
structure DA (x:PbM) (w wr:World) (g:Nat) (C H:Int) (v v':Value) (l:List Bool):Prop where
 pd:PD x DcM.zero 39 w wr
 blk:Blk wr g 39 #[.int .i64 C,.int .i64 H,v]
 own:wr.ownsRow (g+1) 4 1 v' l.length (bools l)
 lt:w.heap.size+2 ≤ g
section
variable {x:PbM} {w wr w1:World} {g:Nat} {C H:Int} {v v':Value} {l:List Bool}
theorem DL.below (h:DL x w wr g C H v l) (hb:Below wr.heap.size wr w1):DL x w w1 g C H v l:=⟨h.pd.below hb,h.blk.below hb h.blk.lt,own_below h.own hb,h.lt⟩
theorem DL.away (h:DL x w wr g C H v l) {k:Nat} (hk:k < g+1):some k ≠ v.ownBlock:=fun e => by have:=(h.own.lt k e.symm).1; omega
theorem PD.grown {m:DcM} {t:TypeId} {r:Option Nat} (h:PD x m t w wr) (hg:wr.grownBy w1 r) (hr:∀ k,r=some k→w.heap.size+2 ≤ k):PD x m t w w1 :=
 ⟨h.p.grown hg (by intro e; have:=hr _ e.symm; omega),h.q.grown hg (by intro e; have:=hr _ e.symm; omega),h.bel.grown hg h.bel.size (fun k e => by have:=hr _ e; omega)⟩
theorem DL.push (h:DL x w wr g C H v l) {b:Bool} (hown:w1.ownsRow (g+1) 4 1 v' (l.length+1) (bools l ++ [.bool b])) (hg:wr.grownBy w1 v.ownBlock):DA x w w1 g C H v v' (l ++ [b]) :=
 ⟨h.pd.grown hg (fun k e => by have:=(h.own.lt k e).1; have:=h.lt; omega),h.blk.grown hg (fun e => h.away (Nat.lt_succ_self _) e),by rw [List.length_append,bools_append]; exact hown,h.lt⟩
theorem DA.set (h:DA x w wr g C H v v' l):DL x w (wr.setCell ⟨g,2,none⟩ v') g C H v' l:=by
 have hg:wr.grownBy (wr.setCell ⟨g,2,none⟩ v') (some g):=only_setCell (grown_id _ _) (.inl rfl) _
 refine ⟨h.pd.grown hg (fun k e => by injection e with e; have:=h.lt; omega),?_,own_setCell h.own (by show g < g+1; omega) _,h.lt⟩
 have:=h.blk.set_ 2 v'
 simpa using this
theorem DL.start (h:PD x DcM.zero 39 w wr) (hb:Blk wr g 39 #[.int .i64 C,.int .i64 H,.slice none 0 0]) (hlt:w.heap.size+2 ≤ g):DL x w wr g C H (.slice none 0 0) [] :=
 ⟨h,hb,World.ownsRow_nil _ _ _ _,hlt⟩
theorem DL.form (h:DL x w wr g C H v l):∃ A c,v = .slice A l.length c:=own_form h.own
theorem DL.dec {A:Option Addr} {c:Nat} (h:DL x w wr g C H (.slice A l.length c) l) (w':World) (hb:Below wr.heap.size wr w'):RBools w' A l∧l.length ≤ c∧∀ ad,A=some ad→w.heap.size+3 ≤ ad.block:=by
 have ho:=own_below h.own hb
 exact ⟨Reads.of_own ho,own_cap ho,fun ad e => by have:=own_fresh ho ad e; have:=h.lt; omega⟩
end
end Go.Proofs.YtnppngaabfhkpaaGreat
