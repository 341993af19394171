/-
  Words on a problem and a plan in memory (layer 42).
-/
import Derived.Test.YtnppngaabfhkpaaGreatEP5
import Derived.Test.YtnppngaabfhkpaaGreatEPP1
import Derived.Test.YtnppngaabfhkpaaGreatEL16
namespace Go.Proofs.YtnppngaabfhkpaaGreat
open Go.RowKit
structure PbM where
 buy:IntsM
 sell:IntsM
 fuse:Int
 solar:IntsM
 demand:IntsM
 outside:IntsM
 bat:Bat
 gain:Int
 loss:Int
 steps:Int
 power:Int
 low:IntsM
 high:IntsM
 LA:Option Addr
 lc:Nat
 loads:List LdM
 level:Int
 temp:Int
def PbM.room (x:PbM):Rm:=⟨x.gain,x.loss,x.steps,x.power,x.low.l,x.high.l⟩
def PbM.t (x:PbM):Tf:=⟨x.buy.l,x.sell.l,x.fuse⟩
def PbM.p (x:PbM):Pb:=⟨x.t,x.solar.l,x.demand.l,x.outside.l,x.bat,x.room,x.loads.map LdM.r,x.level,x.temp⟩
def PbM.v (x:PbM):Value := .agg #[.slice x.buy.A x.buy.l.length x.buy.c,.slice x.sell.A x.sell.l.length x.sell.c,.int .i64 x.fuse,.slice x.solar.A x.solar.l.length x.solar.c,.slice x.demand.A x.demand.l.length x.demand.c,.slice x.outside.A x.outside.l.length x.outside.c,.int .i64 x.bat.cap,.int .i64 x.bat.reserve,.int .i64 x.bat.charge,.int .i64 x.bat.discharge,.int .i64 x.bat.eff,.int .i64 x.gain,.int .i64 x.loss,.int .i64 x.steps,.int .i64 x.power,.slice x.low.A x.low.l.length x.low.c,.slice x.high.A x.high.l.length x.high.c,.slice x.LA x.loads.length x.lc,.int .i64 x.level,.int .i64 x.temp]
def PbM.cs (x:PbM):Array Value:=#[.slice x.buy.A x.buy.l.length x.buy.c,.slice x.sell.A x.sell.l.length x.sell.c,.int .i64 x.fuse,.slice x.solar.A x.solar.l.length x.solar.c,.slice x.demand.A x.demand.l.length x.demand.c,.slice x.outside.A x.outside.l.length x.outside.c,.int .i64 x.bat.cap,.int .i64 x.bat.reserve,.int .i64 x.bat.charge,.int .i64 x.bat.discharge,.int .i64 x.bat.eff,.int .i64 x.gain,.int .i64 x.loss,.int .i64 x.steps,.int .i64 x.power,.slice x.low.A x.low.l.length x.low.c,.slice x.high.A x.high.l.length x.high.c,.slice x.LA x.loads.length x.lc,.int .i64 x.level,.int .i64 x.temp]
def PbC (W:World) (g:Nat) (x:PbM):Prop:=W.cell? ⟨g,0,none⟩=some (.slice x.buy.A x.buy.l.length x.buy.c)∧W.cell? ⟨g,1,none⟩=some (.slice x.sell.A x.sell.l.length x.sell.c)∧W.cell? ⟨g,2,none⟩=some (.int .i64 x.fuse)∧W.cell? ⟨g,3,none⟩=some (.slice x.solar.A x.solar.l.length x.solar.c)∧W.cell? ⟨g,4,none⟩=some (.slice x.demand.A x.demand.l.length x.demand.c)∧W.cell? ⟨g,5,none⟩=some (.slice x.outside.A x.outside.l.length x.outside.c)∧W.cell? ⟨g,6,none⟩=some (.int .i64 x.bat.cap)∧W.cell? ⟨g,7,none⟩=some (.int .i64 x.bat.reserve)∧W.cell? ⟨g,8,none⟩=some (.int .i64 x.bat.charge)∧W.cell? ⟨g,9,none⟩=some (.int .i64 x.bat.discharge)∧W.cell? ⟨g,10,none⟩=some (.int .i64 x.bat.eff)∧W.cell? ⟨g,11,none⟩=some (.int .i64 x.gain)∧W.cell? ⟨g,12,none⟩=some (.int .i64 x.loss)∧W.cell? ⟨g,13,none⟩=some (.int .i64 x.steps)∧W.cell? ⟨g,14,none⟩=some (.int .i64 x.power)∧W.cell? ⟨g,15,none⟩=some (.slice x.low.A x.low.l.length x.low.c)∧W.cell? ⟨g,16,none⟩=some (.slice x.high.A x.high.l.length x.high.c)∧W.cell? ⟨g,17,none⟩=some (.slice x.LA x.loads.length x.lc)∧W.cell? ⟨g,18,none⟩=some (.int .i64 x.level)∧W.cell? ⟨g,19,none⟩=some (.int .i64 x.temp)
theorem PbC.below {W W':World} {g:Nat} {x:PbM} (h:PbC W g x) (hb:Below W.heap.size W W'):PbC W' g x:=by
 obtain ⟨h0,h1,h2,h3,h4,h5,h6,h7,h8,h9,h10,h11,h12,h13,h14,h15,h16,h17,h18,h19⟩:=h
 exact ⟨cell_below h0 hb,cell_below h1 hb,cell_below h2 hb,cell_below h3 hb,cell_below h4 hb,cell_below h5 hb,cell_below h6 hb,cell_below h7 hb,cell_below h8 hb,cell_below h9 hb,cell_below h10 hb,cell_below h11 hb,cell_below h12 hb,cell_below h13 hb,cell_below h14 hb,cell_below h15 hb,cell_below h16 hb,cell_below h17 hb,cell_below h18 hb,cell_below h19 hb⟩
theorem PbC.of_blk {W:World} {g:Nat} {t:TypeId} {x:PbM} (h:Blk W g t x.cs):PbC W g x:=by
 refine ⟨?_,?_,?_,?_,?_,?_,?_,?_,?_,?_,?_,?_,?_,?_,?_,?_,?_,?_,?_,?_⟩ <;> (rw [h.cell]; rfl)
structure RPb (W:World) (x:PbM):Prop where
 buy:RInts W x.buy.A x.buy.l
 sell:RInts W x.sell.A x.sell.l
 solar:RInts W x.solar.A x.solar.l
 demand:RInts W x.demand.A x.demand.l
 outside:RInts W x.outside.A x.outside.l
 low:RInts W x.low.A x.low.l
 high:RInts W x.high.A x.high.l
 loads:RLoads W x.LA x.loads
theorem RPb.below {W W':World} {x:PbM} (h:RPb W x) (hb:Below W.heap.size W W'):RPb W' x :=
 ⟨h.buy.below hb,h.sell.below hb,h.solar.below hb,h.demand.below hb,h.outside.below hb,h.low.below hb,h.high.below hb,h.loads.below hb⟩
structure PbM.Fit (x:PbM):Prop where
 names:∀ y ∈ x.loads,y.r.name.size ≤ maxLen
 profs:∀ y ∈ x.loads,y.r.prof.length ≤ maxLen
 lc:x.loads.length ≤ x.lc
 max:x.buy.l.length ≤ maxLen
 late:∀ y ∈ x.loads, -9223372036854775808 ≤ y.r.late∧y.r.late ≤ 9223372036854775807
structure PnM where
 charge:IntsM
 heat:IntsM
 start:IntsM
def PnM.x (y:PnM):Pn:=⟨y.charge.l,y.heat.l,y.start.l⟩
def PnM.v (y:PnM):Value := .agg #[.slice y.charge.A y.charge.l.length y.charge.c,.slice y.heat.A y.heat.l.length y.heat.c,.slice y.start.A y.start.l.length y.start.c]
structure RPn (W:World) (y:PnM):Prop where
 charge:RInts W y.charge.A y.charge.l
 heat:RInts W y.heat.A y.heat.l
 start:RInts W y.start.A y.start.l
theorem RPn.below {W W':World} {y:PnM} (h:RPn W y) (hb:Below W.heap.size W W'):RPn W' y :=
 ⟨h.charge.below hb,h.heat.below hb,h.start.below hb⟩
structure PnM.Fit (y:PnM):Prop where
 cc:y.charge.l.length ≤ y.charge.c
 sc:y.start.l.length ≤ y.start.c
 ss:∀ s ∈ y.start.l, -9223372036854775808 ≤ s∧s ≤ 9223372036854775807
 ch:∀ s ∈ y.charge.l, -9223372036854775808 ≤ s∧s ≤ 9223372036854775807
end Go.Proofs.YtnppngaabfhkpaaGreat
