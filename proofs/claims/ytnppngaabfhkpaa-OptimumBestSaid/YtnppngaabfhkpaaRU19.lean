/-
  The walks of layer 43 (optimum), part 19: the guards of the laws.
-/
import Derived.Test.YtnppngaabfhkpaaRU15
namespace Go.Proofs.Ytnppngaabfhkpaa
open Go.RowKit
attribute [local go_sem ↓] Go.wp_at_zero Go.wp_at_succ

/-- What a guard hands back. -/
def GuardOut (Q : Prop) (w : World) (e : Ending) (w' : World) : Prop := ∃ g : Bool, e = .returned (.bool g) ∧ (g = false → Q) ∧ Below w.heap.size w w'

set_option maxRecDepth 100000 in
set_option maxHeartbeats 16000000 in
theorem great_any (x : PbM) (s c : Int) (w : World) :
    Calls Try.prog 23 #[x.v, .int .i64 s, .int .i64 c] w (GuardOut ((x.buy.l.length : Int) ≤ s ∧ (x.loads.length : Int) ≤ 2) w) := by
  have hst0 := PB.start x w
  simp only [PbM.v]
  obtain ⟨W, hW⟩ : ∃ W, W = w.alloc (.cells #[.slice x.buy.A x.buy.l.length x.buy.c, .slice x.sell.A x.sell.l.length x.sell.c, .int .i64 x.fuse, .slice x.solar.A x.solar.l.length x.solar.c, .slice x.demand.A x.demand.l.length x.demand.c, .slice x.outside.A x.outside.l.length x.outside.c, .int .i64 x.bat.cap, .int .i64 x.bat.reserve, .int .i64 x.bat.charge, .int .i64 x.bat.discharge, .int .i64 x.bat.eff, .int .i64 x.gain, .int .i64 x.loss, .int .i64 x.steps, .int .i64 x.power, .slice x.low.A x.low.l.length x.low.c, .slice x.high.A x.high.l.length x.high.c, .slice x.LA x.loads.length x.lc, .int .i64 x.level, .int .i64 x.temp] 31) := ⟨_, rfl⟩
  rw [show w.alloc (.cells x.cs 31) = W from hW.symm] at hst0
  have hst := Lib.hid hst0
  have c0 := hst0.p.cell 0
  have c8 := hst0.p.cell 8
  have c9 := hst0.p.cell 9
  have c13 := hst0.p.cell 13
  have c17 := hst0.p.cell 17
  simp [PbM.cs] at c0 c8 c9 c13 c17
  have hWH := Lib.hid hW
  clear hst0 hW
  go_enter Try.func23, Try.ntmps23
  go_upto_region 1 with fail
  rw [← hWH.out]
  clear hWH
  by_cases h0 : s < (x.buy.l.length : Int)
  · go_wp2_with fail
    go_ret
    exact ⟨true, rfl, fun h => (by first | cases h | trivial), hst.out.bel⟩
  · by_cases h1 : (2 : Int) < (x.loads.length : Int)
    · go_wp2_with fail
      go_ret
      exact ⟨true, rfl, fun h => (by first | cases h | trivial), hst.out.bel⟩
    · by_cases h2 : (50 : Int) < x.bat.charge
      · go_wp2_with fail
        go_ret
        exact ⟨true, rfl, fun h => (by first | cases h | trivial), hst.out.bel⟩
      · by_cases h3 : (50 : Int) < x.bat.discharge
        · go_wp2_with fail
          go_ret
          exact ⟨true, rfl, fun h => (by first | cases h | trivial), hst.out.bel⟩
        · by_cases h4 : (50 : Int) < x.steps
          · go_wp2_with fail
            go_ret
            exact ⟨true, rfl, fun h => (by first | cases h | trivial), hst.out.bel⟩
          · go_wp2_with fail
            go_ret
            exact ⟨_, rfl, fun _ => (by first | trivial | exact ⟨by omega, by omega⟩ | omega), hst.out.bel⟩

end Go.Proofs.Ytnppngaabfhkpaa
