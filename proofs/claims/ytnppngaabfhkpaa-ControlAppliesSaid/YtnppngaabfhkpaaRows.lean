/-
  No cell of these rows narrows 'for every input' (looked for: loops, veiled, ifaces, maps, wideKeys, modest, calm, conditions, laid).
  DERIVED. THE GIVEN ROWS OF THIS SEAT. 13 by the template 'for every input the law returns true; each argument reads behind the call as it read before'; 0 by the template 'total and deterministic' (their statements: YtnppngaabfhkpaaTotals.lean).
  GIVEN WITH THE SEED: the statements are not yours to turn. If you find one false, say at which input.
  Laid BY PROGRAM, IN A SANDBOX (cutbox-rows.mjs): the forced cells as the released guide's own fill.sh prints them over the translation 157490a299bbaa9a… (all of the seat's roots in one cut). By AI agents, Wed Nov 11 2026. No macro, syntax, notation, axiom, sorry.
-/
import Derived.Test.YtnppngaabfhkpaaChecked
import GoSem.Claim
import GoSem.ClaimJoined
import GoSem.ClaimMapViews
import Derived.JoinedTies
import Derived.KernelRfl
namespace Go.Proofs.Ytnppngaabfhkpaa
/- THE CELL 'sum', in the pinned program and in every row, IS THE sha256 OF THE DUMP (.gsa) THAT YtnppngaabfhkpaaProg.lean LOADS. Nothing in Lean hashes anything: it is a label: what it is worth is what the hold of that sum in a sandbox is worth. -/
noncomputable def Try.pinned : Pinned := { name := "ytnppngaabfhkpaa", sum := "157490a299bbaa9a1e2dac33ba966fa621e655ad7ee804717c490623d6f317e0", checked := Try.checked }
namespace Rows
def none {H : Type} : Left H := { results := [], args := [] }

/-- 'homehubtop.TopFrugal': WHATEVER THE INPUT: true; the input reads as it did. -/
def topFrugalSpec : ChangeSpec := { name := "topFrugal", fn := fun _ => fun
  | [d1, d2] => { results := [.lit (.bool true)], args := [d1, d2] }
  | _ => none }
def topFrugalRow : OpenClaim := { program := "ytnppngaabfhkpaa", sum := "157490a299bbaa9a1e2dac33ba966fa621e655ad7ee804717c490623d6f317e0", func := "homehub/homehubtop.TopFrugal", spec := "topFrugal", unfollowed := true, recurses := true, plainKeys := false, apart := false }
def TopFrugalSaid : Prop := topFrugalRow.holds Try.pinned (OpenSpec.ofChange topFrugalSpec)

/-- ITS FALSE NEIGHBOUR: 'it returns false'. Refute it at one input. -/
def topFrugalWrong : ChangeSpec := { name := "topFrugal", fn := fun _ => fun
  | [d1, d2] => { results := [.lit (.bool false)], args := [d1, d2] }
  | _ => none }
def TopFrugalWrongFalsely : Prop := topFrugalRow.holds Try.pinned (OpenSpec.ofChange topFrugalWrong)

/-- 'homehubtop.TopRolling': WHATEVER THE INPUT: true; the input reads as it did. -/
def topRollingSpec : ChangeSpec := { name := "topRolling", fn := fun _ => fun
  | [d] => { results := [.lit (.bool true)], args := [d] }
  | _ => none }
def topRollingRow : OpenClaim := { program := "ytnppngaabfhkpaa", sum := "157490a299bbaa9a1e2dac33ba966fa621e655ad7ee804717c490623d6f317e0", func := "homehub/homehubtop.TopRolling", spec := "topRolling", unfollowed := true, recurses := true, plainKeys := false, apart := false }
def TopRollingSaid : Prop := topRollingRow.holds Try.pinned (OpenSpec.ofChange topRollingSpec)

/-- ITS FALSE NEIGHBOUR: 'it returns false'. Refute it at one input. -/
def topRollingWrong : ChangeSpec := { name := "topRolling", fn := fun _ => fun
  | [d] => { results := [.lit (.bool false)], args := [d] }
  | _ => none }
def TopRollingWrongFalsely : Prop := topRollingRow.holds Try.pinned (OpenSpec.ofChange topRollingWrong)

/-- 'homehublaw43.OptimumBest': WHATEVER THE INPUT: true; the input reads as it did. -/
def optimumBestSpec : ChangeSpec := { name := "optimumBest", fn := fun _ => fun
  | [d] => { results := [.lit (.bool true)], args := [d] }
  | _ => none }
def optimumBestRow : OpenClaim := { program := "ytnppngaabfhkpaa", sum := "157490a299bbaa9a1e2dac33ba966fa621e655ad7ee804717c490623d6f317e0", func := "homehub/homehublaw43.OptimumBest", spec := "optimumBest", unfollowed := true, recurses := true, plainKeys := false, apart := false }
def OptimumBestSaid : Prop := optimumBestRow.holds Try.pinned (OpenSpec.ofChange optimumBestSpec)

/-- ITS FALSE NEIGHBOUR: 'it returns false'. Refute it at one input. -/
def optimumBestWrong : ChangeSpec := { name := "optimumBest", fn := fun _ => fun
  | [d] => { results := [.lit (.bool false)], args := [d] }
  | _ => none }
def OptimumBestWrongFalsely : Prop := optimumBestRow.holds Try.pinned (OpenSpec.ofChange optimumBestWrong)

/-- 'homehublaw43.OptimumBounds': WHATEVER THE INPUT: true; the input reads as it did. -/
def optimumBoundsSpec : ChangeSpec := { name := "optimumBounds", fn := fun _ => fun
  | [d1, d2] => { results := [.lit (.bool true)], args := [d1, d2] }
  | _ => none }
def optimumBoundsRow : OpenClaim := { program := "ytnppngaabfhkpaa", sum := "157490a299bbaa9a1e2dac33ba966fa621e655ad7ee804717c490623d6f317e0", func := "homehub/homehublaw43.OptimumBounds", spec := "optimumBounds", unfollowed := true, recurses := true, plainKeys := false, apart := false }
def OptimumBoundsSaid : Prop := optimumBoundsRow.holds Try.pinned (OpenSpec.ofChange optimumBoundsSpec)

/-- ITS FALSE NEIGHBOUR: 'it returns false'. Refute it at one input. -/
def optimumBoundsWrong : ChangeSpec := { name := "optimumBounds", fn := fun _ => fun
  | [d1, d2] => { results := [.lit (.bool false)], args := [d1, d2] }
  | _ => none }
def OptimumBoundsWrongFalsely : Prop := optimumBoundsRow.holds Try.pinned (OpenSpec.ofChange optimumBoundsWrong)

/-- 'homehublaw43.OptimumFeasible': WHATEVER THE INPUT: true; the input reads as it did. -/
def optimumFeasibleSpec : ChangeSpec := { name := "optimumFeasible", fn := fun _ => fun
  | [d1, d2] => { results := [.lit (.bool true)], args := [d1, d2] }
  | _ => none }
def optimumFeasibleRow : OpenClaim := { program := "ytnppngaabfhkpaa", sum := "157490a299bbaa9a1e2dac33ba966fa621e655ad7ee804717c490623d6f317e0", func := "homehub/homehublaw43.OptimumFeasible", spec := "optimumFeasible", unfollowed := true, recurses := true, plainKeys := false, apart := false }
def OptimumFeasibleSaid : Prop := optimumFeasibleRow.holds Try.pinned (OpenSpec.ofChange optimumFeasibleSpec)

/-- ITS FALSE NEIGHBOUR: 'it returns false'. Refute it at one input. -/
def optimumFeasibleWrong : ChangeSpec := { name := "optimumFeasible", fn := fun _ => fun
  | [d1, d2] => { results := [.lit (.bool false)], args := [d1, d2] }
  | _ => none }
def OptimumFeasibleWrongFalsely : Prop := optimumFeasibleRow.holds Try.pinned (OpenSpec.ofChange optimumFeasibleWrong)

/-- 'homehublaw43.OptimumFuse': WHATEVER THE INPUT: true; the input reads as it did. -/
def optimumFuseSpec : ChangeSpec := { name := "optimumFuse", fn := fun _ => fun
  | [d1, d2] => { results := [.lit (.bool true)], args := [d1, d2] }
  | _ => none }
def optimumFuseRow : OpenClaim := { program := "ytnppngaabfhkpaa", sum := "157490a299bbaa9a1e2dac33ba966fa621e655ad7ee804717c490623d6f317e0", func := "homehub/homehublaw43.OptimumFuse", spec := "optimumFuse", unfollowed := true, recurses := true, plainKeys := false, apart := false }
def OptimumFuseSaid : Prop := optimumFuseRow.holds Try.pinned (OpenSpec.ofChange optimumFuseSpec)

/-- ITS FALSE NEIGHBOUR: 'it returns false'. Refute it at one input. -/
def optimumFuseWrong : ChangeSpec := { name := "optimumFuse", fn := fun _ => fun
  | [d1, d2] => { results := [.lit (.bool false)], args := [d1, d2] }
  | _ => none }
def OptimumFuseWrongFalsely : Prop := optimumFuseRow.holds Try.pinned (OpenSpec.ofChange optimumFuseWrong)

/-- 'homehublaw43.OptimumBetter': WHATEVER THE INPUT: true; the input reads as it did. -/
def optimumBetterSpec : ChangeSpec := { name := "optimumBetter", fn := fun _ => fun
  | [d1, d2, d3] => { results := [.lit (.bool true)], args := [d1, d2, d3] }
  | _ => none }
def optimumBetterRow : OpenClaim := { program := "ytnppngaabfhkpaa", sum := "157490a299bbaa9a1e2dac33ba966fa621e655ad7ee804717c490623d6f317e0", func := "homehub/homehublaw43.OptimumBetter", spec := "optimumBetter", unfollowed := true, recurses := true, plainKeys := false, apart := false }
def OptimumBetterSaid : Prop := optimumBetterRow.holds Try.pinned (OpenSpec.ofChange optimumBetterSpec)

/-- ITS FALSE NEIGHBOUR: 'it returns false'. Refute it at one input. -/
def optimumBetterWrong : ChangeSpec := { name := "optimumBetter", fn := fun _ => fun
  | [d1, d2, d3] => { results := [.lit (.bool false)], args := [d1, d2, d3] }
  | _ => none }
def OptimumBetterWrongFalsely : Prop := optimumBetterRow.holds Try.pinned (OpenSpec.ofChange optimumBetterWrong)

/-- 'homehublaw43.OptimumStrict': WHATEVER THE INPUT: true; the input reads as it did. -/
def optimumStrictSpec : ChangeSpec := { name := "optimumStrict", fn := fun _ => fun
  | [d1, d2, d3] => { results := [.lit (.bool true)], args := [d1, d2, d3] }
  | _ => none }
def optimumStrictRow : OpenClaim := { program := "ytnppngaabfhkpaa", sum := "157490a299bbaa9a1e2dac33ba966fa621e655ad7ee804717c490623d6f317e0", func := "homehub/homehublaw43.OptimumStrict", spec := "optimumStrict", unfollowed := true, recurses := true, plainKeys := false, apart := false }
def OptimumStrictSaid : Prop := optimumStrictRow.holds Try.pinned (OpenSpec.ofChange optimumStrictSpec)

/-- ITS FALSE NEIGHBOUR: 'it returns false'. Refute it at one input. -/
def optimumStrictWrong : ChangeSpec := { name := "optimumStrict", fn := fun _ => fun
  | [d1, d2, d3] => { results := [.lit (.bool false)], args := [d1, d2, d3] }
  | _ => none }
def OptimumStrictWrongFalsely : Prop := optimumStrictRow.holds Try.pinned (OpenSpec.ofChange optimumStrictWrong)

/-- 'homehublaw44.ControlApplies': WHATEVER THE INPUT: true; the input reads as it did. -/
def controlAppliesSpec : ChangeSpec := { name := "controlApplies", fn := fun _ => fun
  | [d1, d2] => { results := [.lit (.bool true)], args := [d1, d2] }
  | _ => none }
def controlAppliesRow : OpenClaim := { program := "ytnppngaabfhkpaa", sum := "157490a299bbaa9a1e2dac33ba966fa621e655ad7ee804717c490623d6f317e0", func := "homehub/homehublaw44.ControlApplies", spec := "controlApplies", unfollowed := true, recurses := true, plainKeys := false, apart := false }
def ControlAppliesSaid : Prop := controlAppliesRow.holds Try.pinned (OpenSpec.ofChange controlAppliesSpec)

/-- ITS FALSE NEIGHBOUR: 'it returns false'. Refute it at one input. -/
def controlAppliesWrong : ChangeSpec := { name := "controlApplies", fn := fun _ => fun
  | [d1, d2] => { results := [.lit (.bool false)], args := [d1, d2] }
  | _ => none }
def ControlAppliesWrongFalsely : Prop := controlAppliesRow.holds Try.pinned (OpenSpec.ofChange controlAppliesWrong)

/-- 'homehublaw44.ControlLimits': WHATEVER THE INPUT: true; the input reads as it did. -/
def controlLimitsSpec : ChangeSpec := { name := "controlLimits", fn := fun _ => fun
  | [d] => { results := [.lit (.bool true)], args := [d] }
  | _ => none }
def controlLimitsRow : OpenClaim := { program := "ytnppngaabfhkpaa", sum := "157490a299bbaa9a1e2dac33ba966fa621e655ad7ee804717c490623d6f317e0", func := "homehub/homehublaw44.ControlLimits", spec := "controlLimits", unfollowed := true, recurses := true, plainKeys := false, apart := false }
def ControlLimitsSaid : Prop := controlLimitsRow.holds Try.pinned (OpenSpec.ofChange controlLimitsSpec)

/-- ITS FALSE NEIGHBOUR: 'it returns false'. Refute it at one input. -/
def controlLimitsWrong : ChangeSpec := { name := "controlLimits", fn := fun _ => fun
  | [d] => { results := [.lit (.bool false)], args := [d] }
  | _ => none }
def ControlLimitsWrongFalsely : Prop := controlLimitsRow.holds Try.pinned (OpenSpec.ofChange controlLimitsWrong)

/-- 'homehublaw44.ControlHolds': WHATEVER THE INPUT: true; the input reads as it did. -/
def controlHoldsSpec : ChangeSpec := { name := "controlHolds", fn := fun _ => fun
  | [d] => { results := [.lit (.bool true)], args := [d] }
  | _ => none }
def controlHoldsRow : OpenClaim := { program := "ytnppngaabfhkpaa", sum := "157490a299bbaa9a1e2dac33ba966fa621e655ad7ee804717c490623d6f317e0", func := "homehub/homehublaw44.ControlHolds", spec := "controlHolds", unfollowed := true, recurses := true, plainKeys := false, apart := false }
def ControlHoldsSaid : Prop := controlHoldsRow.holds Try.pinned (OpenSpec.ofChange controlHoldsSpec)

/-- ITS FALSE NEIGHBOUR: 'it returns false'. Refute it at one input. -/
def controlHoldsWrong : ChangeSpec := { name := "controlHolds", fn := fun _ => fun
  | [d] => { results := [.lit (.bool false)], args := [d] }
  | _ => none }
def ControlHoldsWrongFalsely : Prop := controlHoldsRow.holds Try.pinned (OpenSpec.ofChange controlHoldsWrong)

/-- 'homehublaw44.ControlEnds': WHATEVER THE INPUT: true; the input reads as it did. -/
def controlEndsSpec : ChangeSpec := { name := "controlEnds", fn := fun _ => fun
  | [d] => { results := [.lit (.bool true)], args := [d] }
  | _ => none }
def controlEndsRow : OpenClaim := { program := "ytnppngaabfhkpaa", sum := "157490a299bbaa9a1e2dac33ba966fa621e655ad7ee804717c490623d6f317e0", func := "homehub/homehublaw44.ControlEnds", spec := "controlEnds", unfollowed := true, recurses := true, plainKeys := false, apart := false }
def ControlEndsSaid : Prop := controlEndsRow.holds Try.pinned (OpenSpec.ofChange controlEndsSpec)

/-- ITS FALSE NEIGHBOUR: 'it returns false'. Refute it at one input. -/
def controlEndsWrong : ChangeSpec := { name := "controlEnds", fn := fun _ => fun
  | [d] => { results := [.lit (.bool false)], args := [d] }
  | _ => none }
def ControlEndsWrongFalsely : Prop := controlEndsRow.holds Try.pinned (OpenSpec.ofChange controlEndsWrong)

/-- 'homehublaw44.ControlOptimal': WHATEVER THE INPUT: true; the input reads as it did. -/
def controlOptimalSpec : ChangeSpec := { name := "controlOptimal", fn := fun _ => fun
  | [d] => { results := [.lit (.bool true)], args := [d] }
  | _ => none }
def controlOptimalRow : OpenClaim := { program := "ytnppngaabfhkpaa", sum := "157490a299bbaa9a1e2dac33ba966fa621e655ad7ee804717c490623d6f317e0", func := "homehub/homehublaw44.ControlOptimal", spec := "controlOptimal", unfollowed := true, recurses := true, plainKeys := false, apart := false }
def ControlOptimalSaid : Prop := controlOptimalRow.holds Try.pinned (OpenSpec.ofChange controlOptimalSpec)

/-- ITS FALSE NEIGHBOUR: 'it returns false'. Refute it at one input. -/
def controlOptimalWrong : ChangeSpec := { name := "controlOptimal", fn := fun _ => fun
  | [d] => { results := [.lit (.bool false)], args := [d] }
  | _ => none }
def ControlOptimalWrongFalsely : Prop := controlOptimalRow.holds Try.pinned (OpenSpec.ofChange controlOptimalWrong)

/- THE SECOND FORM. 'bulk': how many values and letters a reading holds, each counted each time it is reached (what is shared counts as often as it is met; a slice's spare places count too). A statement '..UptoSaid' is the law's where the arguments, and the package variables that the reading takes, are together of bulk at most 1048576: NARROWER than '..Said'. Prove '..Said' where nothing that the law and all that it calls make is longer than what came in: it says more and counts as full. Else prove '..UptoSaid'. A law counts once. -/
mutual
def uptoBulk {H : Type} : DataW H → Nat
  | .lit (.string bytes) => bytes.length + 1
  | .lit _ => 1
  | .nil => 1
  | .ptr d => uptoBulk d + 1
  | .slice elems spare => uptoBulkAll elems + uptoBulkAll spare + 1
  | .agg parts => uptoBulkAll parts + 1
  | .iface _ d => uptoBulk d + 1
  | .map entries => uptoBulkEntries entries + 1
  | .held _ => 1
def uptoBulkAll {H : Type} : List (DataW H) → Nat
  | [] => 0
  | d :: r => uptoBulk d + uptoBulkAll r
def uptoBulkEntries {H : Type} : List (Lit × DataW H) → Nat
  | [] => 0
  | x :: r => uptoBulkEntry x + uptoBulkEntries r
def uptoBulkEntry {H : Type} : Lit × DataW H → Nat
  | (.string bytes, d) => bytes.length + uptoBulk d + 1
  | (_, d) => uptoBulk d + 1
 end
def uptoSmall : (H : Type) → List (DataW H) → Bool := fun _ ds => decide (uptoBulkAll ds ≤ 1048576)
def OpenSpec.upto (s : _root_.Go.ChangeSpec) : _root_.Go.OpenSpec := { _root_.Go.OpenSpec.ofChange s with cond := some uptoSmall }

/-- 'homehubtop.TopFrugal', WHERE WHAT IT READS IS OF BULK AT MOST 1048576: true; the input reads as it did. -/
def topFrugalUptoRow : OpenClaim := { program := "ytnppngaabfhkpaa", sum := "157490a299bbaa9a1e2dac33ba966fa621e655ad7ee804717c490623d6f317e0", func := "homehub/homehubtop.TopFrugal", spec := "topFrugal", unfollowed := true, recurses := true, plainKeys := false, apart := false, narrowed := true }
def TopFrugalUptoSaid : Prop := topFrugalUptoRow.holds Try.pinned (OpenSpec.upto topFrugalSpec)

/-- 'homehubtop.TopRolling', WHERE WHAT IT READS IS OF BULK AT MOST 1048576: true; the input reads as it did. -/
def topRollingUptoRow : OpenClaim := { program := "ytnppngaabfhkpaa", sum := "157490a299bbaa9a1e2dac33ba966fa621e655ad7ee804717c490623d6f317e0", func := "homehub/homehubtop.TopRolling", spec := "topRolling", unfollowed := true, recurses := true, plainKeys := false, apart := false, narrowed := true }
def TopRollingUptoSaid : Prop := topRollingUptoRow.holds Try.pinned (OpenSpec.upto topRollingSpec)

/-- 'homehublaw43.OptimumBest', WHERE WHAT IT READS IS OF BULK AT MOST 1048576: true; the input reads as it did. -/
def optimumBestUptoRow : OpenClaim := { program := "ytnppngaabfhkpaa", sum := "157490a299bbaa9a1e2dac33ba966fa621e655ad7ee804717c490623d6f317e0", func := "homehub/homehublaw43.OptimumBest", spec := "optimumBest", unfollowed := true, recurses := true, plainKeys := false, apart := false, narrowed := true }
def OptimumBestUptoSaid : Prop := optimumBestUptoRow.holds Try.pinned (OpenSpec.upto optimumBestSpec)

/-- 'homehublaw43.OptimumBounds', WHERE WHAT IT READS IS OF BULK AT MOST 1048576: true; the input reads as it did. -/
def optimumBoundsUptoRow : OpenClaim := { program := "ytnppngaabfhkpaa", sum := "157490a299bbaa9a1e2dac33ba966fa621e655ad7ee804717c490623d6f317e0", func := "homehub/homehublaw43.OptimumBounds", spec := "optimumBounds", unfollowed := true, recurses := true, plainKeys := false, apart := false, narrowed := true }
def OptimumBoundsUptoSaid : Prop := optimumBoundsUptoRow.holds Try.pinned (OpenSpec.upto optimumBoundsSpec)

/-- 'homehublaw43.OptimumFeasible', WHERE WHAT IT READS IS OF BULK AT MOST 1048576: true; the input reads as it did. -/
def optimumFeasibleUptoRow : OpenClaim := { program := "ytnppngaabfhkpaa", sum := "157490a299bbaa9a1e2dac33ba966fa621e655ad7ee804717c490623d6f317e0", func := "homehub/homehublaw43.OptimumFeasible", spec := "optimumFeasible", unfollowed := true, recurses := true, plainKeys := false, apart := false, narrowed := true }
def OptimumFeasibleUptoSaid : Prop := optimumFeasibleUptoRow.holds Try.pinned (OpenSpec.upto optimumFeasibleSpec)

/-- 'homehublaw43.OptimumFuse', WHERE WHAT IT READS IS OF BULK AT MOST 1048576: true; the input reads as it did. -/
def optimumFuseUptoRow : OpenClaim := { program := "ytnppngaabfhkpaa", sum := "157490a299bbaa9a1e2dac33ba966fa621e655ad7ee804717c490623d6f317e0", func := "homehub/homehublaw43.OptimumFuse", spec := "optimumFuse", unfollowed := true, recurses := true, plainKeys := false, apart := false, narrowed := true }
def OptimumFuseUptoSaid : Prop := optimumFuseUptoRow.holds Try.pinned (OpenSpec.upto optimumFuseSpec)

/-- 'homehublaw43.OptimumBetter', WHERE WHAT IT READS IS OF BULK AT MOST 1048576: true; the input reads as it did. -/
def optimumBetterUptoRow : OpenClaim := { program := "ytnppngaabfhkpaa", sum := "157490a299bbaa9a1e2dac33ba966fa621e655ad7ee804717c490623d6f317e0", func := "homehub/homehublaw43.OptimumBetter", spec := "optimumBetter", unfollowed := true, recurses := true, plainKeys := false, apart := false, narrowed := true }
def OptimumBetterUptoSaid : Prop := optimumBetterUptoRow.holds Try.pinned (OpenSpec.upto optimumBetterSpec)

/-- 'homehublaw43.OptimumStrict', WHERE WHAT IT READS IS OF BULK AT MOST 1048576: true; the input reads as it did. -/
def optimumStrictUptoRow : OpenClaim := { program := "ytnppngaabfhkpaa", sum := "157490a299bbaa9a1e2dac33ba966fa621e655ad7ee804717c490623d6f317e0", func := "homehub/homehublaw43.OptimumStrict", spec := "optimumStrict", unfollowed := true, recurses := true, plainKeys := false, apart := false, narrowed := true }
def OptimumStrictUptoSaid : Prop := optimumStrictUptoRow.holds Try.pinned (OpenSpec.upto optimumStrictSpec)

/-- 'homehublaw44.ControlApplies', WHERE WHAT IT READS IS OF BULK AT MOST 1048576: true; the input reads as it did. -/
def controlAppliesUptoRow : OpenClaim := { program := "ytnppngaabfhkpaa", sum := "157490a299bbaa9a1e2dac33ba966fa621e655ad7ee804717c490623d6f317e0", func := "homehub/homehublaw44.ControlApplies", spec := "controlApplies", unfollowed := true, recurses := true, plainKeys := false, apart := false, narrowed := true }
def ControlAppliesUptoSaid : Prop := controlAppliesUptoRow.holds Try.pinned (OpenSpec.upto controlAppliesSpec)

/-- 'homehublaw44.ControlLimits', WHERE WHAT IT READS IS OF BULK AT MOST 1048576: true; the input reads as it did. -/
def controlLimitsUptoRow : OpenClaim := { program := "ytnppngaabfhkpaa", sum := "157490a299bbaa9a1e2dac33ba966fa621e655ad7ee804717c490623d6f317e0", func := "homehub/homehublaw44.ControlLimits", spec := "controlLimits", unfollowed := true, recurses := true, plainKeys := false, apart := false, narrowed := true }
def ControlLimitsUptoSaid : Prop := controlLimitsUptoRow.holds Try.pinned (OpenSpec.upto controlLimitsSpec)

/-- 'homehublaw44.ControlHolds', WHERE WHAT IT READS IS OF BULK AT MOST 1048576: true; the input reads as it did. -/
def controlHoldsUptoRow : OpenClaim := { program := "ytnppngaabfhkpaa", sum := "157490a299bbaa9a1e2dac33ba966fa621e655ad7ee804717c490623d6f317e0", func := "homehub/homehublaw44.ControlHolds", spec := "controlHolds", unfollowed := true, recurses := true, plainKeys := false, apart := false, narrowed := true }
def ControlHoldsUptoSaid : Prop := controlHoldsUptoRow.holds Try.pinned (OpenSpec.upto controlHoldsSpec)

/-- 'homehublaw44.ControlEnds', WHERE WHAT IT READS IS OF BULK AT MOST 1048576: true; the input reads as it did. -/
def controlEndsUptoRow : OpenClaim := { program := "ytnppngaabfhkpaa", sum := "157490a299bbaa9a1e2dac33ba966fa621e655ad7ee804717c490623d6f317e0", func := "homehub/homehublaw44.ControlEnds", spec := "controlEnds", unfollowed := true, recurses := true, plainKeys := false, apart := false, narrowed := true }
def ControlEndsUptoSaid : Prop := controlEndsUptoRow.holds Try.pinned (OpenSpec.upto controlEndsSpec)

/-- 'homehublaw44.ControlOptimal', WHERE WHAT IT READS IS OF BULK AT MOST 1048576: true; the input reads as it did. -/
def controlOptimalUptoRow : OpenClaim := { program := "ytnppngaabfhkpaa", sum := "157490a299bbaa9a1e2dac33ba966fa621e655ad7ee804717c490623d6f317e0", func := "homehub/homehublaw44.ControlOptimal", spec := "controlOptimal", unfollowed := true, recurses := true, plainKeys := false, apart := false, narrowed := true }
def ControlOptimalUptoSaid : Prop := controlOptimalUptoRow.holds Try.pinned (OpenSpec.upto controlOptimalSpec)

end Rows
end Go.Proofs.Ytnppngaabfhkpaa
