/-
  No cell of these rows narrows 'for every input' (looked for: loops, veiled, ifaces, maps, wideKeys, modest, calm, conditions, laid).
  DERIVED. THE GIVEN ROWS OF THIS SEAT. 7 by the template 'for every input the law returns true; each argument reads behind the call as it read before'; 0 by the template 'total and deterministic' (their statements: YtdheockmphdakaaTotals.lean).
  GIVEN WITH THE SEED: the statements are not yours to turn. If you find one false, say at which input.
  Laid BY PROGRAM, IN A SANDBOX (cutbox-rows.mjs): the forced cells as the released guide's own fill.sh prints them over the translation 7e96fb982cc87a09… (all of the seat's roots in one cut). By AI agents, Wed Nov 11 2026. No macro, syntax, notation, axiom, sorry.
-/
import Derived.Test.YtdheockmphdakaaChecked
import GoSem.Claim
import GoSem.ClaimJoined
import GoSem.ClaimMapViews
import Derived.JoinedTies
import Derived.KernelRfl
namespace Go.Proofs.Ytdheockmphdakaa
/- THE CELL 'sum', in the pinned program and in every row, IS THE sha256 OF THE DUMP (.gsa) THAT YtdheockmphdakaaProg.lean LOADS. Nothing in Lean hashes anything: it is a label: what it is worth is what the hold of that sum in a sandbox is worth. -/
noncomputable def Try.pinned : Pinned := { name := "ytdheockmphdakaa", sum := "7e96fb982cc87a09abe34e13e347acd4507620ee42abb588529a739ef59d9a86", checked := Try.checked }
namespace Rows
def none {H : Type} : Left H := { results := [], args := [] }

/-- 'homehublaw42.PlanChecks': WHATEVER THE INPUT: true; the input reads as it did. -/
def planChecksSpec : ChangeSpec := { name := "planChecks", fn := fun _ => fun
  | [d] => { results := [.lit (.bool true)], args := [d] }
  | _ => none }
def planChecksRow : OpenClaim := { program := "ytdheockmphdakaa", sum := "7e96fb982cc87a09abe34e13e347acd4507620ee42abb588529a739ef59d9a86", func := "homehub/homehublaw42.PlanChecks", spec := "planChecks", unfollowed := true, recurses := true, apart := false }
def PlanChecksSaid : Prop := planChecksRow.holds Try.pinned (OpenSpec.ofChange planChecksSpec)

/-- ITS FALSE NEIGHBOUR: 'it returns false'. Refute it at one input. -/
def planChecksWrong : ChangeSpec := { name := "planChecks", fn := fun _ => fun
  | [d] => { results := [.lit (.bool false)], args := [d] }
  | _ => none }
def PlanChecksWrongFalsely : Prop := planChecksRow.holds Try.pinned (OpenSpec.ofChange planChecksWrong)

/-- 'homehublaw42.PlanRuns': WHATEVER THE INPUT: true; the input reads as it did. -/
def planRunsSpec : ChangeSpec := { name := "planRuns", fn := fun _ => fun
  | [d1, d2] => { results := [.lit (.bool true)], args := [d1, d2] }
  | _ => none }
def planRunsRow : OpenClaim := { program := "ytdheockmphdakaa", sum := "7e96fb982cc87a09abe34e13e347acd4507620ee42abb588529a739ef59d9a86", func := "homehub/homehublaw42.PlanRuns", spec := "planRuns", unfollowed := true, recurses := true, apart := false }
def PlanRunsSaid : Prop := planRunsRow.holds Try.pinned (OpenSpec.ofChange planRunsSpec)

/-- ITS FALSE NEIGHBOUR: 'it returns false'. Refute it at one input. -/
def planRunsWrong : ChangeSpec := { name := "planRuns", fn := fun _ => fun
  | [d1, d2] => { results := [.lit (.bool false)], args := [d1, d2] }
  | _ => none }
def PlanRunsWrongFalsely : Prop := planRunsRow.holds Try.pinned (OpenSpec.ofChange planRunsWrong)

/-- 'homehublaw42.PlanIdle': WHATEVER THE INPUT: true; the input reads as it did. -/
def planIdleSpec : ChangeSpec := { name := "planIdle", fn := fun _ => fun
  | [d] => { results := [.lit (.bool true)], args := [d] }
  | _ => none }
def planIdleRow : OpenClaim := { program := "ytdheockmphdakaa", sum := "7e96fb982cc87a09abe34e13e347acd4507620ee42abb588529a739ef59d9a86", func := "homehub/homehublaw42.PlanIdle", spec := "planIdle", unfollowed := true, recurses := true, apart := false }
def PlanIdleSaid : Prop := planIdleRow.holds Try.pinned (OpenSpec.ofChange planIdleSpec)

/-- ITS FALSE NEIGHBOUR: 'it returns false'. Refute it at one input. -/
def planIdleWrong : ChangeSpec := { name := "planIdle", fn := fun _ => fun
  | [d] => { results := [.lit (.bool false)], args := [d] }
  | _ => none }
def PlanIdleWrongFalsely : Prop := planIdleRow.holds Try.pinned (OpenSpec.ofChange planIdleWrong)

/-- 'homehublaw42.PlanBalance': WHATEVER THE INPUT: true; the input reads as it did. -/
def planBalanceSpec : ChangeSpec := { name := "planBalance", fn := fun _ => fun
  | [d1, d2] => { results := [.lit (.bool true)], args := [d1, d2] }
  | _ => none }
def planBalanceRow : OpenClaim := { program := "ytdheockmphdakaa", sum := "7e96fb982cc87a09abe34e13e347acd4507620ee42abb588529a739ef59d9a86", func := "homehub/homehublaw42.PlanBalance", spec := "planBalance", unfollowed := true, recurses := true, apart := false }
def PlanBalanceSaid : Prop := planBalanceRow.holds Try.pinned (OpenSpec.ofChange planBalanceSpec)

/-- ITS FALSE NEIGHBOUR: 'it returns false'. Refute it at one input. -/
def planBalanceWrong : ChangeSpec := { name := "planBalance", fn := fun _ => fun
  | [d1, d2] => { results := [.lit (.bool false)], args := [d1, d2] }
  | _ => none }
def PlanBalanceWrongFalsely : Prop := planBalanceRow.holds Try.pinned (OpenSpec.ofChange planBalanceWrong)

/-- 'homehublaw42.PlanLimits': WHATEVER THE INPUT: true; the input reads as it did. -/
def planLimitsSpec : ChangeSpec := { name := "planLimits", fn := fun _ => fun
  | [d1, d2] => { results := [.lit (.bool true)], args := [d1, d2] }
  | _ => none }
def planLimitsRow : OpenClaim := { program := "ytdheockmphdakaa", sum := "7e96fb982cc87a09abe34e13e347acd4507620ee42abb588529a739ef59d9a86", func := "homehub/homehublaw42.PlanLimits", spec := "planLimits", unfollowed := true, recurses := true, apart := false }
def PlanLimitsSaid : Prop := planLimitsRow.holds Try.pinned (OpenSpec.ofChange planLimitsSpec)

/-- ITS FALSE NEIGHBOUR: 'it returns false'. Refute it at one input. -/
def planLimitsWrong : ChangeSpec := { name := "planLimits", fn := fun _ => fun
  | [d1, d2] => { results := [.lit (.bool false)], args := [d1, d2] }
  | _ => none }
def PlanLimitsWrongFalsely : Prop := planLimitsRow.holds Try.pinned (OpenSpec.ofChange planLimitsWrong)

/-- 'homehublaw42.PlanRests': WHATEVER THE INPUT: true; the input reads as it did. -/
def planRestsSpec : ChangeSpec := { name := "planRests", fn := fun _ => fun
  | [d1, d2, d3] => { results := [.lit (.bool true)], args := [d1, d2, d3] }
  | _ => none }
def planRestsRow : OpenClaim := { program := "ytdheockmphdakaa", sum := "7e96fb982cc87a09abe34e13e347acd4507620ee42abb588529a739ef59d9a86", func := "homehub/homehublaw42.PlanRests", spec := "planRests", unfollowed := true, recurses := true, apart := false }
def PlanRestsSaid : Prop := planRestsRow.holds Try.pinned (OpenSpec.ofChange planRestsSpec)

/-- ITS FALSE NEIGHBOUR: 'it returns false'. Refute it at one input. -/
def planRestsWrong : ChangeSpec := { name := "planRests", fn := fun _ => fun
  | [d1, d2, d3] => { results := [.lit (.bool false)], args := [d1, d2, d3] }
  | _ => none }
def PlanRestsWrongFalsely : Prop := planRestsRow.holds Try.pinned (OpenSpec.ofChange planRestsWrong)

/-- 'homehublaw42.PlanParts': WHATEVER THE INPUT: true; the input reads as it did. -/
def planPartsSpec : ChangeSpec := { name := "planParts", fn := fun _ => fun
  | [d1, d2, d3] => { results := [.lit (.bool true)], args := [d1, d2, d3] }
  | _ => none }
def planPartsRow : OpenClaim := { program := "ytdheockmphdakaa", sum := "7e96fb982cc87a09abe34e13e347acd4507620ee42abb588529a739ef59d9a86", func := "homehub/homehublaw42.PlanParts", spec := "planParts", unfollowed := true, recurses := true, apart := false }
def PlanPartsSaid : Prop := planPartsRow.holds Try.pinned (OpenSpec.ofChange planPartsSpec)

/-- ITS FALSE NEIGHBOUR: 'it returns false'. Refute it at one input. -/
def planPartsWrong : ChangeSpec := { name := "planParts", fn := fun _ => fun
  | [d1, d2, d3] => { results := [.lit (.bool false)], args := [d1, d2, d3] }
  | _ => none }
def PlanPartsWrongFalsely : Prop := planPartsRow.holds Try.pinned (OpenSpec.ofChange planPartsWrong)

/- THE SECOND FORM. 'bulk': how many values and letters a reading holds, each counted each time it is reached (what is shared counts as often as it is met; a slice's spare places count too). A statement '..UptoSaid' is the law's where the arguments, and the package variables that the reading takes, are together of bulk at most 1048576: NARROWER than '..Said'. Prove '..Said' where nothing that the law and all that it calls make is longer than what came in: it says more and counts as full. Else prove '..UptoSaid'. A law counts once. -/
mutual
def uptoBulk {H : Type} : DataW H → Nat
  | .lit (.string bytes) => bytes.length + 1
  | .lit _ => 1
  | .nil => 1
  | .ptr d => uptoBulk d + 1
  | .slice elems spare => uptoBulkAll elems + uptoBulkAll spare + 1
  | .agg parts => uptoBulkAll parts + 1
  | .iface _ d => uptoBulk d + 1
  | .map entries => uptoBulkEntries entries + 1
  | .held _ => 1
def uptoBulkAll {H : Type} : List (DataW H) → Nat
  | [] => 0
  | d :: r => uptoBulk d + uptoBulkAll r
def uptoBulkEntries {H : Type} : List (Lit × DataW H) → Nat
  | [] => 0
  | x :: r => uptoBulkEntry x + uptoBulkEntries r
def uptoBulkEntry {H : Type} : Lit × DataW H → Nat
  | (.string bytes, d) => bytes.length + uptoBulk d + 1
  | (_, d) => uptoBulk d + 1
 end
def uptoSmall : (H : Type) → List (DataW H) → Bool := fun _ ds => decide (uptoBulkAll ds ≤ 1048576)
def OpenSpec.upto (s : _root_.Go.ChangeSpec) : _root_.Go.OpenSpec := { _root_.Go.OpenSpec.ofChange s with cond := some uptoSmall }

/-- 'homehublaw42.PlanChecks', WHERE WHAT IT READS IS OF BULK AT MOST 1048576: true; the input reads as it did. -/
def planChecksUptoRow : OpenClaim := { program := "ytdheockmphdakaa", sum := "7e96fb982cc87a09abe34e13e347acd4507620ee42abb588529a739ef59d9a86", func := "homehub/homehublaw42.PlanChecks", spec := "planChecks", unfollowed := true, recurses := true, apart := false, narrowed := true }
def PlanChecksUptoSaid : Prop := planChecksUptoRow.holds Try.pinned (OpenSpec.upto planChecksSpec)

/-- 'homehublaw42.PlanRuns', WHERE WHAT IT READS IS OF BULK AT MOST 1048576: true; the input reads as it did. -/
def planRunsUptoRow : OpenClaim := { program := "ytdheockmphdakaa", sum := "7e96fb982cc87a09abe34e13e347acd4507620ee42abb588529a739ef59d9a86", func := "homehub/homehublaw42.PlanRuns", spec := "planRuns", unfollowed := true, recurses := true, apart := false, narrowed := true }
def PlanRunsUptoSaid : Prop := planRunsUptoRow.holds Try.pinned (OpenSpec.upto planRunsSpec)

/-- 'homehublaw42.PlanIdle', WHERE WHAT IT READS IS OF BULK AT MOST 1048576: true; the input reads as it did. -/
def planIdleUptoRow : OpenClaim := { program := "ytdheockmphdakaa", sum := "7e96fb982cc87a09abe34e13e347acd4507620ee42abb588529a739ef59d9a86", func := "homehub/homehublaw42.PlanIdle", spec := "planIdle", unfollowed := true, recurses := true, apart := false, narrowed := true }
def PlanIdleUptoSaid : Prop := planIdleUptoRow.holds Try.pinned (OpenSpec.upto planIdleSpec)

/-- 'homehublaw42.PlanBalance', WHERE WHAT IT READS IS OF BULK AT MOST 1048576: true; the input reads as it did. -/
def planBalanceUptoRow : OpenClaim := { program := "ytdheockmphdakaa", sum := "7e96fb982cc87a09abe34e13e347acd4507620ee42abb588529a739ef59d9a86", func := "homehub/homehublaw42.PlanBalance", spec := "planBalance", unfollowed := true, recurses := true, apart := false, narrowed := true }
def PlanBalanceUptoSaid : Prop := planBalanceUptoRow.holds Try.pinned (OpenSpec.upto planBalanceSpec)

/-- 'homehublaw42.PlanLimits', WHERE WHAT IT READS IS OF BULK AT MOST 1048576: true; the input reads as it did. -/
def planLimitsUptoRow : OpenClaim := { program := "ytdheockmphdakaa", sum := "7e96fb982cc87a09abe34e13e347acd4507620ee42abb588529a739ef59d9a86", func := "homehub/homehublaw42.PlanLimits", spec := "planLimits", unfollowed := true, recurses := true, apart := false, narrowed := true }
def PlanLimitsUptoSaid : Prop := planLimitsUptoRow.holds Try.pinned (OpenSpec.upto planLimitsSpec)

/-- 'homehublaw42.PlanRests', WHERE WHAT IT READS IS OF BULK AT MOST 1048576: true; the input reads as it did. -/
def planRestsUptoRow : OpenClaim := { program := "ytdheockmphdakaa", sum := "7e96fb982cc87a09abe34e13e347acd4507620ee42abb588529a739ef59d9a86", func := "homehub/homehublaw42.PlanRests", spec := "planRests", unfollowed := true, recurses := true, apart := false, narrowed := true }
def PlanRestsUptoSaid : Prop := planRestsUptoRow.holds Try.pinned (OpenSpec.upto planRestsSpec)

/-- 'homehublaw42.PlanParts', WHERE WHAT IT READS IS OF BULK AT MOST 1048576: true; the input reads as it did. -/
def planPartsUptoRow : OpenClaim := { program := "ytdheockmphdakaa", sum := "7e96fb982cc87a09abe34e13e347acd4507620ee42abb588529a739ef59d9a86", func := "homehub/homehublaw42.PlanParts", spec := "planParts", unfollowed := true, recurses := true, apart := false, narrowed := true }
def PlanPartsUptoSaid : Prop := planPartsUptoRow.holds Try.pinned (OpenSpec.upto planPartsSpec)

end Rows
end Go.Proofs.Ytdheockmphdakaa
