/-
  No cell of these rows narrows 'for every input' (looked for: loops, veiled, ifaces, maps, wideKeys, modest, calm, conditions, laid).
  DERIVED. THE GIVEN ROWS OF THIS SEAT. 6 by the template 'for every input the law returns true; each argument reads behind the call as it read before'; 0 by the template 'total and deterministic' (their statements: YthoknhbjeddcjaaTotals.lean).
  GIVEN WITH THE SEED: the statements are not yours to turn. If you find one false, say at which input.
  Laid BY PROGRAM, IN A SANDBOX (cutbox-rows.mjs): the forced cells as the released guide's own fill.sh prints them over the translation 95e7a409fdf8ac05… (all of the seat's roots in one cut). By AI agents, Wed Nov 11 2026. No macro, syntax, notation, axiom, sorry.
-/
import Derived.Test.YthoknhbjeddcjaaChecked
import GoSem.Claim
import GoSem.ClaimJoined
import GoSem.ClaimMapViews
import Derived.JoinedTies
import Derived.KernelRfl
namespace Go.Proofs.Ythoknhbjeddcjaa
/- THE CELL 'sum', in the pinned program and in every row, IS THE sha256 OF THE DUMP (.gsa) THAT YthoknhbjeddcjaaProg.lean LOADS. Nothing in Lean hashes anything: it is a label: what it is worth is what the hold of that sum in a sandbox is worth. -/
noncomputable def Try.pinned : Pinned := { name := "ythoknhbjeddcjaa", sum := "95e7a409fdf8ac05e94aad2c0d54cdafada5ba7b2f6c74807f568b02b6a4d78e", checked := Try.checked }
namespace Rows
def none {H : Type} : Left H := { results := [], args := [] }

/-- 'homehublaw39.BatterySteps': WHATEVER THE INPUT: true; the input reads as it did. -/
def batteryStepsSpec : ChangeSpec := { name := "batterySteps", fn := fun _ => fun
  | [d1, d2, d3] => { results := [.lit (.bool true)], args := [d1, d2, d3] }
  | _ => none }
def batteryStepsRow : OpenClaim := { program := "ythoknhbjeddcjaa", sum := "95e7a409fdf8ac05e94aad2c0d54cdafada5ba7b2f6c74807f568b02b6a4d78e", func := "homehub/homehublaw39.BatterySteps", spec := "batterySteps", unfollowed := true, recurses := true, apart := false }
def BatteryStepsSaid : Prop := batteryStepsRow.holds Try.pinned (OpenSpec.ofChange batteryStepsSpec)

/-- ITS FALSE NEIGHBOUR: 'it returns false'. Refute it at one input. -/
def batteryStepsWrong : ChangeSpec := { name := "batterySteps", fn := fun _ => fun
  | [d1, d2, d3] => { results := [.lit (.bool false)], args := [d1, d2, d3] }
  | _ => none }
def BatteryStepsWrongFalsely : Prop := batteryStepsRow.holds Try.pinned (OpenSpec.ofChange batteryStepsWrong)

/-- 'homehublaw39.BatteryChoices': WHATEVER THE INPUT: true; the input reads as it did. -/
def batteryChoicesSpec : ChangeSpec := { name := "batteryChoices", fn := fun _ => fun
  | [d1, d2, d3, d4] => { results := [.lit (.bool true)], args := [d1, d2, d3, d4] }
  | _ => none }
def batteryChoicesRow : OpenClaim := { program := "ythoknhbjeddcjaa", sum := "95e7a409fdf8ac05e94aad2c0d54cdafada5ba7b2f6c74807f568b02b6a4d78e", func := "homehub/homehublaw39.BatteryChoices", spec := "batteryChoices", unfollowed := true, recurses := true, apart := false }
def BatteryChoicesSaid : Prop := batteryChoicesRow.holds Try.pinned (OpenSpec.ofChange batteryChoicesSpec)

/-- ITS FALSE NEIGHBOUR: 'it returns false'. Refute it at one input. -/
def batteryChoicesWrong : ChangeSpec := { name := "batteryChoices", fn := fun _ => fun
  | [d1, d2, d3, d4] => { results := [.lit (.bool false)], args := [d1, d2, d3, d4] }
  | _ => none }
def BatteryChoicesWrongFalsely : Prop := batteryChoicesRow.holds Try.pinned (OpenSpec.ofChange batteryChoicesWrong)

/-- 'homehublaw39.BatteryLimits': WHATEVER THE INPUT: true; the input reads as it did. -/
def batteryLimitsSpec : ChangeSpec := { name := "batteryLimits", fn := fun _ => fun
  | [d1, d2, d3] => { results := [.lit (.bool true)], args := [d1, d2, d3] }
  | _ => none }
def batteryLimitsRow : OpenClaim := { program := "ythoknhbjeddcjaa", sum := "95e7a409fdf8ac05e94aad2c0d54cdafada5ba7b2f6c74807f568b02b6a4d78e", func := "homehub/homehublaw39.BatteryLimits", spec := "batteryLimits", unfollowed := true, recurses := true, apart := false }
def BatteryLimitsSaid : Prop := batteryLimitsRow.holds Try.pinned (OpenSpec.ofChange batteryLimitsSpec)

/-- ITS FALSE NEIGHBOUR: 'it returns false'. Refute it at one input. -/
def batteryLimitsWrong : ChangeSpec := { name := "batteryLimits", fn := fun _ => fun
  | [d1, d2, d3] => { results := [.lit (.bool false)], args := [d1, d2, d3] }
  | _ => none }
def BatteryLimitsWrongFalsely : Prop := batteryLimitsRow.holds Try.pinned (OpenSpec.ofChange batteryLimitsWrong)

/-- 'homehublaw39.BatteryEnergy': WHATEVER THE INPUT: true; the input reads as it did. -/
def batteryEnergySpec : ChangeSpec := { name := "batteryEnergy", fn := fun _ => fun
  | [d1, d2, d3] => { results := [.lit (.bool true)], args := [d1, d2, d3] }
  | _ => none }
def batteryEnergyRow : OpenClaim := { program := "ythoknhbjeddcjaa", sum := "95e7a409fdf8ac05e94aad2c0d54cdafada5ba7b2f6c74807f568b02b6a4d78e", func := "homehub/homehublaw39.BatteryEnergy", spec := "batteryEnergy", unfollowed := true, recurses := true, apart := false }
def BatteryEnergySaid : Prop := batteryEnergyRow.holds Try.pinned (OpenSpec.ofChange batteryEnergySpec)

/-- ITS FALSE NEIGHBOUR: 'it returns false'. Refute it at one input. -/
def batteryEnergyWrong : ChangeSpec := { name := "batteryEnergy", fn := fun _ => fun
  | [d1, d2, d3] => { results := [.lit (.bool false)], args := [d1, d2, d3] }
  | _ => none }
def BatteryEnergyWrongFalsely : Prop := batteryEnergyRow.holds Try.pinned (OpenSpec.ofChange batteryEnergyWrong)

/-- 'homehublaw39.BatterySets': WHATEVER THE INPUT: true; the input reads as it did. -/
def batterySetsSpec : ChangeSpec := { name := "batterySets", fn := fun _ => fun
  | [d1, d2, d3, d4] => { results := [.lit (.bool true)], args := [d1, d2, d3, d4] }
  | _ => none }
def batterySetsRow : OpenClaim := { program := "ythoknhbjeddcjaa", sum := "95e7a409fdf8ac05e94aad2c0d54cdafada5ba7b2f6c74807f568b02b6a4d78e", func := "homehub/homehublaw39.BatterySets", spec := "batterySets", unfollowed := true, recurses := true, apart := false }
def BatterySetsSaid : Prop := batterySetsRow.holds Try.pinned (OpenSpec.ofChange batterySetsSpec)

/-- ITS FALSE NEIGHBOUR: 'it returns false'. Refute it at one input. -/
def batterySetsWrong : ChangeSpec := { name := "batterySets", fn := fun _ => fun
  | [d1, d2, d3, d4] => { results := [.lit (.bool false)], args := [d1, d2, d3, d4] }
  | _ => none }
def BatterySetsWrongFalsely : Prop := batterySetsRow.holds Try.pinned (OpenSpec.ofChange batterySetsWrong)

/-- 'homehublaw39.BatteryRounds': WHATEVER THE INPUT: true; the input reads as it did. -/
def batteryRoundsSpec : ChangeSpec := { name := "batteryRounds", fn := fun _ => fun
  | [d1, d2, d3] => { results := [.lit (.bool true)], args := [d1, d2, d3] }
  | _ => none }
def batteryRoundsRow : OpenClaim := { program := "ythoknhbjeddcjaa", sum := "95e7a409fdf8ac05e94aad2c0d54cdafada5ba7b2f6c74807f568b02b6a4d78e", func := "homehub/homehublaw39.BatteryRounds", spec := "batteryRounds", unfollowed := true, recurses := true, apart := false }
def BatteryRoundsSaid : Prop := batteryRoundsRow.holds Try.pinned (OpenSpec.ofChange batteryRoundsSpec)

/-- ITS FALSE NEIGHBOUR: 'it returns false'. Refute it at one input. -/
def batteryRoundsWrong : ChangeSpec := { name := "batteryRounds", fn := fun _ => fun
  | [d1, d2, d3] => { results := [.lit (.bool false)], args := [d1, d2, d3] }
  | _ => none }
def BatteryRoundsWrongFalsely : Prop := batteryRoundsRow.holds Try.pinned (OpenSpec.ofChange batteryRoundsWrong)

/- THE SECOND FORM. 'bulk': how many values and letters a reading holds, each counted each time it is reached (what is shared counts as often as it is met; a slice's spare places count too). A statement '..UptoSaid' is the law's where the arguments, and the package variables that the reading takes, are together of bulk at most 1048576: NARROWER than '..Said'. Prove '..Said' where nothing that the law and all that it calls make is longer than what came in: it says more and counts as full. Else prove '..UptoSaid'. A law counts once. -/
mutual
def uptoBulk {H : Type} : DataW H → Nat
  | .lit (.string bytes) => bytes.length + 1
  | .lit _ => 1
  | .nil => 1
  | .ptr d => uptoBulk d + 1
  | .slice elems spare => uptoBulkAll elems + uptoBulkAll spare + 1
  | .agg parts => uptoBulkAll parts + 1
  | .iface _ d => uptoBulk d + 1
  | .map entries => uptoBulkEntries entries + 1
  | .held _ => 1
def uptoBulkAll {H : Type} : List (DataW H) → Nat
  | [] => 0
  | d :: r => uptoBulk d + uptoBulkAll r
def uptoBulkEntries {H : Type} : List (Lit × DataW H) → Nat
  | [] => 0
  | x :: r => uptoBulkEntry x + uptoBulkEntries r
def uptoBulkEntry {H : Type} : Lit × DataW H → Nat
  | (.string bytes, d) => bytes.length + uptoBulk d + 1
  | (_, d) => uptoBulk d + 1
 end
def uptoSmall : (H : Type) → List (DataW H) → Bool := fun _ ds => decide (uptoBulkAll ds ≤ 1048576)
def OpenSpec.upto (s : _root_.Go.ChangeSpec) : _root_.Go.OpenSpec := { _root_.Go.OpenSpec.ofChange s with cond := some uptoSmall }

/-- 'homehublaw39.BatterySteps', WHERE WHAT IT READS IS OF BULK AT MOST 1048576: true; the input reads as it did. -/
def batteryStepsUptoRow : OpenClaim := { program := "ythoknhbjeddcjaa", sum := "95e7a409fdf8ac05e94aad2c0d54cdafada5ba7b2f6c74807f568b02b6a4d78e", func := "homehub/homehublaw39.BatterySteps", spec := "batterySteps", unfollowed := true, recurses := true, apart := false, narrowed := true }
def BatteryStepsUptoSaid : Prop := batteryStepsUptoRow.holds Try.pinned (OpenSpec.upto batteryStepsSpec)

/-- 'homehublaw39.BatteryChoices', WHERE WHAT IT READS IS OF BULK AT MOST 1048576: true; the input reads as it did. -/
def batteryChoicesUptoRow : OpenClaim := { program := "ythoknhbjeddcjaa", sum := "95e7a409fdf8ac05e94aad2c0d54cdafada5ba7b2f6c74807f568b02b6a4d78e", func := "homehub/homehublaw39.BatteryChoices", spec := "batteryChoices", unfollowed := true, recurses := true, apart := false, narrowed := true }
def BatteryChoicesUptoSaid : Prop := batteryChoicesUptoRow.holds Try.pinned (OpenSpec.upto batteryChoicesSpec)

/-- 'homehublaw39.BatteryLimits', WHERE WHAT IT READS IS OF BULK AT MOST 1048576: true; the input reads as it did. -/
def batteryLimitsUptoRow : OpenClaim := { program := "ythoknhbjeddcjaa", sum := "95e7a409fdf8ac05e94aad2c0d54cdafada5ba7b2f6c74807f568b02b6a4d78e", func := "homehub/homehublaw39.BatteryLimits", spec := "batteryLimits", unfollowed := true, recurses := true, apart := false, narrowed := true }
def BatteryLimitsUptoSaid : Prop := batteryLimitsUptoRow.holds Try.pinned (OpenSpec.upto batteryLimitsSpec)

/-- 'homehublaw39.BatteryEnergy', WHERE WHAT IT READS IS OF BULK AT MOST 1048576: true; the input reads as it did. -/
def batteryEnergyUptoRow : OpenClaim := { program := "ythoknhbjeddcjaa", sum := "95e7a409fdf8ac05e94aad2c0d54cdafada5ba7b2f6c74807f568b02b6a4d78e", func := "homehub/homehublaw39.BatteryEnergy", spec := "batteryEnergy", unfollowed := true, recurses := true, apart := false, narrowed := true }
def BatteryEnergyUptoSaid : Prop := batteryEnergyUptoRow.holds Try.pinned (OpenSpec.upto batteryEnergySpec)

/-- 'homehublaw39.BatterySets', WHERE WHAT IT READS IS OF BULK AT MOST 1048576: true; the input reads as it did. -/
def batterySetsUptoRow : OpenClaim := { program := "ythoknhbjeddcjaa", sum := "95e7a409fdf8ac05e94aad2c0d54cdafada5ba7b2f6c74807f568b02b6a4d78e", func := "homehub/homehublaw39.BatterySets", spec := "batterySets", unfollowed := true, recurses := true, apart := false, narrowed := true }
def BatterySetsUptoSaid : Prop := batterySetsUptoRow.holds Try.pinned (OpenSpec.upto batterySetsSpec)

/-- 'homehublaw39.BatteryRounds', WHERE WHAT IT READS IS OF BULK AT MOST 1048576: true; the input reads as it did. -/
def batteryRoundsUptoRow : OpenClaim := { program := "ythoknhbjeddcjaa", sum := "95e7a409fdf8ac05e94aad2c0d54cdafada5ba7b2f6c74807f568b02b6a4d78e", func := "homehub/homehublaw39.BatteryRounds", spec := "batteryRounds", unfollowed := true, recurses := true, apart := false, narrowed := true }
def BatteryRoundsUptoSaid : Prop := batteryRoundsUptoRow.holds Try.pinned (OpenSpec.upto batteryRoundsSpec)

end Rows
end Go.Proofs.Ythoknhbjeddcjaa
