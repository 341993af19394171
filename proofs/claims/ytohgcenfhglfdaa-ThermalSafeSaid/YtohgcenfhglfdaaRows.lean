/-
  No cell of these rows narrows 'for every input' (looked for: loops, veiled, ifaces, maps, wideKeys, modest, calm, conditions, laid).
  DERIVED. THE GIVEN ROWS OF THIS SEAT. 8 by the template 'for every input the law returns true; each argument reads behind the call as it read before'; 0 by the template 'total and deterministic' (their statements: YtohgcenfhglfdaaTotals.lean).
  GIVEN WITH THE SEED: the statements are not yours to turn. If you find one false, say at which input.
  Laid BY PROGRAM, IN A SANDBOX (cutbox-rows.mjs): the forced cells as the released guide's own fill.sh prints them over the translation f996052768feba7c… (all of the seat's roots in one cut). By AI agents, Wed Nov 11 2026. No macro, syntax, notation, axiom, sorry.
-/
import Derived.Test.YtohgcenfhglfdaaChecked
import GoSem.Claim
import GoSem.ClaimJoined
import GoSem.ClaimMapViews
import Derived.JoinedTies
import Derived.KernelRfl
namespace Go.Proofs.Ytohgcenfhglfdaa
/- THE CELL 'sum', in the pinned program and in every row, IS THE sha256 OF THE DUMP (.gsa) THAT YtohgcenfhglfdaaProg.lean LOADS. Nothing in Lean hashes anything: it is a label: what it is worth is what the hold of that sum in a sandbox is worth. -/
noncomputable def Try.pinned : Pinned := { name := "ytohgcenfhglfdaa", sum := "f996052768feba7cb51d9026561f609fa6f0bf5946df77db967d6ee2422ee67a", checked := Try.checked }
namespace Rows
def none {H : Type} : Left H := { results := [], args := [] }

/-- 'homehublaw40.ThermalChecks': WHATEVER THE INPUT: true; the input reads as it did. -/
def thermalChecksSpec : ChangeSpec := { name := "thermalChecks", fn := fun _ => fun
  | [d1, d2] => { results := [.lit (.bool true)], args := [d1, d2] }
  | _ => none }
def thermalChecksRow : OpenClaim := { program := "ytohgcenfhglfdaa", sum := "f996052768feba7cb51d9026561f609fa6f0bf5946df77db967d6ee2422ee67a", func := "homehub/homehublaw40.ThermalChecks", spec := "thermalChecks", unfollowed := true, recurses := true, apart := false }
def ThermalChecksSaid : Prop := thermalChecksRow.holds Try.pinned (OpenSpec.ofChange thermalChecksSpec)

/-- ITS FALSE NEIGHBOUR: 'it returns false'. Refute it at one input. -/
def thermalChecksWrong : ChangeSpec := { name := "thermalChecks", fn := fun _ => fun
  | [d1, d2] => { results := [.lit (.bool false)], args := [d1, d2] }
  | _ => none }
def ThermalChecksWrongFalsely : Prop := thermalChecksRow.holds Try.pinned (OpenSpec.ofChange thermalChecksWrong)

/-- 'homehublaw40.ThermalChoices': WHATEVER THE INPUT: true; the input reads as it did. -/
def thermalChoicesSpec : ChangeSpec := { name := "thermalChoices", fn := fun _ => fun
  | [d1, d2, d3] => { results := [.lit (.bool true)], args := [d1, d2, d3] }
  | _ => none }
def thermalChoicesRow : OpenClaim := { program := "ytohgcenfhglfdaa", sum := "f996052768feba7cb51d9026561f609fa6f0bf5946df77db967d6ee2422ee67a", func := "homehub/homehublaw40.ThermalChoices", spec := "thermalChoices", unfollowed := true, recurses := true, apart := false }
def ThermalChoicesSaid : Prop := thermalChoicesRow.holds Try.pinned (OpenSpec.ofChange thermalChoicesSpec)

/-- ITS FALSE NEIGHBOUR: 'it returns false'. Refute it at one input. -/
def thermalChoicesWrong : ChangeSpec := { name := "thermalChoices", fn := fun _ => fun
  | [d1, d2, d3] => { results := [.lit (.bool false)], args := [d1, d2, d3] }
  | _ => none }
def ThermalChoicesWrongFalsely : Prop := thermalChoicesRow.holds Try.pinned (OpenSpec.ofChange thermalChoicesWrong)

/-- 'homehublaw40.ThermalDrifts': WHATEVER THE INPUT: true; the input reads as it did. -/
def thermalDriftsSpec : ChangeSpec := { name := "thermalDrifts", fn := fun _ => fun
  | [d1, d2, d3] => { results := [.lit (.bool true)], args := [d1, d2, d3] }
  | _ => none }
def thermalDriftsRow : OpenClaim := { program := "ytohgcenfhglfdaa", sum := "f996052768feba7cb51d9026561f609fa6f0bf5946df77db967d6ee2422ee67a", func := "homehub/homehublaw40.ThermalDrifts", spec := "thermalDrifts", unfollowed := true, recurses := true, apart := false }
def ThermalDriftsSaid : Prop := thermalDriftsRow.holds Try.pinned (OpenSpec.ofChange thermalDriftsSpec)

/-- ITS FALSE NEIGHBOUR: 'it returns false'. Refute it at one input. -/
def thermalDriftsWrong : ChangeSpec := { name := "thermalDrifts", fn := fun _ => fun
  | [d1, d2, d3] => { results := [.lit (.bool false)], args := [d1, d2, d3] }
  | _ => none }
def ThermalDriftsWrongFalsely : Prop := thermalDriftsRow.holds Try.pinned (OpenSpec.ofChange thermalDriftsWrong)

/-- 'homehublaw40.ThermalMonotone': WHATEVER THE INPUT: true; the input reads as it did. -/
def thermalMonotoneSpec : ChangeSpec := { name := "thermalMonotone", fn := fun _ => fun
  | [d1, d2, d3] => { results := [.lit (.bool true)], args := [d1, d2, d3] }
  | _ => none }
def thermalMonotoneRow : OpenClaim := { program := "ytohgcenfhglfdaa", sum := "f996052768feba7cb51d9026561f609fa6f0bf5946df77db967d6ee2422ee67a", func := "homehub/homehublaw40.ThermalMonotone", spec := "thermalMonotone", unfollowed := true, recurses := true, apart := false }
def ThermalMonotoneSaid : Prop := thermalMonotoneRow.holds Try.pinned (OpenSpec.ofChange thermalMonotoneSpec)

/-- ITS FALSE NEIGHBOUR: 'it returns false'. Refute it at one input. -/
def thermalMonotoneWrong : ChangeSpec := { name := "thermalMonotone", fn := fun _ => fun
  | [d1, d2, d3] => { results := [.lit (.bool false)], args := [d1, d2, d3] }
  | _ => none }
def ThermalMonotoneWrongFalsely : Prop := thermalMonotoneRow.holds Try.pinned (OpenSpec.ofChange thermalMonotoneWrong)

/-- 'homehublaw40.ThermalStill': WHATEVER THE INPUT: true; the input reads as it did. -/
def thermalStillSpec : ChangeSpec := { name := "thermalStill", fn := fun _ => fun
  | [d1, d2] => { results := [.lit (.bool true)], args := [d1, d2] }
  | _ => none }
def thermalStillRow : OpenClaim := { program := "ytohgcenfhglfdaa", sum := "f996052768feba7cb51d9026561f609fa6f0bf5946df77db967d6ee2422ee67a", func := "homehub/homehublaw40.ThermalStill", spec := "thermalStill", unfollowed := true, recurses := true, apart := false }
def ThermalStillSaid : Prop := thermalStillRow.holds Try.pinned (OpenSpec.ofChange thermalStillSpec)

/-- ITS FALSE NEIGHBOUR: 'it returns false'. Refute it at one input. -/
def thermalStillWrong : ChangeSpec := { name := "thermalStill", fn := fun _ => fun
  | [d1, d2] => { results := [.lit (.bool false)], args := [d1, d2] }
  | _ => none }
def ThermalStillWrongFalsely : Prop := thermalStillRow.holds Try.pinned (OpenSpec.ofChange thermalStillWrong)

/-- 'homehublaw40.ThermalHolds': WHATEVER THE INPUT: true; the input reads as it did. -/
def thermalHoldsSpec : ChangeSpec := { name := "thermalHolds", fn := fun _ => fun
  | [d1, d2, d3] => { results := [.lit (.bool true)], args := [d1, d2, d3] }
  | _ => none }
def thermalHoldsRow : OpenClaim := { program := "ytohgcenfhglfdaa", sum := "f996052768feba7cb51d9026561f609fa6f0bf5946df77db967d6ee2422ee67a", func := "homehub/homehublaw40.ThermalHolds", spec := "thermalHolds", unfollowed := true, recurses := true, apart := false }
def ThermalHoldsSaid : Prop := thermalHoldsRow.holds Try.pinned (OpenSpec.ofChange thermalHoldsSpec)

/-- ITS FALSE NEIGHBOUR: 'it returns false'. Refute it at one input. -/
def thermalHoldsWrong : ChangeSpec := { name := "thermalHolds", fn := fun _ => fun
  | [d1, d2, d3] => { results := [.lit (.bool false)], args := [d1, d2, d3] }
  | _ => none }
def ThermalHoldsWrongFalsely : Prop := thermalHoldsRow.holds Try.pinned (OpenSpec.ofChange thermalHoldsWrong)

/-- 'homehublaw40.ThermalSafe': WHATEVER THE INPUT: true; the input reads as it did. -/
def thermalSafeSpec : ChangeSpec := { name := "thermalSafe", fn := fun _ => fun
  | [d1, d2, d3] => { results := [.lit (.bool true)], args := [d1, d2, d3] }
  | _ => none }
def thermalSafeRow : OpenClaim := { program := "ytohgcenfhglfdaa", sum := "f996052768feba7cb51d9026561f609fa6f0bf5946df77db967d6ee2422ee67a", func := "homehub/homehublaw40.ThermalSafe", spec := "thermalSafe", unfollowed := true, recurses := true, apart := false }
def ThermalSafeSaid : Prop := thermalSafeRow.holds Try.pinned (OpenSpec.ofChange thermalSafeSpec)

/-- ITS FALSE NEIGHBOUR: 'it returns false'. Refute it at one input. -/
def thermalSafeWrong : ChangeSpec := { name := "thermalSafe", fn := fun _ => fun
  | [d1, d2, d3] => { results := [.lit (.bool false)], args := [d1, d2, d3] }
  | _ => none }
def ThermalSafeWrongFalsely : Prop := thermalSafeRow.holds Try.pinned (OpenSpec.ofChange thermalSafeWrong)

/-- 'homehublaw40.ThermalSteps': WHATEVER THE INPUT: true; the input reads as it did. -/
def thermalStepsSpec : ChangeSpec := { name := "thermalSteps", fn := fun _ => fun
  | [d1, d2, d3] => { results := [.lit (.bool true)], args := [d1, d2, d3] }
  | _ => none }
def thermalStepsRow : OpenClaim := { program := "ytohgcenfhglfdaa", sum := "f996052768feba7cb51d9026561f609fa6f0bf5946df77db967d6ee2422ee67a", func := "homehub/homehublaw40.ThermalSteps", spec := "thermalSteps", unfollowed := true, recurses := true, apart := false }
def ThermalStepsSaid : Prop := thermalStepsRow.holds Try.pinned (OpenSpec.ofChange thermalStepsSpec)

/-- ITS FALSE NEIGHBOUR: 'it returns false'. Refute it at one input. -/
def thermalStepsWrong : ChangeSpec := { name := "thermalSteps", fn := fun _ => fun
  | [d1, d2, d3] => { results := [.lit (.bool false)], args := [d1, d2, d3] }
  | _ => none }
def ThermalStepsWrongFalsely : Prop := thermalStepsRow.holds Try.pinned (OpenSpec.ofChange thermalStepsWrong)

/- THE SECOND FORM. 'bulk': how many values and letters a reading holds, each counted each time it is reached (what is shared counts as often as it is met; a slice's spare places count too). A statement '..UptoSaid' is the law's where the arguments, and the package variables that the reading takes, are together of bulk at most 1048576: NARROWER than '..Said'. Prove '..Said' where nothing that the law and all that it calls make is longer than what came in: it says more and counts as full. Else prove '..UptoSaid'. A law counts once. -/
mutual
def uptoBulk {H : Type} : DataW H → Nat
  | .lit (.string bytes) => bytes.length + 1
  | .lit _ => 1
  | .nil => 1
  | .ptr d => uptoBulk d + 1
  | .slice elems spare => uptoBulkAll elems + uptoBulkAll spare + 1
  | .agg parts => uptoBulkAll parts + 1
  | .iface _ d => uptoBulk d + 1
  | .map entries => uptoBulkEntries entries + 1
  | .held _ => 1
def uptoBulkAll {H : Type} : List (DataW H) → Nat
  | [] => 0
  | d :: r => uptoBulk d + uptoBulkAll r
def uptoBulkEntries {H : Type} : List (Lit × DataW H) → Nat
  | [] => 0
  | x :: r => uptoBulkEntry x + uptoBulkEntries r
def uptoBulkEntry {H : Type} : Lit × DataW H → Nat
  | (.string bytes, d) => bytes.length + uptoBulk d + 1
  | (_, d) => uptoBulk d + 1
 end
def uptoSmall : (H : Type) → List (DataW H) → Bool := fun _ ds => decide (uptoBulkAll ds ≤ 1048576)
def OpenSpec.upto (s : _root_.Go.ChangeSpec) : _root_.Go.OpenSpec := { _root_.Go.OpenSpec.ofChange s with cond := some uptoSmall }

/-- 'homehublaw40.ThermalChecks', WHERE WHAT IT READS IS OF BULK AT MOST 1048576: true; the input reads as it did. -/
def thermalChecksUptoRow : OpenClaim := { program := "ytohgcenfhglfdaa", sum := "f996052768feba7cb51d9026561f609fa6f0bf5946df77db967d6ee2422ee67a", func := "homehub/homehublaw40.ThermalChecks", spec := "thermalChecks", unfollowed := true, recurses := true, apart := false, narrowed := true }
def ThermalChecksUptoSaid : Prop := thermalChecksUptoRow.holds Try.pinned (OpenSpec.upto thermalChecksSpec)

/-- 'homehublaw40.ThermalChoices', WHERE WHAT IT READS IS OF BULK AT MOST 1048576: true; the input reads as it did. -/
def thermalChoicesUptoRow : OpenClaim := { program := "ytohgcenfhglfdaa", sum := "f996052768feba7cb51d9026561f609fa6f0bf5946df77db967d6ee2422ee67a", func := "homehub/homehublaw40.ThermalChoices", spec := "thermalChoices", unfollowed := true, recurses := true, apart := false, narrowed := true }
def ThermalChoicesUptoSaid : Prop := thermalChoicesUptoRow.holds Try.pinned (OpenSpec.upto thermalChoicesSpec)

/-- 'homehublaw40.ThermalDrifts', WHERE WHAT IT READS IS OF BULK AT MOST 1048576: true; the input reads as it did. -/
def thermalDriftsUptoRow : OpenClaim := { program := "ytohgcenfhglfdaa", sum := "f996052768feba7cb51d9026561f609fa6f0bf5946df77db967d6ee2422ee67a", func := "homehub/homehublaw40.ThermalDrifts", spec := "thermalDrifts", unfollowed := true, recurses := true, apart := false, narrowed := true }
def ThermalDriftsUptoSaid : Prop := thermalDriftsUptoRow.holds Try.pinned (OpenSpec.upto thermalDriftsSpec)

/-- 'homehublaw40.ThermalMonotone', WHERE WHAT IT READS IS OF BULK AT MOST 1048576: true; the input reads as it did. -/
def thermalMonotoneUptoRow : OpenClaim := { program := "ytohgcenfhglfdaa", sum := "f996052768feba7cb51d9026561f609fa6f0bf5946df77db967d6ee2422ee67a", func := "homehub/homehublaw40.ThermalMonotone", spec := "thermalMonotone", unfollowed := true, recurses := true, apart := false, narrowed := true }
def ThermalMonotoneUptoSaid : Prop := thermalMonotoneUptoRow.holds Try.pinned (OpenSpec.upto thermalMonotoneSpec)

/-- 'homehublaw40.ThermalStill', WHERE WHAT IT READS IS OF BULK AT MOST 1048576: true; the input reads as it did. -/
def thermalStillUptoRow : OpenClaim := { program := "ytohgcenfhglfdaa", sum := "f996052768feba7cb51d9026561f609fa6f0bf5946df77db967d6ee2422ee67a", func := "homehub/homehublaw40.ThermalStill", spec := "thermalStill", unfollowed := true, recurses := true, apart := false, narrowed := true }
def ThermalStillUptoSaid : Prop := thermalStillUptoRow.holds Try.pinned (OpenSpec.upto thermalStillSpec)

/-- 'homehublaw40.ThermalHolds', WHERE WHAT IT READS IS OF BULK AT MOST 1048576: true; the input reads as it did. -/
def thermalHoldsUptoRow : OpenClaim := { program := "ytohgcenfhglfdaa", sum := "f996052768feba7cb51d9026561f609fa6f0bf5946df77db967d6ee2422ee67a", func := "homehub/homehublaw40.ThermalHolds", spec := "thermalHolds", unfollowed := true, recurses := true, apart := false, narrowed := true }
def ThermalHoldsUptoSaid : Prop := thermalHoldsUptoRow.holds Try.pinned (OpenSpec.upto thermalHoldsSpec)

/-- 'homehublaw40.ThermalSafe', WHERE WHAT IT READS IS OF BULK AT MOST 1048576: true; the input reads as it did. -/
def thermalSafeUptoRow : OpenClaim := { program := "ytohgcenfhglfdaa", sum := "f996052768feba7cb51d9026561f609fa6f0bf5946df77db967d6ee2422ee67a", func := "homehub/homehublaw40.ThermalSafe", spec := "thermalSafe", unfollowed := true, recurses := true, apart := false, narrowed := true }
def ThermalSafeUptoSaid : Prop := thermalSafeUptoRow.holds Try.pinned (OpenSpec.upto thermalSafeSpec)

/-- 'homehublaw40.ThermalSteps', WHERE WHAT IT READS IS OF BULK AT MOST 1048576: true; the input reads as it did. -/
def thermalStepsUptoRow : OpenClaim := { program := "ytohgcenfhglfdaa", sum := "f996052768feba7cb51d9026561f609fa6f0bf5946df77db967d6ee2422ee67a", func := "homehub/homehublaw40.ThermalSteps", spec := "thermalSteps", unfollowed := true, recurses := true, apart := false, narrowed := true }
def ThermalStepsUptoSaid : Prop := thermalStepsUptoRow.holds Try.pinned (OpenSpec.upto thermalStepsSpec)

end Rows
end Go.Proofs.Ytohgcenfhglfdaa
