/-
  No cell of these rows narrows 'for every input' (looked for: loops, veiled, ifaces, maps, wideKeys, modest, calm, conditions, laid).
  DERIVED. THE GIVEN ROWS OF THIS SEAT. 6 by the template 'for every input the law returns true; each argument reads behind the call as it read before'; 0 by the template 'total and deterministic' (their statements: YtnibhdpgjmdkeaaTotals.lean).
  GIVEN WITH THE SEED: the statements are not yours to turn. If you find one false, say at which input.
  Laid BY PROGRAM, IN A SANDBOX (cutbox-rows.mjs): the forced cells as the released guide's own fill.sh prints them over the translation 19a0c94fe4f3f3c2… (all of the seat's roots in one cut). By AI agents, Wed Nov 11 2026. No macro, syntax, notation, axiom, sorry.
-/
import Derived.Test.YtnibhdpgjmdkeaaChecked
import GoSem.Claim
import GoSem.ClaimJoined
import GoSem.ClaimMapViews
import Derived.JoinedTies
import Derived.KernelRfl
namespace Go.Proofs.Ytnibhdpgjmdkeaa
/- THE CELL 'sum', in the pinned program and in every row, IS THE sha256 OF THE DUMP (.gsa) THAT YtnibhdpgjmdkeaaProg.lean LOADS. Nothing in Lean hashes anything: it is a label: what it is worth is what the hold of that sum in a sandbox is worth. -/
noncomputable def Try.pinned : Pinned := { name := "ytnibhdpgjmdkeaa", sum := "19a0c94fe4f3f3c2a2d7156fa969d633ae735ad2128a8679ceb03747c9801d56", checked := Try.checked }
namespace Rows
def none {H : Type} : Left H := { results := [], args := [] }

/-- 'homehublaw41.LoadStarts': WHATEVER THE INPUT: true; the input reads as it did. -/
def loadStartsSpec : ChangeSpec := { name := "loadStarts", fn := fun _ => fun
  | [d1, d2, d3] => { results := [.lit (.bool true)], args := [d1, d2, d3] }
  | _ => none }
def loadStartsRow : OpenClaim := { program := "ytnibhdpgjmdkeaa", sum := "19a0c94fe4f3f3c2a2d7156fa969d633ae735ad2128a8679ceb03747c9801d56", func := "homehub/homehublaw41.LoadStarts", spec := "loadStarts", unfollowed := true, recurses := true, apart := false }
def LoadStartsSaid : Prop := loadStartsRow.holds Try.pinned (OpenSpec.ofChange loadStartsSpec)

/-- ITS FALSE NEIGHBOUR: 'it returns false'. Refute it at one input. -/
def loadStartsWrong : ChangeSpec := { name := "loadStarts", fn := fun _ => fun
  | [d1, d2, d3] => { results := [.lit (.bool false)], args := [d1, d2, d3] }
  | _ => none }
def LoadStartsWrongFalsely : Prop := loadStartsRow.holds Try.pinned (OpenSpec.ofChange loadStartsWrong)

/-- 'homehublaw41.LoadUses': WHATEVER THE INPUT: true; the input reads as it did. -/
def loadUsesSpec : ChangeSpec := { name := "loadUses", fn := fun _ => fun
  | [d1, d2, d3] => { results := [.lit (.bool true)], args := [d1, d2, d3] }
  | _ => none }
def loadUsesRow : OpenClaim := { program := "ytnibhdpgjmdkeaa", sum := "19a0c94fe4f3f3c2a2d7156fa969d633ae735ad2128a8679ceb03747c9801d56", func := "homehub/homehublaw41.LoadUses", spec := "loadUses", unfollowed := true, recurses := true, apart := false }
def LoadUsesSaid : Prop := loadUsesRow.holds Try.pinned (OpenSpec.ofChange loadUsesSpec)

/-- ITS FALSE NEIGHBOUR: 'it returns false'. Refute it at one input. -/
def loadUsesWrong : ChangeSpec := { name := "loadUses", fn := fun _ => fun
  | [d1, d2, d3] => { results := [.lit (.bool false)], args := [d1, d2, d3] }
  | _ => none }
def LoadUsesWrongFalsely : Prop := loadUsesRow.holds Try.pinned (OpenSpec.ofChange loadUsesWrong)

/-- 'homehublaw41.LoadShifts': WHATEVER THE INPUT: true; the input reads as it did. -/
def loadShiftsSpec : ChangeSpec := { name := "loadShifts", fn := fun _ => fun
  | [d1, d2] => { results := [.lit (.bool true)], args := [d1, d2] }
  | _ => none }
def loadShiftsRow : OpenClaim := { program := "ytnibhdpgjmdkeaa", sum := "19a0c94fe4f3f3c2a2d7156fa969d633ae735ad2128a8679ceb03747c9801d56", func := "homehub/homehublaw41.LoadShifts", spec := "loadShifts", unfollowed := true, recurses := true, apart := false }
def LoadShiftsSaid : Prop := loadShiftsRow.holds Try.pinned (OpenSpec.ofChange loadShiftsSpec)

/-- ITS FALSE NEIGHBOUR: 'it returns false'. Refute it at one input. -/
def loadShiftsWrong : ChangeSpec := { name := "loadShifts", fn := fun _ => fun
  | [d1, d2] => { results := [.lit (.bool false)], args := [d1, d2] }
  | _ => none }
def LoadShiftsWrongFalsely : Prop := loadShiftsRow.holds Try.pinned (OpenSpec.ofChange loadShiftsWrong)

/-- 'homehublaw41.LoadWhole': WHATEVER THE INPUT: true; the input reads as it did. -/
def loadWholeSpec : ChangeSpec := { name := "loadWhole", fn := fun _ => fun
  | [d1, d2, d3] => { results := [.lit (.bool true)], args := [d1, d2, d3] }
  | _ => none }
def loadWholeRow : OpenClaim := { program := "ytnibhdpgjmdkeaa", sum := "19a0c94fe4f3f3c2a2d7156fa969d633ae735ad2128a8679ceb03747c9801d56", func := "homehub/homehublaw41.LoadWhole", spec := "loadWhole", unfollowed := true, recurses := true, apart := false }
def LoadWholeSaid : Prop := loadWholeRow.holds Try.pinned (OpenSpec.ofChange loadWholeSpec)

/-- ITS FALSE NEIGHBOUR: 'it returns false'. Refute it at one input. -/
def loadWholeWrong : ChangeSpec := { name := "loadWhole", fn := fun _ => fun
  | [d1, d2, d3] => { results := [.lit (.bool false)], args := [d1, d2, d3] }
  | _ => none }
def LoadWholeWrongFalsely : Prop := loadWholeRow.holds Try.pinned (OpenSpec.ofChange loadWholeWrong)

/-- 'homehublaw41.LoadMoved': WHATEVER THE INPUT: true; the input reads as it did. -/
def loadMovedSpec : ChangeSpec := { name := "loadMoved", fn := fun _ => fun
  | [d1, d2, d3] => { results := [.lit (.bool true)], args := [d1, d2, d3] }
  | _ => none }
def loadMovedRow : OpenClaim := { program := "ytnibhdpgjmdkeaa", sum := "19a0c94fe4f3f3c2a2d7156fa969d633ae735ad2128a8679ceb03747c9801d56", func := "homehub/homehublaw41.LoadMoved", spec := "loadMoved", unfollowed := true, recurses := true, apart := false }
def LoadMovedSaid : Prop := loadMovedRow.holds Try.pinned (OpenSpec.ofChange loadMovedSpec)

/-- ITS FALSE NEIGHBOUR: 'it returns false'. Refute it at one input. -/
def loadMovedWrong : ChangeSpec := { name := "loadMoved", fn := fun _ => fun
  | [d1, d2, d3] => { results := [.lit (.bool false)], args := [d1, d2, d3] }
  | _ => none }
def LoadMovedWrongFalsely : Prop := loadMovedRow.holds Try.pinned (OpenSpec.ofChange loadMovedWrong)

/-- 'homehublaw41.LoadChecks': WHATEVER THE INPUT: true; the input reads as it did. -/
def loadChecksSpec : ChangeSpec := { name := "loadChecks", fn := fun _ => fun
  | [d1, d2] => { results := [.lit (.bool true)], args := [d1, d2] }
  | _ => none }
def loadChecksRow : OpenClaim := { program := "ytnibhdpgjmdkeaa", sum := "19a0c94fe4f3f3c2a2d7156fa969d633ae735ad2128a8679ceb03747c9801d56", func := "homehub/homehublaw41.LoadChecks", spec := "loadChecks", unfollowed := true, recurses := true, apart := false }
def LoadChecksSaid : Prop := loadChecksRow.holds Try.pinned (OpenSpec.ofChange loadChecksSpec)

/-- ITS FALSE NEIGHBOUR: 'it returns false'. Refute it at one input. -/
def loadChecksWrong : ChangeSpec := { name := "loadChecks", fn := fun _ => fun
  | [d1, d2] => { results := [.lit (.bool false)], args := [d1, d2] }
  | _ => none }
def LoadChecksWrongFalsely : Prop := loadChecksRow.holds Try.pinned (OpenSpec.ofChange loadChecksWrong)

/- THE SECOND FORM. 'bulk': how many values and letters a reading holds, each counted each time it is reached (what is shared counts as often as it is met; a slice's spare places count too). A statement '..UptoSaid' is the law's where the arguments, and the package variables that the reading takes, are together of bulk at most 1048576: NARROWER than '..Said'. Prove '..Said' where nothing that the law and all that it calls make is longer than what came in: it says more and counts as full. Else prove '..UptoSaid'. A law counts once. -/
mutual
def uptoBulk {H : Type} : DataW H → Nat
  | .lit (.string bytes) => bytes.length + 1
  | .lit _ => 1
  | .nil => 1
  | .ptr d => uptoBulk d + 1
  | .slice elems spare => uptoBulkAll elems + uptoBulkAll spare + 1
  | .agg parts => uptoBulkAll parts + 1
  | .iface _ d => uptoBulk d + 1
  | .map entries => uptoBulkEntries entries + 1
  | .held _ => 1
def uptoBulkAll {H : Type} : List (DataW H) → Nat
  | [] => 0
  | d :: r => uptoBulk d + uptoBulkAll r
def uptoBulkEntries {H : Type} : List (Lit × DataW H) → Nat
  | [] => 0
  | x :: r => uptoBulkEntry x + uptoBulkEntries r
def uptoBulkEntry {H : Type} : Lit × DataW H → Nat
  | (.string bytes, d) => bytes.length + uptoBulk d + 1
  | (_, d) => uptoBulk d + 1
 end
def uptoSmall : (H : Type) → List (DataW H) → Bool := fun _ ds => decide (uptoBulkAll ds ≤ 1048576)
def OpenSpec.upto (s : _root_.Go.ChangeSpec) : _root_.Go.OpenSpec := { _root_.Go.OpenSpec.ofChange s with cond := some uptoSmall }

/-- 'homehublaw41.LoadStarts', WHERE WHAT IT READS IS OF BULK AT MOST 1048576: true; the input reads as it did. -/
def loadStartsUptoRow : OpenClaim := { program := "ytnibhdpgjmdkeaa", sum := "19a0c94fe4f3f3c2a2d7156fa969d633ae735ad2128a8679ceb03747c9801d56", func := "homehub/homehublaw41.LoadStarts", spec := "loadStarts", unfollowed := true, recurses := true, apart := false, narrowed := true }
def LoadStartsUptoSaid : Prop := loadStartsUptoRow.holds Try.pinned (OpenSpec.upto loadStartsSpec)

/-- 'homehublaw41.LoadUses', WHERE WHAT IT READS IS OF BULK AT MOST 1048576: true; the input reads as it did. -/
def loadUsesUptoRow : OpenClaim := { program := "ytnibhdpgjmdkeaa", sum := "19a0c94fe4f3f3c2a2d7156fa969d633ae735ad2128a8679ceb03747c9801d56", func := "homehub/homehublaw41.LoadUses", spec := "loadUses", unfollowed := true, recurses := true, apart := false, narrowed := true }
def LoadUsesUptoSaid : Prop := loadUsesUptoRow.holds Try.pinned (OpenSpec.upto loadUsesSpec)

/-- 'homehublaw41.LoadShifts', WHERE WHAT IT READS IS OF BULK AT MOST 1048576: true; the input reads as it did. -/
def loadShiftsUptoRow : OpenClaim := { program := "ytnibhdpgjmdkeaa", sum := "19a0c94fe4f3f3c2a2d7156fa969d633ae735ad2128a8679ceb03747c9801d56", func := "homehub/homehublaw41.LoadShifts", spec := "loadShifts", unfollowed := true, recurses := true, apart := false, narrowed := true }
def LoadShiftsUptoSaid : Prop := loadShiftsUptoRow.holds Try.pinned (OpenSpec.upto loadShiftsSpec)

/-- 'homehublaw41.LoadWhole', WHERE WHAT IT READS IS OF BULK AT MOST 1048576: true; the input reads as it did. -/
def loadWholeUptoRow : OpenClaim := { program := "ytnibhdpgjmdkeaa", sum := "19a0c94fe4f3f3c2a2d7156fa969d633ae735ad2128a8679ceb03747c9801d56", func := "homehub/homehublaw41.LoadWhole", spec := "loadWhole", unfollowed := true, recurses := true, apart := false, narrowed := true }
def LoadWholeUptoSaid : Prop := loadWholeUptoRow.holds Try.pinned (OpenSpec.upto loadWholeSpec)

/-- 'homehublaw41.LoadMoved', WHERE WHAT IT READS IS OF BULK AT MOST 1048576: true; the input reads as it did. -/
def loadMovedUptoRow : OpenClaim := { program := "ytnibhdpgjmdkeaa", sum := "19a0c94fe4f3f3c2a2d7156fa969d633ae735ad2128a8679ceb03747c9801d56", func := "homehub/homehublaw41.LoadMoved", spec := "loadMoved", unfollowed := true, recurses := true, apart := false, narrowed := true }
def LoadMovedUptoSaid : Prop := loadMovedUptoRow.holds Try.pinned (OpenSpec.upto loadMovedSpec)

/-- 'homehublaw41.LoadChecks', WHERE WHAT IT READS IS OF BULK AT MOST 1048576: true; the input reads as it did. -/
def loadChecksUptoRow : OpenClaim := { program := "ytnibhdpgjmdkeaa", sum := "19a0c94fe4f3f3c2a2d7156fa969d633ae735ad2128a8679ceb03747c9801d56", func := "homehub/homehublaw41.LoadChecks", spec := "loadChecks", unfollowed := true, recurses := true, apart := false, narrowed := true }
def LoadChecksUptoSaid : Prop := loadChecksUptoRow.holds Try.pinned (OpenSpec.upto loadChecksSpec)

end Rows
end Go.Proofs.Ytnibhdpgjmdkeaa
