/-
  No cell of these rows narrows 'for every input' (looked for: loops, veiled, ifaces, maps, wideKeys, modest, calm, conditions, laid).
  DERIVED. THE GIVEN ROWS OF THIS SEAT. 7 by the template 'for every input the law returns true; each argument reads behind the call as it read before'; 0 by the template 'total and deterministic' (their statements: YtgflklgjjpokaaaTotals.lean).
  GIVEN WITH THE SEED: the statements are not yours to turn. If you find one false, say at which input.
  Laid BY PROGRAM, IN A SANDBOX (cutbox-rows.mjs): the forced cells as the released guide's own fill.sh prints them over the translation 5fbebc9d2a5e4f3c… (all of the seat's roots in one cut). By AI agents, Wed Nov 11 2026. No macro, syntax, notation, axiom, sorry.
-/
import Derived.Test.YtgflklgjjpokaaaChecked
import GoSem.Claim
import GoSem.ClaimJoined
import GoSem.ClaimMapViews
import Derived.JoinedTies
import Derived.KernelRfl
namespace Go.Proofs.Ytgflklgjjpokaaa
/- THE CELL 'sum', in the pinned program and in every row, IS THE sha256 OF THE DUMP (.gsa) THAT YtgflklgjjpokaaaProg.lean LOADS. Nothing in Lean hashes anything: it is a label: what it is worth is what the hold of that sum in a sandbox is worth. -/
noncomputable def Try.pinned : Pinned := { name := "ytgflklgjjpokaaa", sum := "5fbebc9d2a5e4f3cd5f71a79b5cf454a96e9e72c45c3003e7fe4d36a3f1ae893", checked := Try.checked }
namespace Rows
def none {H : Type} : Left H := { results := [], args := [] }

/-- 'homehublaw08.AddrPicks': WHATEVER THE INPUT: true; the input reads as it did. -/
def addrPicksSpec : ChangeSpec := { name := "addrPicks", fn := fun _ => fun
  | [d1, d2, d3] => { results := [.lit (.bool true)], args := [d1, d2, d3] }
  | _ => none }
def addrPicksRow : OpenClaim := { program := "ytgflklgjjpokaaa", sum := "5fbebc9d2a5e4f3cd5f71a79b5cf454a96e9e72c45c3003e7fe4d36a3f1ae893", func := "homehub/homehublaw08.AddrPicks", spec := "addrPicks", recurses := true, apart := false }
def AddrPicksSaid : Prop := addrPicksRow.holds Try.pinned (OpenSpec.ofChange addrPicksSpec)

/-- ITS FALSE NEIGHBOUR: 'it returns false'. Refute it at one input. -/
def addrPicksWrong : ChangeSpec := { name := "addrPicks", fn := fun _ => fun
  | [d1, d2, d3] => { results := [.lit (.bool false)], args := [d1, d2, d3] }
  | _ => none }
def AddrPicksWrongFalsely : Prop := addrPicksRow.holds Try.pinned (OpenSpec.ofChange addrPicksWrong)

/-- 'homehublaw08.AddrRounds': WHATEVER THE INPUT: true; the input reads as it did. -/
def addrRoundsSpec : ChangeSpec := { name := "addrRounds", fn := fun _ => fun
  | [d] => { results := [.lit (.bool true)], args := [d] }
  | _ => none }
def addrRoundsRow : OpenClaim := { program := "ytgflklgjjpokaaa", sum := "5fbebc9d2a5e4f3cd5f71a79b5cf454a96e9e72c45c3003e7fe4d36a3f1ae893", func := "homehub/homehublaw08.AddrRounds", spec := "addrRounds", recurses := true, apart := false }
def AddrRoundsSaid : Prop := addrRoundsRow.holds Try.pinned (OpenSpec.ofChange addrRoundsSpec)

/-- ITS FALSE NEIGHBOUR: 'it returns false'. Refute it at one input. -/
def addrRoundsWrong : ChangeSpec := { name := "addrRounds", fn := fun _ => fun
  | [d] => { results := [.lit (.bool false)], args := [d] }
  | _ => none }
def AddrRoundsWrongFalsely : Prop := addrRoundsRow.holds Try.pinned (OpenSpec.ofChange addrRoundsWrong)

/-- 'homehublaw08.AddrSettles': WHATEVER THE INPUT: true; the input reads as it did. -/
def addrSettlesSpec : ChangeSpec := { name := "addrSettles", fn := fun _ => fun
  | [d] => { results := [.lit (.bool true)], args := [d] }
  | _ => none }
def addrSettlesRow : OpenClaim := { program := "ytgflklgjjpokaaa", sum := "5fbebc9d2a5e4f3cd5f71a79b5cf454a96e9e72c45c3003e7fe4d36a3f1ae893", func := "homehub/homehublaw08.AddrSettles", spec := "addrSettles", recurses := true, apart := false }
def AddrSettlesSaid : Prop := addrSettlesRow.holds Try.pinned (OpenSpec.ofChange addrSettlesSpec)

/-- ITS FALSE NEIGHBOUR: 'it returns false'. Refute it at one input. -/
def addrSettlesWrong : ChangeSpec := { name := "addrSettles", fn := fun _ => fun
  | [d] => { results := [.lit (.bool false)], args := [d] }
  | _ => none }
def AddrSettlesWrongFalsely : Prop := addrSettlesRow.holds Try.pinned (OpenSpec.ofChange addrSettlesWrong)

/-- 'homehublaw08.AddrApart': WHATEVER THE INPUT: true; the input reads as it did. -/
def addrApartSpec : ChangeSpec := { name := "addrApart", fn := fun _ => fun
  | [d] => { results := [.lit (.bool true)], args := [d] }
  | _ => none }
def addrApartRow : OpenClaim := { program := "ytgflklgjjpokaaa", sum := "5fbebc9d2a5e4f3cd5f71a79b5cf454a96e9e72c45c3003e7fe4d36a3f1ae893", func := "homehub/homehublaw08.AddrApart", spec := "addrApart", recurses := true, apart := false }
def AddrApartSaid : Prop := addrApartRow.holds Try.pinned (OpenSpec.ofChange addrApartSpec)

/-- ITS FALSE NEIGHBOUR: 'it returns false'. Refute it at one input. -/
def addrApartWrong : ChangeSpec := { name := "addrApart", fn := fun _ => fun
  | [d] => { results := [.lit (.bool false)], args := [d] }
  | _ => none }
def AddrApartWrongFalsely : Prop := addrApartRow.holds Try.pinned (OpenSpec.ofChange addrApartWrong)

/-- 'homehublaw08.AddrProbes': WHATEVER THE INPUT: true; the input reads as it did. -/
def addrProbesSpec : ChangeSpec := { name := "addrProbes", fn := fun _ => fun
  | [d1, d2] => { results := [.lit (.bool true)], args := [d1, d2] }
  | _ => none }
def addrProbesRow : OpenClaim := { program := "ytgflklgjjpokaaa", sum := "5fbebc9d2a5e4f3cd5f71a79b5cf454a96e9e72c45c3003e7fe4d36a3f1ae893", func := "homehub/homehublaw08.AddrProbes", spec := "addrProbes", recurses := true, apart := false }
def AddrProbesSaid : Prop := addrProbesRow.holds Try.pinned (OpenSpec.ofChange addrProbesSpec)

/-- ITS FALSE NEIGHBOUR: 'it returns false'. Refute it at one input. -/
def addrProbesWrong : ChangeSpec := { name := "addrProbes", fn := fun _ => fun
  | [d1, d2] => { results := [.lit (.bool false)], args := [d1, d2] }
  | _ => none }
def AddrProbesWrongFalsely : Prop := addrProbesRow.holds Try.pinned (OpenSpec.ofChange addrProbesWrong)

/-- 'homehublaw08.AddrFree': WHATEVER THE INPUT: true; the input reads as it did. -/
def addrFreeSpec : ChangeSpec := { name := "addrFree", fn := fun _ => fun
  | [d1, d2] => { results := [.lit (.bool true)], args := [d1, d2] }
  | _ => none }
def addrFreeRow : OpenClaim := { program := "ytgflklgjjpokaaa", sum := "5fbebc9d2a5e4f3cd5f71a79b5cf454a96e9e72c45c3003e7fe4d36a3f1ae893", func := "homehub/homehublaw08.AddrFree", spec := "addrFree", recurses := true, apart := false }
def AddrFreeSaid : Prop := addrFreeRow.holds Try.pinned (OpenSpec.ofChange addrFreeSpec)

/-- ITS FALSE NEIGHBOUR: 'it returns false'. Refute it at one input. -/
def addrFreeWrong : ChangeSpec := { name := "addrFree", fn := fun _ => fun
  | [d1, d2] => { results := [.lit (.bool false)], args := [d1, d2] }
  | _ => none }
def AddrFreeWrongFalsely : Prop := addrFreeRow.holds Try.pinned (OpenSpec.ofChange addrFreeWrong)

/-- 'homehublaw08.AddrOrder': WHATEVER THE INPUT: true; the input reads as it did. -/
def addrOrderSpec : ChangeSpec := { name := "addrOrder", fn := fun _ => fun
  | [d1, d2] => { results := [.lit (.bool true)], args := [d1, d2] }
  | _ => none }
def addrOrderRow : OpenClaim := { program := "ytgflklgjjpokaaa", sum := "5fbebc9d2a5e4f3cd5f71a79b5cf454a96e9e72c45c3003e7fe4d36a3f1ae893", func := "homehub/homehublaw08.AddrOrder", spec := "addrOrder", recurses := true, apart := false }
def AddrOrderSaid : Prop := addrOrderRow.holds Try.pinned (OpenSpec.ofChange addrOrderSpec)

/-- ITS FALSE NEIGHBOUR: 'it returns false'. Refute it at one input. -/
def addrOrderWrong : ChangeSpec := { name := "addrOrder", fn := fun _ => fun
  | [d1, d2] => { results := [.lit (.bool false)], args := [d1, d2] }
  | _ => none }
def AddrOrderWrongFalsely : Prop := addrOrderRow.holds Try.pinned (OpenSpec.ofChange addrOrderWrong)

/- THE SECOND FORM. 'bulk': how many values and letters a reading holds, each counted each time it is reached (what is shared counts as often as it is met; a slice's spare places count too). A statement '..UptoSaid' is the law's where the arguments, and the package variables that the reading takes, are together of bulk at most 1048576: NARROWER than '..Said'. Prove '..Said' where nothing that the law and all that it calls make is longer than what came in: it says more and counts as full. Else prove '..UptoSaid'. A law counts once. -/
mutual
def uptoBulk {H : Type} : DataW H → Nat
  | .lit (.string bytes) => bytes.length + 1
  | .lit _ => 1
  | .nil => 1
  | .ptr d => uptoBulk d + 1
  | .slice elems spare => uptoBulkAll elems + uptoBulkAll spare + 1
  | .agg parts => uptoBulkAll parts + 1
  | .iface _ d => uptoBulk d + 1
  | .map entries => uptoBulkEntries entries + 1
  | .held _ => 1
def uptoBulkAll {H : Type} : List (DataW H) → Nat
  | [] => 0
  | d :: r => uptoBulk d + uptoBulkAll r
def uptoBulkEntries {H : Type} : List (Lit × DataW H) → Nat
  | [] => 0
  | x :: r => uptoBulkEntry x + uptoBulkEntries r
def uptoBulkEntry {H : Type} : Lit × DataW H → Nat
  | (.string bytes, d) => bytes.length + uptoBulk d + 1
  | (_, d) => uptoBulk d + 1
 end
def uptoSmall : (H : Type) → List (DataW H) → Bool := fun _ ds => decide (uptoBulkAll ds ≤ 1048576)
def OpenSpec.upto (s : _root_.Go.ChangeSpec) : _root_.Go.OpenSpec := { _root_.Go.OpenSpec.ofChange s with cond := some uptoSmall }

/-- 'homehublaw08.AddrPicks', WHERE WHAT IT READS IS OF BULK AT MOST 1048576: true; the input reads as it did. -/
def addrPicksUptoRow : OpenClaim := { program := "ytgflklgjjpokaaa", sum := "5fbebc9d2a5e4f3cd5f71a79b5cf454a96e9e72c45c3003e7fe4d36a3f1ae893", func := "homehub/homehublaw08.AddrPicks", spec := "addrPicks", recurses := true, apart := false, narrowed := true }
def AddrPicksUptoSaid : Prop := addrPicksUptoRow.holds Try.pinned (OpenSpec.upto addrPicksSpec)

/-- 'homehublaw08.AddrRounds', WHERE WHAT IT READS IS OF BULK AT MOST 1048576: true; the input reads as it did. -/
def addrRoundsUptoRow : OpenClaim := { program := "ytgflklgjjpokaaa", sum := "5fbebc9d2a5e4f3cd5f71a79b5cf454a96e9e72c45c3003e7fe4d36a3f1ae893", func := "homehub/homehublaw08.AddrRounds", spec := "addrRounds", recurses := true, apart := false, narrowed := true }
def AddrRoundsUptoSaid : Prop := addrRoundsUptoRow.holds Try.pinned (OpenSpec.upto addrRoundsSpec)

/-- 'homehublaw08.AddrSettles', WHERE WHAT IT READS IS OF BULK AT MOST 1048576: true; the input reads as it did. -/
def addrSettlesUptoRow : OpenClaim := { program := "ytgflklgjjpokaaa", sum := "5fbebc9d2a5e4f3cd5f71a79b5cf454a96e9e72c45c3003e7fe4d36a3f1ae893", func := "homehub/homehublaw08.AddrSettles", spec := "addrSettles", recurses := true, apart := false, narrowed := true }
def AddrSettlesUptoSaid : Prop := addrSettlesUptoRow.holds Try.pinned (OpenSpec.upto addrSettlesSpec)

/-- 'homehublaw08.AddrApart', WHERE WHAT IT READS IS OF BULK AT MOST 1048576: true; the input reads as it did. -/
def addrApartUptoRow : OpenClaim := { program := "ytgflklgjjpokaaa", sum := "5fbebc9d2a5e4f3cd5f71a79b5cf454a96e9e72c45c3003e7fe4d36a3f1ae893", func := "homehub/homehublaw08.AddrApart", spec := "addrApart", recurses := true, apart := false, narrowed := true }
def AddrApartUptoSaid : Prop := addrApartUptoRow.holds Try.pinned (OpenSpec.upto addrApartSpec)

/-- 'homehublaw08.AddrProbes', WHERE WHAT IT READS IS OF BULK AT MOST 1048576: true; the input reads as it did. -/
def addrProbesUptoRow : OpenClaim := { program := "ytgflklgjjpokaaa", sum := "5fbebc9d2a5e4f3cd5f71a79b5cf454a96e9e72c45c3003e7fe4d36a3f1ae893", func := "homehub/homehublaw08.AddrProbes", spec := "addrProbes", recurses := true, apart := false, narrowed := true }
def AddrProbesUptoSaid : Prop := addrProbesUptoRow.holds Try.pinned (OpenSpec.upto addrProbesSpec)

/-- 'homehublaw08.AddrFree', WHERE WHAT IT READS IS OF BULK AT MOST 1048576: true; the input reads as it did. -/
def addrFreeUptoRow : OpenClaim := { program := "ytgflklgjjpokaaa", sum := "5fbebc9d2a5e4f3cd5f71a79b5cf454a96e9e72c45c3003e7fe4d36a3f1ae893", func := "homehub/homehublaw08.AddrFree", spec := "addrFree", recurses := true, apart := false, narrowed := true }
def AddrFreeUptoSaid : Prop := addrFreeUptoRow.holds Try.pinned (OpenSpec.upto addrFreeSpec)

/-- 'homehublaw08.AddrOrder', WHERE WHAT IT READS IS OF BULK AT MOST 1048576: true; the input reads as it did. -/
def addrOrderUptoRow : OpenClaim := { program := "ytgflklgjjpokaaa", sum := "5fbebc9d2a5e4f3cd5f71a79b5cf454a96e9e72c45c3003e7fe4d36a3f1ae893", func := "homehub/homehublaw08.AddrOrder", spec := "addrOrder", recurses := true, apart := false, narrowed := true }
def AddrOrderUptoSaid : Prop := addrOrderUptoRow.holds Try.pinned (OpenSpec.upto addrOrderSpec)

end Rows
end Go.Proofs.Ytgflklgjjpokaaa
