/-
  No cell of these rows narrows 'for every input' (looked for: loops, veiled, ifaces, maps, wideKeys, modest, calm, conditions, laid).
  DERIVED. THE GIVEN ROWS OF THIS SEAT. 12 by the template 'for every input the law returns true; each argument reads behind the call as it read before'; 0 by the template 'total and deterministic' (their statements: YthcaipohdeigeaaTotals.lean).
  GIVEN WITH THE SEED: the statements are not yours to turn. If you find one false, say at which input.
  Laid BY PROGRAM, IN A SANDBOX (cutbox-rows.mjs): the forced cells as the released guide's own fill.sh prints them over the translation 7df422ab20a2a6cf… (all of the seat's roots in one cut). By AI agents, Wed Nov 11 2026. No macro, syntax, notation, axiom, sorry.
-/
import Derived.Test.YthcaipohdeigeaaChecked
import GoSem.Claim
import GoSem.ClaimJoined
import GoSem.ClaimMapViews
import Derived.JoinedTies
import Derived.KernelRfl
namespace Go.Proofs.Ythcaipohdeigeaa
/- THE CELL 'sum', in the pinned program and in every row, IS THE sha256 OF THE DUMP (.gsa) THAT YthcaipohdeigeaaProg.lean LOADS. Nothing in Lean hashes anything: it is a label: what it is worth is what the hold of that sum in a sandbox is worth. -/
noncomputable def Try.pinned : Pinned := { name := "ythcaipohdeigeaa", sum := "7df422ab20a2a6cf3ace5c1b53cc25dc8c0b7316062e5d94122a2ab4d714ab38", checked := Try.checked }
namespace Rows
def none {H : Type} : Left H := { results := [], args := [] }

/-- 'laws.FnExactCompareDevices': WHATEVER THE INPUT: true; the input reads as it did. -/
def fnExactCompareDevicesSpec : ChangeSpec := { name := "fnExactCompareDevices", fn := fun _ => fun
  | [d1, d2] => { results := [.lit (.bool true)], args := [d1, d2] }
  | _ => none }
def fnExactCompareDevicesRow : OpenClaim := { program := "ythcaipohdeigeaa", sum := "7df422ab20a2a6cf3ace5c1b53cc25dc8c0b7316062e5d94122a2ab4d714ab38", func := "loop.example/g00890/laws.FnExactCompareDevices", spec := "fnExactCompareDevices", apart := false }
def FnExactCompareDevicesSaid : Prop := fnExactCompareDevicesRow.holds Try.pinned (OpenSpec.ofChange fnExactCompareDevicesSpec)

/-- ITS FALSE NEIGHBOUR: 'it returns false'. Refute it at one input. -/
def fnExactCompareDevicesWrong : ChangeSpec := { name := "fnExactCompareDevices", fn := fun _ => fun
  | [d1, d2] => { results := [.lit (.bool false)], args := [d1, d2] }
  | _ => none }
def FnExactCompareDevicesWrongFalsely : Prop := fnExactCompareDevicesRow.holds Try.pinned (OpenSpec.ofChange fnExactCompareDevicesWrong)

/-- 'laws.FnExactNormalizeDevice': WHATEVER THE INPUT: true; the input reads as it did. -/
def fnExactNormalizeDeviceSpec : ChangeSpec := { name := "fnExactNormalizeDevice", fn := fun _ => fun
  | [d] => { results := [.lit (.bool true)], args := [d] }
  | _ => none }
def fnExactNormalizeDeviceRow : OpenClaim := { program := "ythcaipohdeigeaa", sum := "7df422ab20a2a6cf3ace5c1b53cc25dc8c0b7316062e5d94122a2ab4d714ab38", func := "loop.example/g00890/laws.FnExactNormalizeDevice", spec := "fnExactNormalizeDevice", apart := false }
def FnExactNormalizeDeviceSaid : Prop := fnExactNormalizeDeviceRow.holds Try.pinned (OpenSpec.ofChange fnExactNormalizeDeviceSpec)

/-- ITS FALSE NEIGHBOUR: 'it returns false'. Refute it at one input. -/
def fnExactNormalizeDeviceWrong : ChangeSpec := { name := "fnExactNormalizeDevice", fn := fun _ => fun
  | [d] => { results := [.lit (.bool false)], args := [d] }
  | _ => none }
def FnExactNormalizeDeviceWrongFalsely : Prop := fnExactNormalizeDeviceRow.holds Try.pinned (OpenSpec.ofChange fnExactNormalizeDeviceWrong)

/-- 'laws.FnExactIsValidNetlist': WHATEVER THE INPUT: true; the input reads as it did. -/
def fnExactIsValidNetlistSpec : ChangeSpec := { name := "fnExactIsValidNetlist", fn := fun _ => fun
  | [d] => { results := [.lit (.bool true)], args := [d] }
  | _ => none }
def fnExactIsValidNetlistRow : OpenClaim := { program := "ythcaipohdeigeaa", sum := "7df422ab20a2a6cf3ace5c1b53cc25dc8c0b7316062e5d94122a2ab4d714ab38", func := "loop.example/g00890/laws.FnExactIsValidNetlist", spec := "fnExactIsValidNetlist", unfollowed := true, recurses := true, apart := false }
def FnExactIsValidNetlistSaid : Prop := fnExactIsValidNetlistRow.holds Try.pinned (OpenSpec.ofChange fnExactIsValidNetlistSpec)

/-- ITS FALSE NEIGHBOUR: 'it returns false'. Refute it at one input. -/
def fnExactIsValidNetlistWrong : ChangeSpec := { name := "fnExactIsValidNetlist", fn := fun _ => fun
  | [d] => { results := [.lit (.bool false)], args := [d] }
  | _ => none }
def FnExactIsValidNetlistWrongFalsely : Prop := fnExactIsValidNetlistRow.holds Try.pinned (OpenSpec.ofChange fnExactIsValidNetlistWrong)

/-- 'laws.FnExactNetDegree': WHATEVER THE INPUT: true; the input reads as it did. -/
def fnExactNetDegreeSpec : ChangeSpec := { name := "fnExactNetDegree", fn := fun _ => fun
  | [d1, d2] => { results := [.lit (.bool true)], args := [d1, d2] }
  | _ => none }
def fnExactNetDegreeRow : OpenClaim := { program := "ythcaipohdeigeaa", sum := "7df422ab20a2a6cf3ace5c1b53cc25dc8c0b7316062e5d94122a2ab4d714ab38", func := "loop.example/g00890/laws.FnExactNetDegree", spec := "fnExactNetDegree", unfollowed := true, recurses := true, apart := false }
def FnExactNetDegreeSaid : Prop := fnExactNetDegreeRow.holds Try.pinned (OpenSpec.ofChange fnExactNetDegreeSpec)

/-- ITS FALSE NEIGHBOUR: 'it returns false'. Refute it at one input. -/
def fnExactNetDegreeWrong : ChangeSpec := { name := "fnExactNetDegree", fn := fun _ => fun
  | [d1, d2] => { results := [.lit (.bool false)], args := [d1, d2] }
  | _ => none }
def FnExactNetDegreeWrongFalsely : Prop := fnExactNetDegreeRow.holds Try.pinned (OpenSpec.ofChange fnExactNetDegreeWrong)

/-- 'laws.FnExactIsColoring': WHATEVER THE INPUT: true; the input reads as it did. -/
def fnExactIsColoringSpec : ChangeSpec := { name := "fnExactIsColoring", fn := fun _ => fun
  | [d1, d2] => { results := [.lit (.bool true)], args := [d1, d2] }
  | _ => none }
def fnExactIsColoringRow : OpenClaim := { program := "ythcaipohdeigeaa", sum := "7df422ab20a2a6cf3ace5c1b53cc25dc8c0b7316062e5d94122a2ab4d714ab38", func := "loop.example/g00890/laws.FnExactIsColoring", spec := "fnExactIsColoring", unfollowed := true, recurses := true, apart := false }
def FnExactIsColoringSaid : Prop := fnExactIsColoringRow.holds Try.pinned (OpenSpec.ofChange fnExactIsColoringSpec)

/-- ITS FALSE NEIGHBOUR: 'it returns false'. Refute it at one input. -/
def fnExactIsColoringWrong : ChangeSpec := { name := "fnExactIsColoring", fn := fun _ => fun
  | [d1, d2] => { results := [.lit (.bool false)], args := [d1, d2] }
  | _ => none }
def FnExactIsColoringWrongFalsely : Prop := fnExactIsColoringRow.holds Try.pinned (OpenSpec.ofChange fnExactIsColoringWrong)

/-- 'laws.FnExactDeviceSignature': WHATEVER THE INPUT: true; the input reads as it did. -/
def fnExactDeviceSignatureSpec : ChangeSpec := { name := "fnExactDeviceSignature", fn := fun _ => fun
  | [d1, d2, d3] => { results := [.lit (.bool true)], args := [d1, d2, d3] }
  | _ => none }
def fnExactDeviceSignatureRow : OpenClaim := { program := "ythcaipohdeigeaa", sum := "7df422ab20a2a6cf3ace5c1b53cc25dc8c0b7316062e5d94122a2ab4d714ab38", func := "loop.example/g00890/laws.FnExactDeviceSignature", spec := "fnExactDeviceSignature", unfollowed := true, recurses := true, apart := false }
def FnExactDeviceSignatureSaid : Prop := fnExactDeviceSignatureRow.holds Try.pinned (OpenSpec.ofChange fnExactDeviceSignatureSpec)

/-- ITS FALSE NEIGHBOUR: 'it returns false'. Refute it at one input. -/
def fnExactDeviceSignatureWrong : ChangeSpec := { name := "fnExactDeviceSignature", fn := fun _ => fun
  | [d1, d2, d3] => { results := [.lit (.bool false)], args := [d1, d2, d3] }
  | _ => none }
def FnExactDeviceSignatureWrongFalsely : Prop := fnExactDeviceSignatureRow.holds Try.pinned (OpenSpec.ofChange fnExactDeviceSignatureWrong)

/-- 'laws.FnExactParallelPair': WHATEVER THE INPUT: true; the input reads as it did. -/
def fnExactParallelPairSpec : ChangeSpec := { name := "fnExactParallelPair", fn := fun _ => fun
  | [d] => { results := [.lit (.bool true)], args := [d] }
  | _ => none }
def fnExactParallelPairRow : OpenClaim := { program := "ythcaipohdeigeaa", sum := "7df422ab20a2a6cf3ace5c1b53cc25dc8c0b7316062e5d94122a2ab4d714ab38", func := "loop.example/g00890/laws.FnExactParallelPair", spec := "fnExactParallelPair", unfollowed := true, recurses := true, apart := false }
def FnExactParallelPairSaid : Prop := fnExactParallelPairRow.holds Try.pinned (OpenSpec.ofChange fnExactParallelPairSpec)

/-- ITS FALSE NEIGHBOUR: 'it returns false'. Refute it at one input. -/
def fnExactParallelPairWrong : ChangeSpec := { name := "fnExactParallelPair", fn := fun _ => fun
  | [d] => { results := [.lit (.bool false)], args := [d] }
  | _ => none }
def FnExactParallelPairWrongFalsely : Prop := fnExactParallelPairRow.holds Try.pinned (OpenSpec.ofChange fnExactParallelPairWrong)

/-- 'laws.FnExactRemoveShorted': WHATEVER THE INPUT: true; the input reads as it did. -/
def fnExactRemoveShortedSpec : ChangeSpec := { name := "fnExactRemoveShorted", fn := fun _ => fun
  | [d] => { results := [.lit (.bool true)], args := [d] }
  | _ => none }
def fnExactRemoveShortedRow : OpenClaim := { program := "ythcaipohdeigeaa", sum := "7df422ab20a2a6cf3ace5c1b53cc25dc8c0b7316062e5d94122a2ab4d714ab38", func := "loop.example/g00890/laws.FnExactRemoveShorted", spec := "fnExactRemoveShorted", unfollowed := true, recurses := true, apart := false }
def FnExactRemoveShortedSaid : Prop := fnExactRemoveShortedRow.holds Try.pinned (OpenSpec.ofChange fnExactRemoveShortedSpec)

/-- ITS FALSE NEIGHBOUR: 'it returns false'. Refute it at one input. -/
def fnExactRemoveShortedWrong : ChangeSpec := { name := "fnExactRemoveShorted", fn := fun _ => fun
  | [d] => { results := [.lit (.bool false)], args := [d] }
  | _ => none }
def FnExactRemoveShortedWrongFalsely : Prop := fnExactRemoveShortedRow.holds Try.pinned (OpenSpec.ofChange fnExactRemoveShortedWrong)

/-- 'laws.FnExactSeriesPair': WHATEVER THE INPUT: true; the input reads as it did. -/
def fnExactSeriesPairSpec : ChangeSpec := { name := "fnExactSeriesPair", fn := fun _ => fun
  | [d] => { results := [.lit (.bool true)], args := [d] }
  | _ => none }
def fnExactSeriesPairRow : OpenClaim := { program := "ythcaipohdeigeaa", sum := "7df422ab20a2a6cf3ace5c1b53cc25dc8c0b7316062e5d94122a2ab4d714ab38", func := "loop.example/g00890/laws.FnExactSeriesPair", spec := "fnExactSeriesPair", unfollowed := true, recurses := true, apart := false }
def FnExactSeriesPairSaid : Prop := fnExactSeriesPairRow.holds Try.pinned (OpenSpec.ofChange fnExactSeriesPairSpec)

/-- ITS FALSE NEIGHBOUR: 'it returns false'. Refute it at one input. -/
def fnExactSeriesPairWrong : ChangeSpec := { name := "fnExactSeriesPair", fn := fun _ => fun
  | [d] => { results := [.lit (.bool false)], args := [d] }
  | _ => none }
def FnExactSeriesPairWrongFalsely : Prop := fnExactSeriesPairRow.holds Try.pinned (OpenSpec.ofChange fnExactSeriesPairWrong)

/-- 'laws.FnExactIsReduced': WHATEVER THE INPUT: true; the input reads as it did. -/
def fnExactIsReducedSpec : ChangeSpec := { name := "fnExactIsReduced", fn := fun _ => fun
  | [d] => { results := [.lit (.bool true)], args := [d] }
  | _ => none }
def fnExactIsReducedRow : OpenClaim := { program := "ythcaipohdeigeaa", sum := "7df422ab20a2a6cf3ace5c1b53cc25dc8c0b7316062e5d94122a2ab4d714ab38", func := "loop.example/g00890/laws.FnExactIsReduced", spec := "fnExactIsReduced", unfollowed := true, recurses := true, apart := false }
def FnExactIsReducedSaid : Prop := fnExactIsReducedRow.holds Try.pinned (OpenSpec.ofChange fnExactIsReducedSpec)

/-- ITS FALSE NEIGHBOUR: 'it returns false'. Refute it at one input. -/
def fnExactIsReducedWrong : ChangeSpec := { name := "fnExactIsReduced", fn := fun _ => fun
  | [d] => { results := [.lit (.bool false)], args := [d] }
  | _ => none }
def FnExactIsReducedWrongFalsely : Prop := fnExactIsReducedRow.holds Try.pinned (OpenSpec.ofChange fnExactIsReducedWrong)

/-- 'laws.FnExactCompactNets': WHATEVER THE INPUT: true; the input reads as it did. -/
def fnExactCompactNetsSpec : ChangeSpec := { name := "fnExactCompactNets", fn := fun _ => fun
  | [d] => { results := [.lit (.bool true)], args := [d] }
  | _ => none }
def fnExactCompactNetsRow : OpenClaim := { program := "ythcaipohdeigeaa", sum := "7df422ab20a2a6cf3ace5c1b53cc25dc8c0b7316062e5d94122a2ab4d714ab38", func := "loop.example/g00890/laws.FnExactCompactNets", spec := "fnExactCompactNets", unfollowed := true, recurses := true, apart := false }
def FnExactCompactNetsSaid : Prop := fnExactCompactNetsRow.holds Try.pinned (OpenSpec.ofChange fnExactCompactNetsSpec)

/-- ITS FALSE NEIGHBOUR: 'it returns false'. Refute it at one input. -/
def fnExactCompactNetsWrong : ChangeSpec := { name := "fnExactCompactNets", fn := fun _ => fun
  | [d] => { results := [.lit (.bool false)], args := [d] }
  | _ => none }
def FnExactCompactNetsWrongFalsely : Prop := fnExactCompactNetsRow.holds Try.pinned (OpenSpec.ofChange fnExactCompactNetsWrong)

/-- 'laws.FnExactSortDevices': WHATEVER THE INPUT: true; the input reads as it did. -/
def fnExactSortDevicesSpec : ChangeSpec := { name := "fnExactSortDevices", fn := fun _ => fun
  | [d] => { results := [.lit (.bool true)], args := [d] }
  | _ => none }
def fnExactSortDevicesRow : OpenClaim := { program := "ythcaipohdeigeaa", sum := "7df422ab20a2a6cf3ace5c1b53cc25dc8c0b7316062e5d94122a2ab4d714ab38", func := "loop.example/g00890/laws.FnExactSortDevices", spec := "fnExactSortDevices", unfollowed := true, recurses := true, apart := false }
def FnExactSortDevicesSaid : Prop := fnExactSortDevicesRow.holds Try.pinned (OpenSpec.ofChange fnExactSortDevicesSpec)

/-- ITS FALSE NEIGHBOUR: 'it returns false'. Refute it at one input. -/
def fnExactSortDevicesWrong : ChangeSpec := { name := "fnExactSortDevices", fn := fun _ => fun
  | [d] => { results := [.lit (.bool false)], args := [d] }
  | _ => none }
def FnExactSortDevicesWrongFalsely : Prop := fnExactSortDevicesRow.holds Try.pinned (OpenSpec.ofChange fnExactSortDevicesWrong)

/- THE SECOND FORM. 'bulk': how many values and letters a reading holds, each counted each time it is reached (what is shared counts as often as it is met; a slice's spare places count too). A statement '..UptoSaid' is the law's where the arguments, and the package variables that the reading takes, are together of bulk at most 1048576: NARROWER than '..Said'. Prove '..Said' where nothing that the law and all that it calls make is longer than what came in: it says more and counts as full. Else prove '..UptoSaid'. A law counts once. -/
mutual
def uptoBulk {H : Type} : DataW H → Nat
  | .lit (.string bytes) => bytes.length + 1
  | .lit _ => 1
  | .nil => 1
  | .ptr d => uptoBulk d + 1
  | .slice elems spare => uptoBulkAll elems + uptoBulkAll spare + 1
  | .agg parts => uptoBulkAll parts + 1
  | .iface _ d => uptoBulk d + 1
  | .map entries => uptoBulkEntries entries + 1
  | .held _ => 1
def uptoBulkAll {H : Type} : List (DataW H) → Nat
  | [] => 0
  | d :: r => uptoBulk d + uptoBulkAll r
def uptoBulkEntries {H : Type} : List (Lit × DataW H) → Nat
  | [] => 0
  | x :: r => uptoBulkEntry x + uptoBulkEntries r
def uptoBulkEntry {H : Type} : Lit × DataW H → Nat
  | (.string bytes, d) => bytes.length + uptoBulk d + 1
  | (_, d) => uptoBulk d + 1
 end
def uptoSmall : (H : Type) → List (DataW H) → Bool := fun _ ds => decide (uptoBulkAll ds ≤ 1048576)
def OpenSpec.upto (s : _root_.Go.ChangeSpec) : _root_.Go.OpenSpec := { _root_.Go.OpenSpec.ofChange s with cond := some uptoSmall }

/-- 'laws.FnExactCompareDevices', WHERE WHAT IT READS IS OF BULK AT MOST 1048576: true; the input reads as it did. -/
def fnExactCompareDevicesUptoRow : OpenClaim := { program := "ythcaipohdeigeaa", sum := "7df422ab20a2a6cf3ace5c1b53cc25dc8c0b7316062e5d94122a2ab4d714ab38", func := "loop.example/g00890/laws.FnExactCompareDevices", spec := "fnExactCompareDevices", apart := false, narrowed := true }
def FnExactCompareDevicesUptoSaid : Prop := fnExactCompareDevicesUptoRow.holds Try.pinned (OpenSpec.upto fnExactCompareDevicesSpec)

/-- 'laws.FnExactNormalizeDevice', WHERE WHAT IT READS IS OF BULK AT MOST 1048576: true; the input reads as it did. -/
def fnExactNormalizeDeviceUptoRow : OpenClaim := { program := "ythcaipohdeigeaa", sum := "7df422ab20a2a6cf3ace5c1b53cc25dc8c0b7316062e5d94122a2ab4d714ab38", func := "loop.example/g00890/laws.FnExactNormalizeDevice", spec := "fnExactNormalizeDevice", apart := false, narrowed := true }
def FnExactNormalizeDeviceUptoSaid : Prop := fnExactNormalizeDeviceUptoRow.holds Try.pinned (OpenSpec.upto fnExactNormalizeDeviceSpec)

/-- 'laws.FnExactIsValidNetlist', WHERE WHAT IT READS IS OF BULK AT MOST 1048576: true; the input reads as it did. -/
def fnExactIsValidNetlistUptoRow : OpenClaim := { program := "ythcaipohdeigeaa", sum := "7df422ab20a2a6cf3ace5c1b53cc25dc8c0b7316062e5d94122a2ab4d714ab38", func := "loop.example/g00890/laws.FnExactIsValidNetlist", spec := "fnExactIsValidNetlist", unfollowed := true, recurses := true, apart := false, narrowed := true }
def FnExactIsValidNetlistUptoSaid : Prop := fnExactIsValidNetlistUptoRow.holds Try.pinned (OpenSpec.upto fnExactIsValidNetlistSpec)

/-- 'laws.FnExactNetDegree', WHERE WHAT IT READS IS OF BULK AT MOST 1048576: true; the input reads as it did. -/
def fnExactNetDegreeUptoRow : OpenClaim := { program := "ythcaipohdeigeaa", sum := "7df422ab20a2a6cf3ace5c1b53cc25dc8c0b7316062e5d94122a2ab4d714ab38", func := "loop.example/g00890/laws.FnExactNetDegree", spec := "fnExactNetDegree", unfollowed := true, recurses := true, apart := false, narrowed := true }
def FnExactNetDegreeUptoSaid : Prop := fnExactNetDegreeUptoRow.holds Try.pinned (OpenSpec.upto fnExactNetDegreeSpec)

/-- 'laws.FnExactIsColoring', WHERE WHAT IT READS IS OF BULK AT MOST 1048576: true; the input reads as it did. -/
def fnExactIsColoringUptoRow : OpenClaim := { program := "ythcaipohdeigeaa", sum := "7df422ab20a2a6cf3ace5c1b53cc25dc8c0b7316062e5d94122a2ab4d714ab38", func := "loop.example/g00890/laws.FnExactIsColoring", spec := "fnExactIsColoring", unfollowed := true, recurses := true, apart := false, narrowed := true }
def FnExactIsColoringUptoSaid : Prop := fnExactIsColoringUptoRow.holds Try.pinned (OpenSpec.upto fnExactIsColoringSpec)

/-- 'laws.FnExactDeviceSignature', WHERE WHAT IT READS IS OF BULK AT MOST 1048576: true; the input reads as it did. -/
def fnExactDeviceSignatureUptoRow : OpenClaim := { program := "ythcaipohdeigeaa", sum := "7df422ab20a2a6cf3ace5c1b53cc25dc8c0b7316062e5d94122a2ab4d714ab38", func := "loop.example/g00890/laws.FnExactDeviceSignature", spec := "fnExactDeviceSignature", unfollowed := true, recurses := true, apart := false, narrowed := true }
def FnExactDeviceSignatureUptoSaid : Prop := fnExactDeviceSignatureUptoRow.holds Try.pinned (OpenSpec.upto fnExactDeviceSignatureSpec)

/-- 'laws.FnExactParallelPair', WHERE WHAT IT READS IS OF BULK AT MOST 1048576: true; the input reads as it did. -/
def fnExactParallelPairUptoRow : OpenClaim := { program := "ythcaipohdeigeaa", sum := "7df422ab20a2a6cf3ace5c1b53cc25dc8c0b7316062e5d94122a2ab4d714ab38", func := "loop.example/g00890/laws.FnExactParallelPair", spec := "fnExactParallelPair", unfollowed := true, recurses := true, apart := false, narrowed := true }
def FnExactParallelPairUptoSaid : Prop := fnExactParallelPairUptoRow.holds Try.pinned (OpenSpec.upto fnExactParallelPairSpec)

/-- 'laws.FnExactRemoveShorted', WHERE WHAT IT READS IS OF BULK AT MOST 1048576: true; the input reads as it did. -/
def fnExactRemoveShortedUptoRow : OpenClaim := { program := "ythcaipohdeigeaa", sum := "7df422ab20a2a6cf3ace5c1b53cc25dc8c0b7316062e5d94122a2ab4d714ab38", func := "loop.example/g00890/laws.FnExactRemoveShorted", spec := "fnExactRemoveShorted", unfollowed := true, recurses := true, apart := false, narrowed := true }
def FnExactRemoveShortedUptoSaid : Prop := fnExactRemoveShortedUptoRow.holds Try.pinned (OpenSpec.upto fnExactRemoveShortedSpec)

/-- 'laws.FnExactSeriesPair', WHERE WHAT IT READS IS OF BULK AT MOST 1048576: true; the input reads as it did. -/
def fnExactSeriesPairUptoRow : OpenClaim := { program := "ythcaipohdeigeaa", sum := "7df422ab20a2a6cf3ace5c1b53cc25dc8c0b7316062e5d94122a2ab4d714ab38", func := "loop.example/g00890/laws.FnExactSeriesPair", spec := "fnExactSeriesPair", unfollowed := true, recurses := true, apart := false, narrowed := true }
def FnExactSeriesPairUptoSaid : Prop := fnExactSeriesPairUptoRow.holds Try.pinned (OpenSpec.upto fnExactSeriesPairSpec)

/-- 'laws.FnExactIsReduced', WHERE WHAT IT READS IS OF BULK AT MOST 1048576: true; the input reads as it did. -/
def fnExactIsReducedUptoRow : OpenClaim := { program := "ythcaipohdeigeaa", sum := "7df422ab20a2a6cf3ace5c1b53cc25dc8c0b7316062e5d94122a2ab4d714ab38", func := "loop.example/g00890/laws.FnExactIsReduced", spec := "fnExactIsReduced", unfollowed := true, recurses := true, apart := false, narrowed := true }
def FnExactIsReducedUptoSaid : Prop := fnExactIsReducedUptoRow.holds Try.pinned (OpenSpec.upto fnExactIsReducedSpec)

/-- 'laws.FnExactCompactNets', WHERE WHAT IT READS IS OF BULK AT MOST 1048576: true; the input reads as it did. -/
def fnExactCompactNetsUptoRow : OpenClaim := { program := "ythcaipohdeigeaa", sum := "7df422ab20a2a6cf3ace5c1b53cc25dc8c0b7316062e5d94122a2ab4d714ab38", func := "loop.example/g00890/laws.FnExactCompactNets", spec := "fnExactCompactNets", unfollowed := true, recurses := true, apart := false, narrowed := true }
def FnExactCompactNetsUptoSaid : Prop := fnExactCompactNetsUptoRow.holds Try.pinned (OpenSpec.upto fnExactCompactNetsSpec)

/-- 'laws.FnExactSortDevices', WHERE WHAT IT READS IS OF BULK AT MOST 1048576: true; the input reads as it did. -/
def fnExactSortDevicesUptoRow : OpenClaim := { program := "ythcaipohdeigeaa", sum := "7df422ab20a2a6cf3ace5c1b53cc25dc8c0b7316062e5d94122a2ab4d714ab38", func := "loop.example/g00890/laws.FnExactSortDevices", spec := "fnExactSortDevices", unfollowed := true, recurses := true, apart := false, narrowed := true }
def FnExactSortDevicesUptoSaid : Prop := fnExactSortDevicesUptoRow.holds Try.pinned (OpenSpec.upto fnExactSortDevicesSpec)

end Rows
end Go.Proofs.Ythcaipohdeigeaa
