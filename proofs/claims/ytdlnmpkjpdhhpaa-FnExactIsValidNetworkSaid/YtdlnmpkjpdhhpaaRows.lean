/-
  No cell of these rows narrows 'for every input' (looked for: loops, veiled, ifaces, maps, wideKeys, modest, calm, conditions, laid).
  DERIVED. THE GIVEN ROWS OF THIS SEAT. 12 by the template 'for every input the law returns true; each argument reads behind the call as it read before'; 0 by the template 'total and deterministic' (their statements: YtdlnmpkjpdhhpaaTotals.lean).
  GIVEN WITH THE SEED: the statements are not yours to turn. If you find one false, say at which input.
  Laid BY PROGRAM, IN A SANDBOX (cutbox-rows.mjs): the forced cells as the released guide's own fill.sh prints them over the translation c561dc480108108a… (all of the seat's roots in one cut). By AI agents, Wed Nov 11 2026. No macro, syntax, notation, axiom, sorry.
-/
import Derived.Test.YtdlnmpkjpdhhpaaChecked
import GoSem.Claim
import GoSem.ClaimJoined
import GoSem.ClaimMapViews
import Derived.JoinedTies
import Derived.KernelRfl
namespace Go.Proofs.Ytdlnmpkjpdhhpaa
/- THE CELL 'sum', in the pinned program and in every row, IS THE sha256 OF THE DUMP (.gsa) THAT YtdlnmpkjpdhhpaaProg.lean LOADS. Nothing in Lean hashes anything: it is a label: what it is worth is what the hold of that sum in a sandbox is worth. -/
noncomputable def Try.pinned : Pinned := { name := "ytdlnmpkjpdhhpaa", sum := "c561dc480108108acd9841cef470e14a385b135ae9a435c69a64afbeda9d0ff1", checked := Try.checked }
namespace Rows
def none {H : Type} : Left H := { results := [], args := [] }

/-- 'laws.FnExactMakeRatio': WHATEVER THE INPUT: true; the input reads as it did. -/
def fnExactMakeRatioSpec : ChangeSpec := { name := "fnExactMakeRatio", fn := fun _ => fun
  | [d1, d2] => { results := [.lit (.bool true)], args := [d1, d2] }
  | _ => none }
def fnExactMakeRatioRow : OpenClaim := { program := "ytdlnmpkjpdhhpaa", sum := "c561dc480108108acd9841cef470e14a385b135ae9a435c69a64afbeda9d0ff1", func := "loop.example/g00890/laws.FnExactMakeRatio", spec := "fnExactMakeRatio", apart := false }
def FnExactMakeRatioSaid : Prop := fnExactMakeRatioRow.holds Try.pinned (OpenSpec.ofChange fnExactMakeRatioSpec)

/-- ITS FALSE NEIGHBOUR: 'it returns false'. Refute it at one input. -/
def fnExactMakeRatioWrong : ChangeSpec := { name := "fnExactMakeRatio", fn := fun _ => fun
  | [d1, d2] => { results := [.lit (.bool false)], args := [d1, d2] }
  | _ => none }
def FnExactMakeRatioWrongFalsely : Prop := fnExactMakeRatioRow.holds Try.pinned (OpenSpec.ofChange fnExactMakeRatioWrong)

/-- 'laws.FnRatios': WHATEVER THE INPUT: true; the input reads as it did. -/
def fnRatiosSpec : ChangeSpec := { name := "fnRatios", fn := fun _ => fun
  | [d] => { results := [.lit (.bool true)], args := [d] }
  | _ => none }
def fnRatiosRow : OpenClaim := { program := "ytdlnmpkjpdhhpaa", sum := "c561dc480108108acd9841cef470e14a385b135ae9a435c69a64afbeda9d0ff1", func := "loop.example/g00890/laws.FnRatios", spec := "fnRatios", apart := false }
def FnRatiosSaid : Prop := fnRatiosRow.holds Try.pinned (OpenSpec.ofChange fnRatiosSpec)

/-- ITS FALSE NEIGHBOUR: 'it returns false'. Refute it at one input. -/
def fnRatiosWrong : ChangeSpec := { name := "fnRatios", fn := fun _ => fun
  | [d] => { results := [.lit (.bool false)], args := [d] }
  | _ => none }
def FnRatiosWrongFalsely : Prop := fnRatiosRow.holds Try.pinned (OpenSpec.ofChange fnRatiosWrong)

/-- 'laws.FnExactSquares': WHATEVER THE INPUT: true; the input reads as it did. -/
def fnExactSquaresSpec : ChangeSpec := { name := "fnExactSquares", fn := fun _ => fun
  | [d1, d2] => { results := [.lit (.bool true)], args := [d1, d2] }
  | _ => none }
def fnExactSquaresRow : OpenClaim := { program := "ytdlnmpkjpdhhpaa", sum := "c561dc480108108acd9841cef470e14a385b135ae9a435c69a64afbeda9d0ff1", func := "loop.example/g00890/laws.FnExactSquares", spec := "fnExactSquares", apart := false }
def FnExactSquaresSaid : Prop := fnExactSquaresRow.holds Try.pinned (OpenSpec.ofChange fnExactSquaresSpec)

/-- ITS FALSE NEIGHBOUR: 'it returns false'. Refute it at one input. -/
def fnExactSquaresWrong : ChangeSpec := { name := "fnExactSquares", fn := fun _ => fun
  | [d1, d2] => { results := [.lit (.bool false)], args := [d1, d2] }
  | _ => none }
def FnExactSquaresWrongFalsely : Prop := fnExactSquaresRow.holds Try.pinned (OpenSpec.ofChange fnExactSquaresWrong)

/-- 'laws.FnExactAddRatios': WHATEVER THE INPUT: true; the input reads as it did. -/
def fnExactAddRatiosSpec : ChangeSpec := { name := "fnExactAddRatios", fn := fun _ => fun
  | [d1, d2] => { results := [.lit (.bool true)], args := [d1, d2] }
  | _ => none }
def fnExactAddRatiosRow : OpenClaim := { program := "ytdlnmpkjpdhhpaa", sum := "c561dc480108108acd9841cef470e14a385b135ae9a435c69a64afbeda9d0ff1", func := "loop.example/g00890/laws.FnExactAddRatios", spec := "fnExactAddRatios", apart := false }
def FnExactAddRatiosSaid : Prop := fnExactAddRatiosRow.holds Try.pinned (OpenSpec.ofChange fnExactAddRatiosSpec)

/-- ITS FALSE NEIGHBOUR: 'it returns false'. Refute it at one input. -/
def fnExactAddRatiosWrong : ChangeSpec := { name := "fnExactAddRatios", fn := fun _ => fun
  | [d1, d2] => { results := [.lit (.bool false)], args := [d1, d2] }
  | _ => none }
def FnExactAddRatiosWrongFalsely : Prop := fnExactAddRatiosRow.holds Try.pinned (OpenSpec.ofChange fnExactAddRatiosWrong)

/-- 'laws.FnExactMultiplyRatios': WHATEVER THE INPUT: true; the input reads as it did. -/
def fnExactMultiplyRatiosSpec : ChangeSpec := { name := "fnExactMultiplyRatios", fn := fun _ => fun
  | [d1, d2] => { results := [.lit (.bool true)], args := [d1, d2] }
  | _ => none }
def fnExactMultiplyRatiosRow : OpenClaim := { program := "ytdlnmpkjpdhhpaa", sum := "c561dc480108108acd9841cef470e14a385b135ae9a435c69a64afbeda9d0ff1", func := "loop.example/g00890/laws.FnExactMultiplyRatios", spec := "fnExactMultiplyRatios", apart := false }
def FnExactMultiplyRatiosSaid : Prop := fnExactMultiplyRatiosRow.holds Try.pinned (OpenSpec.ofChange fnExactMultiplyRatiosSpec)

/-- ITS FALSE NEIGHBOUR: 'it returns false'. Refute it at one input. -/
def fnExactMultiplyRatiosWrong : ChangeSpec := { name := "fnExactMultiplyRatios", fn := fun _ => fun
  | [d1, d2] => { results := [.lit (.bool false)], args := [d1, d2] }
  | _ => none }
def FnExactMultiplyRatiosWrongFalsely : Prop := fnExactMultiplyRatiosRow.holds Try.pinned (OpenSpec.ofChange fnExactMultiplyRatiosWrong)

/-- 'laws.FnExactIsValidNetwork': WHATEVER THE INPUT: true; the input reads as it did. -/
def fnExactIsValidNetworkSpec : ChangeSpec := { name := "fnExactIsValidNetwork", fn := fun _ => fun
  | [d] => { results := [.lit (.bool true)], args := [d] }
  | _ => none }
def fnExactIsValidNetworkRow : OpenClaim := { program := "ytdlnmpkjpdhhpaa", sum := "c561dc480108108acd9841cef470e14a385b135ae9a435c69a64afbeda9d0ff1", func := "loop.example/g00890/laws.FnExactIsValidNetwork", spec := "fnExactIsValidNetwork", apart := false }
def FnExactIsValidNetworkSaid : Prop := fnExactIsValidNetworkRow.holds Try.pinned (OpenSpec.ofChange fnExactIsValidNetworkSpec)

/-- ITS FALSE NEIGHBOUR: 'it returns false'. Refute it at one input. -/
def fnExactIsValidNetworkWrong : ChangeSpec := { name := "fnExactIsValidNetwork", fn := fun _ => fun
  | [d] => { results := [.lit (.bool false)], args := [d] }
  | _ => none }
def FnExactIsValidNetworkWrongFalsely : Prop := fnExactIsValidNetworkRow.holds Try.pinned (OpenSpec.ofChange fnExactIsValidNetworkWrong)

/-- 'laws.FnResistance': WHATEVER THE INPUT: true; the input reads as it did. -/
def fnResistanceSpec : ChangeSpec := { name := "fnResistance", fn := fun _ => fun
  | [d] => { results := [.lit (.bool true)], args := [d] }
  | _ => none }
def fnResistanceRow : OpenClaim := { program := "ytdlnmpkjpdhhpaa", sum := "c561dc480108108acd9841cef470e14a385b135ae9a435c69a64afbeda9d0ff1", func := "loop.example/g00890/laws.FnResistance", spec := "fnResistance", apart := false }
def FnResistanceSaid : Prop := fnResistanceRow.holds Try.pinned (OpenSpec.ofChange fnResistanceSpec)

/-- ITS FALSE NEIGHBOUR: 'it returns false'. Refute it at one input. -/
def fnResistanceWrong : ChangeSpec := { name := "fnResistance", fn := fun _ => fun
  | [d] => { results := [.lit (.bool false)], args := [d] }
  | _ => none }
def FnResistanceWrongFalsely : Prop := fnResistanceRow.holds Try.pinned (OpenSpec.ofChange fnResistanceWrong)

/-- 'laws.FnKirchhoff': WHATEVER THE INPUT: true; the input reads as it did. -/
def fnKirchhoffSpec : ChangeSpec := { name := "fnKirchhoff", fn := fun _ => fun
  | [d] => { results := [.lit (.bool true)], args := [d] }
  | _ => none }
def fnKirchhoffRow : OpenClaim := { program := "ytdlnmpkjpdhhpaa", sum := "c561dc480108108acd9841cef470e14a385b135ae9a435c69a64afbeda9d0ff1", func := "loop.example/g00890/laws.FnKirchhoff", spec := "fnKirchhoff", apart := false }
def FnKirchhoffSaid : Prop := fnKirchhoffRow.holds Try.pinned (OpenSpec.ofChange fnKirchhoffSpec)

/-- ITS FALSE NEIGHBOUR: 'it returns false'. Refute it at one input. -/
def fnKirchhoffWrong : ChangeSpec := { name := "fnKirchhoff", fn := fun _ => fun
  | [d] => { results := [.lit (.bool false)], args := [d] }
  | _ => none }
def FnKirchhoffWrongFalsely : Prop := fnKirchhoffRow.holds Try.pinned (OpenSpec.ofChange fnKirchhoffWrong)

/-- 'laws.FnExactEffectiveResistance': WHATEVER THE INPUT: true; the input reads as it did. -/
def fnExactEffectiveResistanceSpec : ChangeSpec := { name := "fnExactEffectiveResistance", fn := fun _ => fun
  | [d1, d2, d3] => { results := [.lit (.bool true)], args := [d1, d2, d3] }
  | _ => none }
def fnExactEffectiveResistanceRow : OpenClaim := { program := "ytdlnmpkjpdhhpaa", sum := "c561dc480108108acd9841cef470e14a385b135ae9a435c69a64afbeda9d0ff1", func := "loop.example/g00890/laws.FnExactEffectiveResistance", spec := "fnExactEffectiveResistance", apart := false }
def FnExactEffectiveResistanceSaid : Prop := fnExactEffectiveResistanceRow.holds Try.pinned (OpenSpec.ofChange fnExactEffectiveResistanceSpec)

/-- ITS FALSE NEIGHBOUR: 'it returns false'. Refute it at one input. -/
def fnExactEffectiveResistanceWrong : ChangeSpec := { name := "fnExactEffectiveResistance", fn := fun _ => fun
  | [d1, d2, d3] => { results := [.lit (.bool false)], args := [d1, d2, d3] }
  | _ => none }
def FnExactEffectiveResistanceWrongFalsely : Prop := fnExactEffectiveResistanceRow.holds Try.pinned (OpenSpec.ofChange fnExactEffectiveResistanceWrong)

/-- 'laws.FnMoreResistors': WHATEVER THE INPUT: true; the input reads as it did. -/
def fnMoreResistorsSpec : ChangeSpec := { name := "fnMoreResistors", fn := fun _ => fun
  | [d] => { results := [.lit (.bool true)], args := [d] }
  | _ => none }
def fnMoreResistorsRow : OpenClaim := { program := "ytdlnmpkjpdhhpaa", sum := "c561dc480108108acd9841cef470e14a385b135ae9a435c69a64afbeda9d0ff1", func := "loop.example/g00890/laws.FnMoreResistors", spec := "fnMoreResistors", apart := false }
def FnMoreResistorsSaid : Prop := fnMoreResistorsRow.holds Try.pinned (OpenSpec.ofChange fnMoreResistorsSpec)

/-- ITS FALSE NEIGHBOUR: 'it returns false'. Refute it at one input. -/
def fnMoreResistorsWrong : ChangeSpec := { name := "fnMoreResistors", fn := fun _ => fun
  | [d] => { results := [.lit (.bool false)], args := [d] }
  | _ => none }
def FnMoreResistorsWrongFalsely : Prop := fnMoreResistorsRow.holds Try.pinned (OpenSpec.ofChange fnMoreResistorsWrong)

/-- 'laws.FnExactNodePotentials': WHATEVER THE INPUT: true; the input reads as it did. -/
def fnExactNodePotentialsSpec : ChangeSpec := { name := "fnExactNodePotentials", fn := fun _ => fun
  | [d1, d2, d3] => { results := [.lit (.bool true)], args := [d1, d2, d3] }
  | _ => none }
def fnExactNodePotentialsRow : OpenClaim := { program := "ytdlnmpkjpdhhpaa", sum := "c561dc480108108acd9841cef470e14a385b135ae9a435c69a64afbeda9d0ff1", func := "loop.example/g00890/laws.FnExactNodePotentials", spec := "fnExactNodePotentials", apart := false }
def FnExactNodePotentialsSaid : Prop := fnExactNodePotentialsRow.holds Try.pinned (OpenSpec.ofChange fnExactNodePotentialsSpec)

/-- ITS FALSE NEIGHBOUR: 'it returns false'. Refute it at one input. -/
def fnExactNodePotentialsWrong : ChangeSpec := { name := "fnExactNodePotentials", fn := fun _ => fun
  | [d1, d2, d3] => { results := [.lit (.bool false)], args := [d1, d2, d3] }
  | _ => none }
def FnExactNodePotentialsWrongFalsely : Prop := fnExactNodePotentialsRow.holds Try.pinned (OpenSpec.ofChange fnExactNodePotentialsWrong)

/-- 'laws.FnExactResistorCurrents': WHATEVER THE INPUT: true; the input reads as it did. -/
def fnExactResistorCurrentsSpec : ChangeSpec := { name := "fnExactResistorCurrents", fn := fun _ => fun
  | [d1, d2, d3] => { results := [.lit (.bool true)], args := [d1, d2, d3] }
  | _ => none }
def fnExactResistorCurrentsRow : OpenClaim := { program := "ytdlnmpkjpdhhpaa", sum := "c561dc480108108acd9841cef470e14a385b135ae9a435c69a64afbeda9d0ff1", func := "loop.example/g00890/laws.FnExactResistorCurrents", spec := "fnExactResistorCurrents", apart := false }
def FnExactResistorCurrentsSaid : Prop := fnExactResistorCurrentsRow.holds Try.pinned (OpenSpec.ofChange fnExactResistorCurrentsSpec)

/-- ITS FALSE NEIGHBOUR: 'it returns false'. Refute it at one input. -/
def fnExactResistorCurrentsWrong : ChangeSpec := { name := "fnExactResistorCurrents", fn := fun _ => fun
  | [d1, d2, d3] => { results := [.lit (.bool false)], args := [d1, d2, d3] }
  | _ => none }
def FnExactResistorCurrentsWrongFalsely : Prop := fnExactResistorCurrentsRow.holds Try.pinned (OpenSpec.ofChange fnExactResistorCurrentsWrong)

/- THE SECOND FORM. 'bulk': how many values and letters a reading holds, each counted each time it is reached (what is shared counts as often as it is met; a slice's spare places count too). A statement '..UptoSaid' is the law's where the arguments, and the package variables that the reading takes, are together of bulk at most 1048576: NARROWER than '..Said'. Prove '..Said' where nothing that the law and all that it calls make is longer than what came in: it says more and counts as full. Else prove '..UptoSaid'. A law counts once. -/
mutual
def uptoBulk {H : Type} : DataW H → Nat
  | .lit (.string bytes) => bytes.length + 1
  | .lit _ => 1
  | .nil => 1
  | .ptr d => uptoBulk d + 1
  | .slice elems spare => uptoBulkAll elems + uptoBulkAll spare + 1
  | .agg parts => uptoBulkAll parts + 1
  | .iface _ d => uptoBulk d + 1
  | .map entries => uptoBulkEntries entries + 1
  | .held _ => 1
def uptoBulkAll {H : Type} : List (DataW H) → Nat
  | [] => 0
  | d :: r => uptoBulk d + uptoBulkAll r
def uptoBulkEntries {H : Type} : List (Lit × DataW H) → Nat
  | [] => 0
  | x :: r => uptoBulkEntry x + uptoBulkEntries r
def uptoBulkEntry {H : Type} : Lit × DataW H → Nat
  | (.string bytes, d) => bytes.length + uptoBulk d + 1
  | (_, d) => uptoBulk d + 1
 end
def uptoSmall : (H : Type) → List (DataW H) → Bool := fun _ ds => decide (uptoBulkAll ds ≤ 1048576)
def OpenSpec.upto (s : _root_.Go.ChangeSpec) : _root_.Go.OpenSpec := { _root_.Go.OpenSpec.ofChange s with cond := some uptoSmall }

/-- 'laws.FnExactMakeRatio', WHERE WHAT IT READS IS OF BULK AT MOST 1048576: true; the input reads as it did. -/
def fnExactMakeRatioUptoRow : OpenClaim := { program := "ytdlnmpkjpdhhpaa", sum := "c561dc480108108acd9841cef470e14a385b135ae9a435c69a64afbeda9d0ff1", func := "loop.example/g00890/laws.FnExactMakeRatio", spec := "fnExactMakeRatio", apart := false, narrowed := true }
def FnExactMakeRatioUptoSaid : Prop := fnExactMakeRatioUptoRow.holds Try.pinned (OpenSpec.upto fnExactMakeRatioSpec)

/-- 'laws.FnRatios', WHERE WHAT IT READS IS OF BULK AT MOST 1048576: true; the input reads as it did. -/
def fnRatiosUptoRow : OpenClaim := { program := "ytdlnmpkjpdhhpaa", sum := "c561dc480108108acd9841cef470e14a385b135ae9a435c69a64afbeda9d0ff1", func := "loop.example/g00890/laws.FnRatios", spec := "fnRatios", apart := false, narrowed := true }
def FnRatiosUptoSaid : Prop := fnRatiosUptoRow.holds Try.pinned (OpenSpec.upto fnRatiosSpec)

/-- 'laws.FnExactSquares', WHERE WHAT IT READS IS OF BULK AT MOST 1048576: true; the input reads as it did. -/
def fnExactSquaresUptoRow : OpenClaim := { program := "ytdlnmpkjpdhhpaa", sum := "c561dc480108108acd9841cef470e14a385b135ae9a435c69a64afbeda9d0ff1", func := "loop.example/g00890/laws.FnExactSquares", spec := "fnExactSquares", apart := false, narrowed := true }
def FnExactSquaresUptoSaid : Prop := fnExactSquaresUptoRow.holds Try.pinned (OpenSpec.upto fnExactSquaresSpec)

/-- 'laws.FnExactAddRatios', WHERE WHAT IT READS IS OF BULK AT MOST 1048576: true; the input reads as it did. -/
def fnExactAddRatiosUptoRow : OpenClaim := { program := "ytdlnmpkjpdhhpaa", sum := "c561dc480108108acd9841cef470e14a385b135ae9a435c69a64afbeda9d0ff1", func := "loop.example/g00890/laws.FnExactAddRatios", spec := "fnExactAddRatios", apart := false, narrowed := true }
def FnExactAddRatiosUptoSaid : Prop := fnExactAddRatiosUptoRow.holds Try.pinned (OpenSpec.upto fnExactAddRatiosSpec)

/-- 'laws.FnExactMultiplyRatios', WHERE WHAT IT READS IS OF BULK AT MOST 1048576: true; the input reads as it did. -/
def fnExactMultiplyRatiosUptoRow : OpenClaim := { program := "ytdlnmpkjpdhhpaa", sum := "c561dc480108108acd9841cef470e14a385b135ae9a435c69a64afbeda9d0ff1", func := "loop.example/g00890/laws.FnExactMultiplyRatios", spec := "fnExactMultiplyRatios", apart := false, narrowed := true }
def FnExactMultiplyRatiosUptoSaid : Prop := fnExactMultiplyRatiosUptoRow.holds Try.pinned (OpenSpec.upto fnExactMultiplyRatiosSpec)

/-- 'laws.FnExactIsValidNetwork', WHERE WHAT IT READS IS OF BULK AT MOST 1048576: true; the input reads as it did. -/
def fnExactIsValidNetworkUptoRow : OpenClaim := { program := "ytdlnmpkjpdhhpaa", sum := "c561dc480108108acd9841cef470e14a385b135ae9a435c69a64afbeda9d0ff1", func := "loop.example/g00890/laws.FnExactIsValidNetwork", spec := "fnExactIsValidNetwork", apart := false, narrowed := true }
def FnExactIsValidNetworkUptoSaid : Prop := fnExactIsValidNetworkUptoRow.holds Try.pinned (OpenSpec.upto fnExactIsValidNetworkSpec)

/-- 'laws.FnResistance', WHERE WHAT IT READS IS OF BULK AT MOST 1048576: true; the input reads as it did. -/
def fnResistanceUptoRow : OpenClaim := { program := "ytdlnmpkjpdhhpaa", sum := "c561dc480108108acd9841cef470e14a385b135ae9a435c69a64afbeda9d0ff1", func := "loop.example/g00890/laws.FnResistance", spec := "fnResistance", apart := false, narrowed := true }
def FnResistanceUptoSaid : Prop := fnResistanceUptoRow.holds Try.pinned (OpenSpec.upto fnResistanceSpec)

/-- 'laws.FnKirchhoff', WHERE WHAT IT READS IS OF BULK AT MOST 1048576: true; the input reads as it did. -/
def fnKirchhoffUptoRow : OpenClaim := { program := "ytdlnmpkjpdhhpaa", sum := "c561dc480108108acd9841cef470e14a385b135ae9a435c69a64afbeda9d0ff1", func := "loop.example/g00890/laws.FnKirchhoff", spec := "fnKirchhoff", apart := false, narrowed := true }
def FnKirchhoffUptoSaid : Prop := fnKirchhoffUptoRow.holds Try.pinned (OpenSpec.upto fnKirchhoffSpec)

/-- 'laws.FnExactEffectiveResistance', WHERE WHAT IT READS IS OF BULK AT MOST 1048576: true; the input reads as it did. -/
def fnExactEffectiveResistanceUptoRow : OpenClaim := { program := "ytdlnmpkjpdhhpaa", sum := "c561dc480108108acd9841cef470e14a385b135ae9a435c69a64afbeda9d0ff1", func := "loop.example/g00890/laws.FnExactEffectiveResistance", spec := "fnExactEffectiveResistance", apart := false, narrowed := true }
def FnExactEffectiveResistanceUptoSaid : Prop := fnExactEffectiveResistanceUptoRow.holds Try.pinned (OpenSpec.upto fnExactEffectiveResistanceSpec)

/-- 'laws.FnMoreResistors', WHERE WHAT IT READS IS OF BULK AT MOST 1048576: true; the input reads as it did. -/
def fnMoreResistorsUptoRow : OpenClaim := { program := "ytdlnmpkjpdhhpaa", sum := "c561dc480108108acd9841cef470e14a385b135ae9a435c69a64afbeda9d0ff1", func := "loop.example/g00890/laws.FnMoreResistors", spec := "fnMoreResistors", apart := false, narrowed := true }
def FnMoreResistorsUptoSaid : Prop := fnMoreResistorsUptoRow.holds Try.pinned (OpenSpec.upto fnMoreResistorsSpec)

/-- 'laws.FnExactNodePotentials', WHERE WHAT IT READS IS OF BULK AT MOST 1048576: true; the input reads as it did. -/
def fnExactNodePotentialsUptoRow : OpenClaim := { program := "ytdlnmpkjpdhhpaa", sum := "c561dc480108108acd9841cef470e14a385b135ae9a435c69a64afbeda9d0ff1", func := "loop.example/g00890/laws.FnExactNodePotentials", spec := "fnExactNodePotentials", apart := false, narrowed := true }
def FnExactNodePotentialsUptoSaid : Prop := fnExactNodePotentialsUptoRow.holds Try.pinned (OpenSpec.upto fnExactNodePotentialsSpec)

/-- 'laws.FnExactResistorCurrents', WHERE WHAT IT READS IS OF BULK AT MOST 1048576: true; the input reads as it did. -/
def fnExactResistorCurrentsUptoRow : OpenClaim := { program := "ytdlnmpkjpdhhpaa", sum := "c561dc480108108acd9841cef470e14a385b135ae9a435c69a64afbeda9d0ff1", func := "loop.example/g00890/laws.FnExactResistorCurrents", spec := "fnExactResistorCurrents", apart := false, narrowed := true }
def FnExactResistorCurrentsUptoSaid : Prop := fnExactResistorCurrentsUptoRow.holds Try.pinned (OpenSpec.upto fnExactResistorCurrentsSpec)

end Rows
end Go.Proofs.Ytdlnmpkjpdhhpaa
