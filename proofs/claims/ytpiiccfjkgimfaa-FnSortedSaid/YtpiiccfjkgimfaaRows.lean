/-
  No cell of these rows narrows 'for every input' (looked for: loops, veiled, ifaces, maps, wideKeys, modest, calm, conditions, laid).
  DERIVED. THE GIVEN ROWS OF THIS SEAT. 6 by the template 'for every input the law returns true; each argument reads behind the call as it read before'; 0 by the template 'total and deterministic' (their statements: YtpiiccfjkgimfaaTotals.lean).
  GIVEN WITH THE SEED: the statements are not yours to turn. If you find one false, say at which input.
  Laid BY PROGRAM, IN A SANDBOX (cutbox-rows.mjs): the forced cells as the released guide's own fill.sh prints them over the translation a75bebcc8e2b07ac… (all of the seat's roots in one cut). By AI agents, Wed Nov 11 2026. No macro, syntax, notation, axiom, sorry.
-/
import Derived.Test.YtpiiccfjkgimfaaChecked
import GoSem.Claim
import GoSem.ClaimJoined
import GoSem.ClaimMapViews
import Derived.JoinedTies
import Derived.KernelRfl
namespace Go.Proofs.Ytpiiccfjkgimfaa
/- THE CELL 'sum', in the pinned program and in every row, IS THE sha256 OF THE DUMP (.gsa) THAT YtpiiccfjkgimfaaProg.lean LOADS. Nothing in Lean hashes anything: it is a label: what it is worth is what the hold of that sum in a sandbox is worth. -/
noncomputable def Try.pinned : Pinned := { name := "ytpiiccfjkgimfaa", sum := "a75bebcc8e2b07ac2995f31df79ebe25e0e0c68fcf395c0634af64f3d1ed6d02", checked := Try.checked }
namespace Rows
def none {H : Type} : Left H := { results := [], args := [] }

/-- 'laws.FnExactEffectiveResistance': WHATEVER THE INPUT: true; the input reads as it did. -/
def fnExactEffectiveResistanceSpec : ChangeSpec := { name := "fnExactEffectiveResistance", fn := fun _ => fun
  | [d1, d2, d3] => { results := [.lit (.bool true)], args := [d1, d2, d3] }
  | _ => none }
def fnExactEffectiveResistanceRow : OpenClaim := { program := "ytpiiccfjkgimfaa", sum := "a75bebcc8e2b07ac2995f31df79ebe25e0e0c68fcf395c0634af64f3d1ed6d02", func := "loop.example/g00890/laws.FnExactEffectiveResistance", spec := "fnExactEffectiveResistance", apart := false }
def FnExactEffectiveResistanceSaid : Prop := fnExactEffectiveResistanceRow.holds Try.pinned (OpenSpec.ofChange fnExactEffectiveResistanceSpec)

/-- ITS FALSE NEIGHBOUR: 'it returns false'. Refute it at one input. -/
def fnExactEffectiveResistanceWrong : ChangeSpec := { name := "fnExactEffectiveResistance", fn := fun _ => fun
  | [d1, d2, d3] => { results := [.lit (.bool false)], args := [d1, d2, d3] }
  | _ => none }
def FnExactEffectiveResistanceWrongFalsely : Prop := fnExactEffectiveResistanceRow.holds Try.pinned (OpenSpec.ofChange fnExactEffectiveResistanceWrong)

/-- 'laws.FnExactNodePotentials': WHATEVER THE INPUT: true; the input reads as it did. -/
def fnExactNodePotentialsSpec : ChangeSpec := { name := "fnExactNodePotentials", fn := fun _ => fun
  | [d1, d2, d3] => { results := [.lit (.bool true)], args := [d1, d2, d3] }
  | _ => none }
def fnExactNodePotentialsRow : OpenClaim := { program := "ytpiiccfjkgimfaa", sum := "a75bebcc8e2b07ac2995f31df79ebe25e0e0c68fcf395c0634af64f3d1ed6d02", func := "loop.example/g00890/laws.FnExactNodePotentials", spec := "fnExactNodePotentials", apart := false }
def FnExactNodePotentialsSaid : Prop := fnExactNodePotentialsRow.holds Try.pinned (OpenSpec.ofChange fnExactNodePotentialsSpec)

/-- ITS FALSE NEIGHBOUR: 'it returns false'. Refute it at one input. -/
def fnExactNodePotentialsWrong : ChangeSpec := { name := "fnExactNodePotentials", fn := fun _ => fun
  | [d1, d2, d3] => { results := [.lit (.bool false)], args := [d1, d2, d3] }
  | _ => none }
def FnExactNodePotentialsWrongFalsely : Prop := fnExactNodePotentialsRow.holds Try.pinned (OpenSpec.ofChange fnExactNodePotentialsWrong)

/-- 'laws.FnExactResistorCurrents': WHATEVER THE INPUT: true; the input reads as it did. -/
def fnExactResistorCurrentsSpec : ChangeSpec := { name := "fnExactResistorCurrents", fn := fun _ => fun
  | [d1, d2, d3] => { results := [.lit (.bool true)], args := [d1, d2, d3] }
  | _ => none }
def fnExactResistorCurrentsRow : OpenClaim := { program := "ytpiiccfjkgimfaa", sum := "a75bebcc8e2b07ac2995f31df79ebe25e0e0c68fcf395c0634af64f3d1ed6d02", func := "loop.example/g00890/laws.FnExactResistorCurrents", spec := "fnExactResistorCurrents", apart := false }
def FnExactResistorCurrentsSaid : Prop := fnExactResistorCurrentsRow.holds Try.pinned (OpenSpec.ofChange fnExactResistorCurrentsSpec)

/-- ITS FALSE NEIGHBOUR: 'it returns false'. Refute it at one input. -/
def fnExactResistorCurrentsWrong : ChangeSpec := { name := "fnExactResistorCurrents", fn := fun _ => fun
  | [d1, d2, d3] => { results := [.lit (.bool false)], args := [d1, d2, d3] }
  | _ => none }
def FnExactResistorCurrentsWrongFalsely : Prop := fnExactResistorCurrentsRow.holds Try.pinned (OpenSpec.ofChange fnExactResistorCurrentsWrong)

/-- 'laws.FnSorted': WHATEVER THE INPUT: true; the input reads as it did. -/
def fnSortedSpec : ChangeSpec := { name := "fnSorted", fn := fun _ => fun
  | [d] => { results := [.lit (.bool true)], args := [d] }
  | _ => none }
def fnSortedRow : OpenClaim := { program := "ytpiiccfjkgimfaa", sum := "a75bebcc8e2b07ac2995f31df79ebe25e0e0c68fcf395c0634af64f3d1ed6d02", func := "loop.example/g00890/laws.FnSorted", spec := "fnSorted", unfollowed := true, recurses := true, apart := false }
def FnSortedSaid : Prop := fnSortedRow.holds Try.pinned (OpenSpec.ofChange fnSortedSpec)

/-- ITS FALSE NEIGHBOUR: 'it returns false'. Refute it at one input. -/
def fnSortedWrong : ChangeSpec := { name := "fnSorted", fn := fun _ => fun
  | [d] => { results := [.lit (.bool false)], args := [d] }
  | _ => none }
def FnSortedWrongFalsely : Prop := fnSortedRow.holds Try.pinned (OpenSpec.ofChange fnSortedWrong)

/-- 'laws.FnExactSortDevices': WHATEVER THE INPUT: true; the input reads as it did. -/
def fnExactSortDevicesSpec : ChangeSpec := { name := "fnExactSortDevices", fn := fun _ => fun
  | [d] => { results := [.lit (.bool true)], args := [d] }
  | _ => none }
def fnExactSortDevicesRow : OpenClaim := { program := "ytpiiccfjkgimfaa", sum := "a75bebcc8e2b07ac2995f31df79ebe25e0e0c68fcf395c0634af64f3d1ed6d02", func := "loop.example/g00890/laws.FnExactSortDevices", spec := "fnExactSortDevices", unfollowed := true, recurses := true, apart := false }
def FnExactSortDevicesSaid : Prop := fnExactSortDevicesRow.holds Try.pinned (OpenSpec.ofChange fnExactSortDevicesSpec)

/-- ITS FALSE NEIGHBOUR: 'it returns false'. Refute it at one input. -/
def fnExactSortDevicesWrong : ChangeSpec := { name := "fnExactSortDevices", fn := fun _ => fun
  | [d] => { results := [.lit (.bool false)], args := [d] }
  | _ => none }
def FnExactSortDevicesWrongFalsely : Prop := fnExactSortDevicesRow.holds Try.pinned (OpenSpec.ofChange fnExactSortDevicesWrong)

/-- 'laws.FnRename': WHATEVER THE INPUT: true; the input reads as it did. -/
def fnRenameSpec : ChangeSpec := { name := "fnRename", fn := fun _ => fun
  | [d] => { results := [.lit (.bool true)], args := [d] }
  | _ => none }
def fnRenameRow : OpenClaim := { program := "ytpiiccfjkgimfaa", sum := "a75bebcc8e2b07ac2995f31df79ebe25e0e0c68fcf395c0634af64f3d1ed6d02", func := "loop.example/g00890/laws.FnRename", spec := "fnRename", unfollowed := true, recurses := true, apart := false }
def FnRenameSaid : Prop := fnRenameRow.holds Try.pinned (OpenSpec.ofChange fnRenameSpec)

/-- ITS FALSE NEIGHBOUR: 'it returns false'. Refute it at one input. -/
def fnRenameWrong : ChangeSpec := { name := "fnRename", fn := fun _ => fun
  | [d] => { results := [.lit (.bool false)], args := [d] }
  | _ => none }
def FnRenameWrongFalsely : Prop := fnRenameRow.holds Try.pinned (OpenSpec.ofChange fnRenameWrong)

/- THE SECOND FORM. 'bulk': how many values and letters a reading holds, each counted each time it is reached (what is shared counts as often as it is met; a slice's spare places count too). A statement '..UptoSaid' is the law's where the arguments, and the package variables that the reading takes, are together of bulk at most 1048576: NARROWER than '..Said'. Prove '..Said' where nothing that the law and all that it calls make is longer than what came in: it says more and counts as full. Else prove '..UptoSaid'. A law counts once. -/
mutual
def uptoBulk {H : Type} : DataW H → Nat
  | .lit (.string bytes) => bytes.length + 1
  | .lit _ => 1
  | .nil => 1
  | .ptr d => uptoBulk d + 1
  | .slice elems spare => uptoBulkAll elems + uptoBulkAll spare + 1
  | .agg parts => uptoBulkAll parts + 1
  | .iface _ d => uptoBulk d + 1
  | .map entries => uptoBulkEntries entries + 1
  | .held _ => 1
def uptoBulkAll {H : Type} : List (DataW H) → Nat
  | [] => 0
  | d :: r => uptoBulk d + uptoBulkAll r
def uptoBulkEntries {H : Type} : List (Lit × DataW H) → Nat
  | [] => 0
  | x :: r => uptoBulkEntry x + uptoBulkEntries r
def uptoBulkEntry {H : Type} : Lit × DataW H → Nat
  | (.string bytes, d) => bytes.length + uptoBulk d + 1
  | (_, d) => uptoBulk d + 1
 end
def uptoSmall : (H : Type) → List (DataW H) → Bool := fun _ ds => decide (uptoBulkAll ds ≤ 1048576)
def OpenSpec.upto (s : _root_.Go.ChangeSpec) : _root_.Go.OpenSpec := { _root_.Go.OpenSpec.ofChange s with cond := some uptoSmall }

/-- 'laws.FnExactEffectiveResistance', WHERE WHAT IT READS IS OF BULK AT MOST 1048576: true; the input reads as it did. -/
def fnExactEffectiveResistanceUptoRow : OpenClaim := { program := "ytpiiccfjkgimfaa", sum := "a75bebcc8e2b07ac2995f31df79ebe25e0e0c68fcf395c0634af64f3d1ed6d02", func := "loop.example/g00890/laws.FnExactEffectiveResistance", spec := "fnExactEffectiveResistance", apart := false, narrowed := true }
def FnExactEffectiveResistanceUptoSaid : Prop := fnExactEffectiveResistanceUptoRow.holds Try.pinned (OpenSpec.upto fnExactEffectiveResistanceSpec)

/-- 'laws.FnExactNodePotentials', WHERE WHAT IT READS IS OF BULK AT MOST 1048576: true; the input reads as it did. -/
def fnExactNodePotentialsUptoRow : OpenClaim := { program := "ytpiiccfjkgimfaa", sum := "a75bebcc8e2b07ac2995f31df79ebe25e0e0c68fcf395c0634af64f3d1ed6d02", func := "loop.example/g00890/laws.FnExactNodePotentials", spec := "fnExactNodePotentials", apart := false, narrowed := true }
def FnExactNodePotentialsUptoSaid : Prop := fnExactNodePotentialsUptoRow.holds Try.pinned (OpenSpec.upto fnExactNodePotentialsSpec)

/-- 'laws.FnExactResistorCurrents', WHERE WHAT IT READS IS OF BULK AT MOST 1048576: true; the input reads as it did. -/
def fnExactResistorCurrentsUptoRow : OpenClaim := { program := "ytpiiccfjkgimfaa", sum := "a75bebcc8e2b07ac2995f31df79ebe25e0e0c68fcf395c0634af64f3d1ed6d02", func := "loop.example/g00890/laws.FnExactResistorCurrents", spec := "fnExactResistorCurrents", apart := false, narrowed := true }
def FnExactResistorCurrentsUptoSaid : Prop := fnExactResistorCurrentsUptoRow.holds Try.pinned (OpenSpec.upto fnExactResistorCurrentsSpec)

/-- 'laws.FnSorted', WHERE WHAT IT READS IS OF BULK AT MOST 1048576: true; the input reads as it did. -/
def fnSortedUptoRow : OpenClaim := { program := "ytpiiccfjkgimfaa", sum := "a75bebcc8e2b07ac2995f31df79ebe25e0e0c68fcf395c0634af64f3d1ed6d02", func := "loop.example/g00890/laws.FnSorted", spec := "fnSorted", unfollowed := true, recurses := true, apart := false, narrowed := true }
def FnSortedUptoSaid : Prop := fnSortedUptoRow.holds Try.pinned (OpenSpec.upto fnSortedSpec)

/-- 'laws.FnExactSortDevices', WHERE WHAT IT READS IS OF BULK AT MOST 1048576: true; the input reads as it did. -/
def fnExactSortDevicesUptoRow : OpenClaim := { program := "ytpiiccfjkgimfaa", sum := "a75bebcc8e2b07ac2995f31df79ebe25e0e0c68fcf395c0634af64f3d1ed6d02", func := "loop.example/g00890/laws.FnExactSortDevices", spec := "fnExactSortDevices", unfollowed := true, recurses := true, apart := false, narrowed := true }
def FnExactSortDevicesUptoSaid : Prop := fnExactSortDevicesUptoRow.holds Try.pinned (OpenSpec.upto fnExactSortDevicesSpec)

/-- 'laws.FnRename', WHERE WHAT IT READS IS OF BULK AT MOST 1048576: true; the input reads as it did. -/
def fnRenameUptoRow : OpenClaim := { program := "ytpiiccfjkgimfaa", sum := "a75bebcc8e2b07ac2995f31df79ebe25e0e0c68fcf395c0634af64f3d1ed6d02", func := "loop.example/g00890/laws.FnRename", spec := "fnRename", unfollowed := true, recurses := true, apart := false, narrowed := true }
def FnRenameUptoSaid : Prop := fnRenameUptoRow.holds Try.pinned (OpenSpec.upto fnRenameSpec)

end Rows
end Go.Proofs.Ytpiiccfjkgimfaa
