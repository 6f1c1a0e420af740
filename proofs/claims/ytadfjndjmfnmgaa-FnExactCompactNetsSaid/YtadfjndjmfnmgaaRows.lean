/-
  No cell of these rows narrows 'for every input' (looked for: loops, veiled, ifaces, maps, wideKeys, modest, calm, conditions, laid).
  DERIVED. THE GIVEN ROWS OF THIS SEAT. 15 by the template 'for every input the law returns true; each argument reads behind the call as it read before'; 0 by the template 'total and deterministic' (their statements: YtadfjndjmfnmgaaTotals.lean).
  GIVEN WITH THE SEED: the statements are not yours to turn. If you find one false, say at which input.
  Laid BY PROGRAM, IN A SANDBOX (cutbox-rows.mjs): the forced cells as the released guide's own fill.sh prints them over the translation 243695d8d34d6833… (all of the seat's roots in one cut). By AI agents, Wed Nov 11 2026. No macro, syntax, notation, axiom, sorry.
-/
import Derived.Test.YtadfjndjmfnmgaaChecked
import GoSem.Claim
import GoSem.ClaimJoined
import GoSem.ClaimMapViews
import Derived.JoinedTies
import Derived.KernelRfl
namespace Go.Proofs.Ytadfjndjmfnmgaa
/- THE CELL 'sum', in the pinned program and in every row, IS THE sha256 OF THE DUMP (.gsa) THAT YtadfjndjmfnmgaaProg.lean LOADS. Nothing in Lean hashes anything: it is a label: what it is worth is what the hold of that sum in a sandbox is worth. -/
noncomputable def Try.pinned : Pinned := { name := "ytadfjndjmfnmgaa", sum := "243695d8d34d68334301654fbf001f2fb09d2d4451a58788c32ebc00f3c0bb24", checked := Try.checked }
namespace Rows
def none {H : Type} : Left H := { results := [], args := [] }

/-- 'laws.FnExactDeviceSignature': WHATEVER THE INPUT: true; the input reads as it did. -/
def fnExactDeviceSignatureSpec : ChangeSpec := { name := "fnExactDeviceSignature", fn := fun _ => fun
  | [d1, d2, d3] => { results := [.lit (.bool true)], args := [d1, d2, d3] }
  | _ => none }
def fnExactDeviceSignatureRow : OpenClaim := { program := "ytadfjndjmfnmgaa", sum := "243695d8d34d68334301654fbf001f2fb09d2d4451a58788c32ebc00f3c0bb24", func := "loop.example/g00890/laws.FnExactDeviceSignature", spec := "fnExactDeviceSignature", unfollowed := true, recurses := true, apart := false }
def FnExactDeviceSignatureSaid : Prop := fnExactDeviceSignatureRow.holds Try.pinned (OpenSpec.ofChange fnExactDeviceSignatureSpec)

/-- ITS FALSE NEIGHBOUR: 'it returns false'. Refute it at one input. -/
def fnExactDeviceSignatureWrong : ChangeSpec := { name := "fnExactDeviceSignature", fn := fun _ => fun
  | [d1, d2, d3] => { results := [.lit (.bool false)], args := [d1, d2, d3] }
  | _ => none }
def FnExactDeviceSignatureWrongFalsely : Prop := fnExactDeviceSignatureRow.holds Try.pinned (OpenSpec.ofChange fnExactDeviceSignatureWrong)

/-- 'laws.FnExactSortDevices': WHATEVER THE INPUT: true; the input reads as it did. -/
def fnExactSortDevicesSpec : ChangeSpec := { name := "fnExactSortDevices", fn := fun _ => fun
  | [d] => { results := [.lit (.bool true)], args := [d] }
  | _ => none }
def fnExactSortDevicesRow : OpenClaim := { program := "ytadfjndjmfnmgaa", sum := "243695d8d34d68334301654fbf001f2fb09d2d4451a58788c32ebc00f3c0bb24", func := "loop.example/g00890/laws.FnExactSortDevices", spec := "fnExactSortDevices", unfollowed := true, recurses := true, apart := false }
def FnExactSortDevicesSaid : Prop := fnExactSortDevicesRow.holds Try.pinned (OpenSpec.ofChange fnExactSortDevicesSpec)

/-- ITS FALSE NEIGHBOUR: 'it returns false'. Refute it at one input. -/
def fnExactSortDevicesWrong : ChangeSpec := { name := "fnExactSortDevices", fn := fun _ => fun
  | [d] => { results := [.lit (.bool false)], args := [d] }
  | _ => none }
def FnExactSortDevicesWrongFalsely : Prop := fnExactSortDevicesRow.holds Try.pinned (OpenSpec.ofChange fnExactSortDevicesWrong)

/-- 'laws.FnExactCompactNets': WHATEVER THE INPUT: true; the input reads as it did. -/
def fnExactCompactNetsSpec : ChangeSpec := { name := "fnExactCompactNets", fn := fun _ => fun
  | [d] => { results := [.lit (.bool true)], args := [d] }
  | _ => none }
def fnExactCompactNetsRow : OpenClaim := { program := "ytadfjndjmfnmgaa", sum := "243695d8d34d68334301654fbf001f2fb09d2d4451a58788c32ebc00f3c0bb24", func := "loop.example/g00890/laws.FnExactCompactNets", spec := "fnExactCompactNets", unfollowed := true, recurses := true, apart := false }
def FnExactCompactNetsSaid : Prop := fnExactCompactNetsRow.holds Try.pinned (OpenSpec.ofChange fnExactCompactNetsSpec)

/-- ITS FALSE NEIGHBOUR: 'it returns false'. Refute it at one input. -/
def fnExactCompactNetsWrong : ChangeSpec := { name := "fnExactCompactNets", fn := fun _ => fun
  | [d] => { results := [.lit (.bool false)], args := [d] }
  | _ => none }
def FnExactCompactNetsWrongFalsely : Prop := fnExactCompactNetsRow.holds Try.pinned (OpenSpec.ofChange fnExactCompactNetsWrong)

/-- 'laws.FnExactRenameNets': WHATEVER THE INPUT: true; the input reads as it did. -/
def fnExactRenameNetsSpec : ChangeSpec := { name := "fnExactRenameNets", fn := fun _ => fun
  | [d1, d2] => { results := [.lit (.bool true)], args := [d1, d2] }
  | _ => none }
def fnExactRenameNetsRow : OpenClaim := { program := "ytadfjndjmfnmgaa", sum := "243695d8d34d68334301654fbf001f2fb09d2d4451a58788c32ebc00f3c0bb24", func := "loop.example/g00890/laws.FnExactRenameNets", spec := "fnExactRenameNets", unfollowed := true, recurses := true, apart := false }
def FnExactRenameNetsSaid : Prop := fnExactRenameNetsRow.holds Try.pinned (OpenSpec.ofChange fnExactRenameNetsSpec)

/-- ITS FALSE NEIGHBOUR: 'it returns false'. Refute it at one input. -/
def fnExactRenameNetsWrong : ChangeSpec := { name := "fnExactRenameNets", fn := fun _ => fun
  | [d1, d2] => { results := [.lit (.bool false)], args := [d1, d2] }
  | _ => none }
def FnExactRenameNetsWrongFalsely : Prop := fnExactRenameNetsRow.holds Try.pinned (OpenSpec.ofChange fnExactRenameNetsWrong)

/-- 'laws.FnExactMergePair': WHATEVER THE INPUT: true; the input reads as it did. -/
def fnExactMergePairSpec : ChangeSpec := { name := "fnExactMergePair", fn := fun _ => fun
  | [d1, d2, d3] => { results := [.lit (.bool true)], args := [d1, d2, d3] }
  | _ => none }
def fnExactMergePairRow : OpenClaim := { program := "ytadfjndjmfnmgaa", sum := "243695d8d34d68334301654fbf001f2fb09d2d4451a58788c32ebc00f3c0bb24", func := "loop.example/g00890/laws.FnExactMergePair", spec := "fnExactMergePair", unfollowed := true, recurses := true, apart := false }
def FnExactMergePairSaid : Prop := fnExactMergePairRow.holds Try.pinned (OpenSpec.ofChange fnExactMergePairSpec)

/-- ITS FALSE NEIGHBOUR: 'it returns false'. Refute it at one input. -/
def fnExactMergePairWrong : ChangeSpec := { name := "fnExactMergePair", fn := fun _ => fun
  | [d1, d2, d3] => { results := [.lit (.bool false)], args := [d1, d2, d3] }
  | _ => none }
def FnExactMergePairWrongFalsely : Prop := fnExactMergePairRow.holds Try.pinned (OpenSpec.ofChange fnExactMergePairWrong)

/-- 'laws.FnExactComposeMatchings': WHATEVER THE INPUT: true; the input reads as it did. -/
def fnExactComposeMatchingsSpec : ChangeSpec := { name := "fnExactComposeMatchings", fn := fun _ => fun
  | [d1, d2] => { results := [.lit (.bool true)], args := [d1, d2] }
  | _ => none }
def fnExactComposeMatchingsRow : OpenClaim := { program := "ytadfjndjmfnmgaa", sum := "243695d8d34d68334301654fbf001f2fb09d2d4451a58788c32ebc00f3c0bb24", func := "loop.example/g00890/laws.FnExactComposeMatchings", spec := "fnExactComposeMatchings", unfollowed := true, recurses := true, apart := false }
def FnExactComposeMatchingsSaid : Prop := fnExactComposeMatchingsRow.holds Try.pinned (OpenSpec.ofChange fnExactComposeMatchingsSpec)

/-- ITS FALSE NEIGHBOUR: 'it returns false'. Refute it at one input. -/
def fnExactComposeMatchingsWrong : ChangeSpec := { name := "fnExactComposeMatchings", fn := fun _ => fun
  | [d1, d2] => { results := [.lit (.bool false)], args := [d1, d2] }
  | _ => none }
def FnExactComposeMatchingsWrongFalsely : Prop := fnExactComposeMatchingsRow.holds Try.pinned (OpenSpec.ofChange fnExactComposeMatchingsWrong)

/-- 'laws.FnExactInvertMatching': WHATEVER THE INPUT: true; the input reads as it did. -/
def fnExactInvertMatchingSpec : ChangeSpec := { name := "fnExactInvertMatching", fn := fun _ => fun
  | [d] => { results := [.lit (.bool true)], args := [d] }
  | _ => none }
def fnExactInvertMatchingRow : OpenClaim := { program := "ytadfjndjmfnmgaa", sum := "243695d8d34d68334301654fbf001f2fb09d2d4451a58788c32ebc00f3c0bb24", func := "loop.example/g00890/laws.FnExactInvertMatching", spec := "fnExactInvertMatching", unfollowed := true, recurses := true, apart := false }
def FnExactInvertMatchingSaid : Prop := fnExactInvertMatchingRow.holds Try.pinned (OpenSpec.ofChange fnExactInvertMatchingSpec)

/-- ITS FALSE NEIGHBOUR: 'it returns false'. Refute it at one input. -/
def fnExactInvertMatchingWrong : ChangeSpec := { name := "fnExactInvertMatching", fn := fun _ => fun
  | [d] => { results := [.lit (.bool false)], args := [d] }
  | _ => none }
def FnExactInvertMatchingWrongFalsely : Prop := fnExactInvertMatchingRow.holds Try.pinned (OpenSpec.ofChange fnExactInvertMatchingWrong)

/-- 'laws.FnExactApplyMatching': WHATEVER THE INPUT: true; the input reads as it did. -/
def fnExactApplyMatchingSpec : ChangeSpec := { name := "fnExactApplyMatching", fn := fun _ => fun
  | [d1, d2] => { results := [.lit (.bool true)], args := [d1, d2] }
  | _ => none }
def fnExactApplyMatchingRow : OpenClaim := { program := "ytadfjndjmfnmgaa", sum := "243695d8d34d68334301654fbf001f2fb09d2d4451a58788c32ebc00f3c0bb24", func := "loop.example/g00890/laws.FnExactApplyMatching", spec := "fnExactApplyMatching", unfollowed := true, recurses := true, apart := false }
def FnExactApplyMatchingSaid : Prop := fnExactApplyMatchingRow.holds Try.pinned (OpenSpec.ofChange fnExactApplyMatchingSpec)

/-- ITS FALSE NEIGHBOUR: 'it returns false'. Refute it at one input. -/
def fnExactApplyMatchingWrong : ChangeSpec := { name := "fnExactApplyMatching", fn := fun _ => fun
  | [d1, d2] => { results := [.lit (.bool false)], args := [d1, d2] }
  | _ => none }
def FnExactApplyMatchingWrongFalsely : Prop := fnExactApplyMatchingRow.holds Try.pinned (OpenSpec.ofChange fnExactApplyMatchingWrong)

/-- 'laws.FnExactIsIsomorphism': WHATEVER THE INPUT: true; the input reads as it did. -/
def fnExactIsIsomorphismSpec : ChangeSpec := { name := "fnExactIsIsomorphism", fn := fun _ => fun
  | [d1, d2, d3] => { results := [.lit (.bool true)], args := [d1, d2, d3] }
  | _ => none }
def fnExactIsIsomorphismRow : OpenClaim := { program := "ytadfjndjmfnmgaa", sum := "243695d8d34d68334301654fbf001f2fb09d2d4451a58788c32ebc00f3c0bb24", func := "loop.example/g00890/laws.FnExactIsIsomorphism", spec := "fnExactIsIsomorphism", unfollowed := true, recurses := true, apart := false }
def FnExactIsIsomorphismSaid : Prop := fnExactIsIsomorphismRow.holds Try.pinned (OpenSpec.ofChange fnExactIsIsomorphismSpec)

/-- ITS FALSE NEIGHBOUR: 'it returns false'. Refute it at one input. -/
def fnExactIsIsomorphismWrong : ChangeSpec := { name := "fnExactIsIsomorphism", fn := fun _ => fun
  | [d1, d2, d3] => { results := [.lit (.bool false)], args := [d1, d2, d3] }
  | _ => none }
def FnExactIsIsomorphismWrongFalsely : Prop := fnExactIsIsomorphismRow.holds Try.pinned (OpenSpec.ofChange fnExactIsIsomorphismWrong)

/-- 'laws.FnExactColorClasses': WHATEVER THE INPUT: true; the input reads as it did. -/
def fnExactColorClassesSpec : ChangeSpec := { name := "fnExactColorClasses", fn := fun _ => fun
  | [d] => { results := [.lit (.bool true)], args := [d] }
  | _ => none }
def fnExactColorClassesRow : OpenClaim := { program := "ytadfjndjmfnmgaa", sum := "243695d8d34d68334301654fbf001f2fb09d2d4451a58788c32ebc00f3c0bb24", func := "loop.example/g00890/laws.FnExactColorClasses", spec := "fnExactColorClasses", unfollowed := true, recurses := true, apart := false }
def FnExactColorClassesSaid : Prop := fnExactColorClassesRow.holds Try.pinned (OpenSpec.ofChange fnExactColorClassesSpec)

/-- ITS FALSE NEIGHBOUR: 'it returns false'. Refute it at one input. -/
def fnExactColorClassesWrong : ChangeSpec := { name := "fnExactColorClasses", fn := fun _ => fun
  | [d] => { results := [.lit (.bool false)], args := [d] }
  | _ => none }
def FnExactColorClassesWrongFalsely : Prop := fnExactColorClassesRow.holds Try.pinned (OpenSpec.ofChange fnExactColorClassesWrong)

/-- 'laws.FnSorted': WHATEVER THE INPUT: true; the input reads as it did. -/
def fnSortedSpec : ChangeSpec := { name := "fnSorted", fn := fun _ => fun
  | [d] => { results := [.lit (.bool true)], args := [d] }
  | _ => none }
def fnSortedRow : OpenClaim := { program := "ytadfjndjmfnmgaa", sum := "243695d8d34d68334301654fbf001f2fb09d2d4451a58788c32ebc00f3c0bb24", func := "loop.example/g00890/laws.FnSorted", spec := "fnSorted", unfollowed := true, recurses := true, apart := false }
def FnSortedSaid : Prop := fnSortedRow.holds Try.pinned (OpenSpec.ofChange fnSortedSpec)

/-- ITS FALSE NEIGHBOUR: 'it returns false'. Refute it at one input. -/
def fnSortedWrong : ChangeSpec := { name := "fnSorted", fn := fun _ => fun
  | [d] => { results := [.lit (.bool false)], args := [d] }
  | _ => none }
def FnSortedWrongFalsely : Prop := fnSortedRow.holds Try.pinned (OpenSpec.ofChange fnSortedWrong)

/-- 'laws.FnRename': WHATEVER THE INPUT: true; the input reads as it did. -/
def fnRenameSpec : ChangeSpec := { name := "fnRename", fn := fun _ => fun
  | [d] => { results := [.lit (.bool true)], args := [d] }
  | _ => none }
def fnRenameRow : OpenClaim := { program := "ytadfjndjmfnmgaa", sum := "243695d8d34d68334301654fbf001f2fb09d2d4451a58788c32ebc00f3c0bb24", func := "loop.example/g00890/laws.FnRename", spec := "fnRename", unfollowed := true, recurses := true, apart := false }
def FnRenameSaid : Prop := fnRenameRow.holds Try.pinned (OpenSpec.ofChange fnRenameSpec)

/-- ITS FALSE NEIGHBOUR: 'it returns false'. Refute it at one input. -/
def fnRenameWrong : ChangeSpec := { name := "fnRename", fn := fun _ => fun
  | [d] => { results := [.lit (.bool false)], args := [d] }
  | _ => none }
def FnRenameWrongFalsely : Prop := fnRenameRow.holds Try.pinned (OpenSpec.ofChange fnRenameWrong)

/-- 'laws.FnMatchings': WHATEVER THE INPUT: true; the input reads as it did. -/
def fnMatchingsSpec : ChangeSpec := { name := "fnMatchings", fn := fun _ => fun
  | [d] => { results := [.lit (.bool true)], args := [d] }
  | _ => none }
def fnMatchingsRow : OpenClaim := { program := "ytadfjndjmfnmgaa", sum := "243695d8d34d68334301654fbf001f2fb09d2d4451a58788c32ebc00f3c0bb24", func := "loop.example/g00890/laws.FnMatchings", spec := "fnMatchings", unfollowed := true, recurses := true, apart := false }
def FnMatchingsSaid : Prop := fnMatchingsRow.holds Try.pinned (OpenSpec.ofChange fnMatchingsSpec)

/-- ITS FALSE NEIGHBOUR: 'it returns false'. Refute it at one input. -/
def fnMatchingsWrong : ChangeSpec := { name := "fnMatchings", fn := fun _ => fun
  | [d] => { results := [.lit (.bool false)], args := [d] }
  | _ => none }
def FnMatchingsWrongFalsely : Prop := fnMatchingsRow.holds Try.pinned (OpenSpec.ofChange fnMatchingsWrong)

/-- 'laws.FnMergeOne': WHATEVER THE INPUT: true; the input reads as it did. -/
def fnMergeOneSpec : ChangeSpec := { name := "fnMergeOne", fn := fun _ => fun
  | [d] => { results := [.lit (.bool true)], args := [d] }
  | _ => none }
def fnMergeOneRow : OpenClaim := { program := "ytadfjndjmfnmgaa", sum := "243695d8d34d68334301654fbf001f2fb09d2d4451a58788c32ebc00f3c0bb24", func := "loop.example/g00890/laws.FnMergeOne", spec := "fnMergeOne", unfollowed := true, recurses := true, apart := false }
def FnMergeOneSaid : Prop := fnMergeOneRow.holds Try.pinned (OpenSpec.ofChange fnMergeOneSpec)

/-- ITS FALSE NEIGHBOUR: 'it returns false'. Refute it at one input. -/
def fnMergeOneWrong : ChangeSpec := { name := "fnMergeOne", fn := fun _ => fun
  | [d] => { results := [.lit (.bool false)], args := [d] }
  | _ => none }
def FnMergeOneWrongFalsely : Prop := fnMergeOneRow.holds Try.pinned (OpenSpec.ofChange fnMergeOneWrong)

/-- 'laws.FnReduceAgain': WHATEVER THE INPUT: true; the input reads as it did. -/
def fnReduceAgainSpec : ChangeSpec := { name := "fnReduceAgain", fn := fun _ => fun
  | [d] => { results := [.lit (.bool true)], args := [d] }
  | _ => none }
def fnReduceAgainRow : OpenClaim := { program := "ytadfjndjmfnmgaa", sum := "243695d8d34d68334301654fbf001f2fb09d2d4451a58788c32ebc00f3c0bb24", func := "loop.example/g00890/laws.FnReduceAgain", spec := "fnReduceAgain", unfollowed := true, recurses := true, apart := false }
def FnReduceAgainSaid : Prop := fnReduceAgainRow.holds Try.pinned (OpenSpec.ofChange fnReduceAgainSpec)

/-- ITS FALSE NEIGHBOUR: 'it returns false'. Refute it at one input. -/
def fnReduceAgainWrong : ChangeSpec := { name := "fnReduceAgain", fn := fun _ => fun
  | [d] => { results := [.lit (.bool false)], args := [d] }
  | _ => none }
def FnReduceAgainWrongFalsely : Prop := fnReduceAgainRow.holds Try.pinned (OpenSpec.ofChange fnReduceAgainWrong)

/- THE SECOND FORM. 'bulk': how many values and letters a reading holds, each counted each time it is reached (what is shared counts as often as it is met; a slice's spare places count too). A statement '..UptoSaid' is the law's where the arguments, and the package variables that the reading takes, are together of bulk at most 1048576: NARROWER than '..Said'. Prove '..Said' where nothing that the law and all that it calls make is longer than what came in: it says more and counts as full. Else prove '..UptoSaid'. A law counts once. -/
mutual
def uptoBulk {H : Type} : DataW H → Nat
  | .lit (.string bytes) => bytes.length + 1
  | .lit _ => 1
  | .nil => 1
  | .ptr d => uptoBulk d + 1
  | .slice elems spare => uptoBulkAll elems + uptoBulkAll spare + 1
  | .agg parts => uptoBulkAll parts + 1
  | .iface _ d => uptoBulk d + 1
  | .map entries => uptoBulkEntries entries + 1
  | .held _ => 1
def uptoBulkAll {H : Type} : List (DataW H) → Nat
  | [] => 0
  | d :: r => uptoBulk d + uptoBulkAll r
def uptoBulkEntries {H : Type} : List (Lit × DataW H) → Nat
  | [] => 0
  | x :: r => uptoBulkEntry x + uptoBulkEntries r
def uptoBulkEntry {H : Type} : Lit × DataW H → Nat
  | (.string bytes, d) => bytes.length + uptoBulk d + 1
  | (_, d) => uptoBulk d + 1
 end
def uptoSmall : (H : Type) → List (DataW H) → Bool := fun _ ds => decide (uptoBulkAll ds ≤ 1048576)
def OpenSpec.upto (s : _root_.Go.ChangeSpec) : _root_.Go.OpenSpec := { _root_.Go.OpenSpec.ofChange s with cond := some uptoSmall }

/-- 'laws.FnExactDeviceSignature', WHERE WHAT IT READS IS OF BULK AT MOST 1048576: true; the input reads as it did. -/
def fnExactDeviceSignatureUptoRow : OpenClaim := { program := "ytadfjndjmfnmgaa", sum := "243695d8d34d68334301654fbf001f2fb09d2d4451a58788c32ebc00f3c0bb24", func := "loop.example/g00890/laws.FnExactDeviceSignature", spec := "fnExactDeviceSignature", unfollowed := true, recurses := true, apart := false, narrowed := true }
def FnExactDeviceSignatureUptoSaid : Prop := fnExactDeviceSignatureUptoRow.holds Try.pinned (OpenSpec.upto fnExactDeviceSignatureSpec)

/-- 'laws.FnExactSortDevices', WHERE WHAT IT READS IS OF BULK AT MOST 1048576: true; the input reads as it did. -/
def fnExactSortDevicesUptoRow : OpenClaim := { program := "ytadfjndjmfnmgaa", sum := "243695d8d34d68334301654fbf001f2fb09d2d4451a58788c32ebc00f3c0bb24", func := "loop.example/g00890/laws.FnExactSortDevices", spec := "fnExactSortDevices", unfollowed := true, recurses := true, apart := false, narrowed := true }
def FnExactSortDevicesUptoSaid : Prop := fnExactSortDevicesUptoRow.holds Try.pinned (OpenSpec.upto fnExactSortDevicesSpec)

/-- 'laws.FnExactCompactNets', WHERE WHAT IT READS IS OF BULK AT MOST 1048576: true; the input reads as it did. -/
def fnExactCompactNetsUptoRow : OpenClaim := { program := "ytadfjndjmfnmgaa", sum := "243695d8d34d68334301654fbf001f2fb09d2d4451a58788c32ebc00f3c0bb24", func := "loop.example/g00890/laws.FnExactCompactNets", spec := "fnExactCompactNets", unfollowed := true, recurses := true, apart := false, narrowed := true }
def FnExactCompactNetsUptoSaid : Prop := fnExactCompactNetsUptoRow.holds Try.pinned (OpenSpec.upto fnExactCompactNetsSpec)

/-- 'laws.FnExactRenameNets', WHERE WHAT IT READS IS OF BULK AT MOST 1048576: true; the input reads as it did. -/
def fnExactRenameNetsUptoRow : OpenClaim := { program := "ytadfjndjmfnmgaa", sum := "243695d8d34d68334301654fbf001f2fb09d2d4451a58788c32ebc00f3c0bb24", func := "loop.example/g00890/laws.FnExactRenameNets", spec := "fnExactRenameNets", unfollowed := true, recurses := true, apart := false, narrowed := true }
def FnExactRenameNetsUptoSaid : Prop := fnExactRenameNetsUptoRow.holds Try.pinned (OpenSpec.upto fnExactRenameNetsSpec)

/-- 'laws.FnExactMergePair', WHERE WHAT IT READS IS OF BULK AT MOST 1048576: true; the input reads as it did. -/
def fnExactMergePairUptoRow : OpenClaim := { program := "ytadfjndjmfnmgaa", sum := "243695d8d34d68334301654fbf001f2fb09d2d4451a58788c32ebc00f3c0bb24", func := "loop.example/g00890/laws.FnExactMergePair", spec := "fnExactMergePair", unfollowed := true, recurses := true, apart := false, narrowed := true }
def FnExactMergePairUptoSaid : Prop := fnExactMergePairUptoRow.holds Try.pinned (OpenSpec.upto fnExactMergePairSpec)

/-- 'laws.FnExactComposeMatchings', WHERE WHAT IT READS IS OF BULK AT MOST 1048576: true; the input reads as it did. -/
def fnExactComposeMatchingsUptoRow : OpenClaim := { program := "ytadfjndjmfnmgaa", sum := "243695d8d34d68334301654fbf001f2fb09d2d4451a58788c32ebc00f3c0bb24", func := "loop.example/g00890/laws.FnExactComposeMatchings", spec := "fnExactComposeMatchings", unfollowed := true, recurses := true, apart := false, narrowed := true }
def FnExactComposeMatchingsUptoSaid : Prop := fnExactComposeMatchingsUptoRow.holds Try.pinned (OpenSpec.upto fnExactComposeMatchingsSpec)

/-- 'laws.FnExactInvertMatching', WHERE WHAT IT READS IS OF BULK AT MOST 1048576: true; the input reads as it did. -/
def fnExactInvertMatchingUptoRow : OpenClaim := { program := "ytadfjndjmfnmgaa", sum := "243695d8d34d68334301654fbf001f2fb09d2d4451a58788c32ebc00f3c0bb24", func := "loop.example/g00890/laws.FnExactInvertMatching", spec := "fnExactInvertMatching", unfollowed := true, recurses := true, apart := false, narrowed := true }
def FnExactInvertMatchingUptoSaid : Prop := fnExactInvertMatchingUptoRow.holds Try.pinned (OpenSpec.upto fnExactInvertMatchingSpec)

/-- 'laws.FnExactApplyMatching', WHERE WHAT IT READS IS OF BULK AT MOST 1048576: true; the input reads as it did. -/
def fnExactApplyMatchingUptoRow : OpenClaim := { program := "ytadfjndjmfnmgaa", sum := "243695d8d34d68334301654fbf001f2fb09d2d4451a58788c32ebc00f3c0bb24", func := "loop.example/g00890/laws.FnExactApplyMatching", spec := "fnExactApplyMatching", unfollowed := true, recurses := true, apart := false, narrowed := true }
def FnExactApplyMatchingUptoSaid : Prop := fnExactApplyMatchingUptoRow.holds Try.pinned (OpenSpec.upto fnExactApplyMatchingSpec)

/-- 'laws.FnExactIsIsomorphism', WHERE WHAT IT READS IS OF BULK AT MOST 1048576: true; the input reads as it did. -/
def fnExactIsIsomorphismUptoRow : OpenClaim := { program := "ytadfjndjmfnmgaa", sum := "243695d8d34d68334301654fbf001f2fb09d2d4451a58788c32ebc00f3c0bb24", func := "loop.example/g00890/laws.FnExactIsIsomorphism", spec := "fnExactIsIsomorphism", unfollowed := true, recurses := true, apart := false, narrowed := true }
def FnExactIsIsomorphismUptoSaid : Prop := fnExactIsIsomorphismUptoRow.holds Try.pinned (OpenSpec.upto fnExactIsIsomorphismSpec)

/-- 'laws.FnExactColorClasses', WHERE WHAT IT READS IS OF BULK AT MOST 1048576: true; the input reads as it did. -/
def fnExactColorClassesUptoRow : OpenClaim := { program := "ytadfjndjmfnmgaa", sum := "243695d8d34d68334301654fbf001f2fb09d2d4451a58788c32ebc00f3c0bb24", func := "loop.example/g00890/laws.FnExactColorClasses", spec := "fnExactColorClasses", unfollowed := true, recurses := true, apart := false, narrowed := true }
def FnExactColorClassesUptoSaid : Prop := fnExactColorClassesUptoRow.holds Try.pinned (OpenSpec.upto fnExactColorClassesSpec)

/-- 'laws.FnSorted', WHERE WHAT IT READS IS OF BULK AT MOST 1048576: true; the input reads as it did. -/
def fnSortedUptoRow : OpenClaim := { program := "ytadfjndjmfnmgaa", sum := "243695d8d34d68334301654fbf001f2fb09d2d4451a58788c32ebc00f3c0bb24", func := "loop.example/g00890/laws.FnSorted", spec := "fnSorted", unfollowed := true, recurses := true, apart := false, narrowed := true }
def FnSortedUptoSaid : Prop := fnSortedUptoRow.holds Try.pinned (OpenSpec.upto fnSortedSpec)

/-- 'laws.FnRename', WHERE WHAT IT READS IS OF BULK AT MOST 1048576: true; the input reads as it did. -/
def fnRenameUptoRow : OpenClaim := { program := "ytadfjndjmfnmgaa", sum := "243695d8d34d68334301654fbf001f2fb09d2d4451a58788c32ebc00f3c0bb24", func := "loop.example/g00890/laws.FnRename", spec := "fnRename", unfollowed := true, recurses := true, apart := false, narrowed := true }
def FnRenameUptoSaid : Prop := fnRenameUptoRow.holds Try.pinned (OpenSpec.upto fnRenameSpec)

/-- 'laws.FnMatchings', WHERE WHAT IT READS IS OF BULK AT MOST 1048576: true; the input reads as it did. -/
def fnMatchingsUptoRow : OpenClaim := { program := "ytadfjndjmfnmgaa", sum := "243695d8d34d68334301654fbf001f2fb09d2d4451a58788c32ebc00f3c0bb24", func := "loop.example/g00890/laws.FnMatchings", spec := "fnMatchings", unfollowed := true, recurses := true, apart := false, narrowed := true }
def FnMatchingsUptoSaid : Prop := fnMatchingsUptoRow.holds Try.pinned (OpenSpec.upto fnMatchingsSpec)

/-- 'laws.FnMergeOne', WHERE WHAT IT READS IS OF BULK AT MOST 1048576: true; the input reads as it did. -/
def fnMergeOneUptoRow : OpenClaim := { program := "ytadfjndjmfnmgaa", sum := "243695d8d34d68334301654fbf001f2fb09d2d4451a58788c32ebc00f3c0bb24", func := "loop.example/g00890/laws.FnMergeOne", spec := "fnMergeOne", unfollowed := true, recurses := true, apart := false, narrowed := true }
def FnMergeOneUptoSaid : Prop := fnMergeOneUptoRow.holds Try.pinned (OpenSpec.upto fnMergeOneSpec)

/-- 'laws.FnReduceAgain', WHERE WHAT IT READS IS OF BULK AT MOST 1048576: true; the input reads as it did. -/
def fnReduceAgainUptoRow : OpenClaim := { program := "ytadfjndjmfnmgaa", sum := "243695d8d34d68334301654fbf001f2fb09d2d4451a58788c32ebc00f3c0bb24", func := "loop.example/g00890/laws.FnReduceAgain", spec := "fnReduceAgain", unfollowed := true, recurses := true, apart := false, narrowed := true }
def FnReduceAgainUptoSaid : Prop := fnReduceAgainUptoRow.holds Try.pinned (OpenSpec.upto fnReduceAgainSpec)

end Rows
end Go.Proofs.Ytadfjndjmfnmgaa
