/-
  No cell of these rows narrows 'for every input' (looked for: loops, veiled, ifaces, maps, wideKeys, modest, calm, conditions, laid).
  DERIVED. THE GIVEN ROWS OF THIS SEAT. 4 by the template 'for every input the law returns true; each argument reads behind the call as it read before'; 0 by the template 'total and deterministic' (their statements: YtjldkejegdljiaaTotals.lean).
  GIVEN WITH THE SEED: the statements are not yours to turn. If you find one false, say at which input.
  Laid BY PROGRAM, IN A SANDBOX (cutbox-rows.mjs): the forced cells as the released guide's own fill.sh prints them over the translation 75e764236613a74c… (all of the seat's roots in one cut). By AI agents, Wed Nov 11 2026. No macro, syntax, notation, axiom, sorry.
-/
import Derived.Test.YtjldkejegdljiaaChecked
import GoSem.Claim
import GoSem.ClaimJoined
import GoSem.ClaimMapViews
import Derived.JoinedTies
import Derived.KernelRfl
namespace Go.Proofs.Ytjldkejegdljiaa
/- THE CELL 'sum', in the pinned program and in every row, IS THE sha256 OF THE DUMP (.gsa) THAT YtjldkejegdljiaaProg.lean LOADS. Nothing in Lean hashes anything: it is a label: what it is worth is what the hold of that sum in a sandbox is worth. -/
noncomputable def Try.pinned : Pinned := { name := "ytjldkejegdljiaa", sum := "75e764236613a74c6fea8cfc8d45854723aa994870d5f54409adb9e1bbf57c93", checked := Try.checked }
namespace Rows
def none {H : Type} : Left H := { results := [], args := [] }

/-- 'laws.FnExactSortDevices': WHATEVER THE INPUT: true; the input reads as it did. -/
def fnExactSortDevicesSpec : ChangeSpec := { name := "fnExactSortDevices", fn := fun _ => fun
  | [d] => { results := [.lit (.bool true)], args := [d] }
  | _ => none }
def fnExactSortDevicesRow : OpenClaim := { program := "ytjldkejegdljiaa", sum := "75e764236613a74c6fea8cfc8d45854723aa994870d5f54409adb9e1bbf57c93", func := "loop.example/g00890/laws.FnExactSortDevices", spec := "fnExactSortDevices", unfollowed := true, recurses := true, apart := false }
def FnExactSortDevicesSaid : Prop := fnExactSortDevicesRow.holds Try.pinned (OpenSpec.ofChange fnExactSortDevicesSpec)

/-- ITS FALSE NEIGHBOUR: 'it returns false'. Refute it at one input. -/
def fnExactSortDevicesWrong : ChangeSpec := { name := "fnExactSortDevices", fn := fun _ => fun
  | [d] => { results := [.lit (.bool false)], args := [d] }
  | _ => none }
def FnExactSortDevicesWrongFalsely : Prop := fnExactSortDevicesRow.holds Try.pinned (OpenSpec.ofChange fnExactSortDevicesWrong)

/-- 'laws.FnExactMergePair': WHATEVER THE INPUT: true; the input reads as it did. -/
def fnExactMergePairSpec : ChangeSpec := { name := "fnExactMergePair", fn := fun _ => fun
  | [d1, d2, d3] => { results := [.lit (.bool true)], args := [d1, d2, d3] }
  | _ => none }
def fnExactMergePairRow : OpenClaim := { program := "ytjldkejegdljiaa", sum := "75e764236613a74c6fea8cfc8d45854723aa994870d5f54409adb9e1bbf57c93", func := "loop.example/g00890/laws.FnExactMergePair", spec := "fnExactMergePair", unfollowed := true, recurses := true, apart := false }
def FnExactMergePairSaid : Prop := fnExactMergePairRow.holds Try.pinned (OpenSpec.ofChange fnExactMergePairSpec)

/-- ITS FALSE NEIGHBOUR: 'it returns false'. Refute it at one input. -/
def fnExactMergePairWrong : ChangeSpec := { name := "fnExactMergePair", fn := fun _ => fun
  | [d1, d2, d3] => { results := [.lit (.bool false)], args := [d1, d2, d3] }
  | _ => none }
def FnExactMergePairWrongFalsely : Prop := fnExactMergePairRow.holds Try.pinned (OpenSpec.ofChange fnExactMergePairWrong)

/-- 'laws.FnExactColorClasses': WHATEVER THE INPUT: true; the input reads as it did. -/
def fnExactColorClassesSpec : ChangeSpec := { name := "fnExactColorClasses", fn := fun _ => fun
  | [d] => { results := [.lit (.bool true)], args := [d] }
  | _ => none }
def fnExactColorClassesRow : OpenClaim := { program := "ytjldkejegdljiaa", sum := "75e764236613a74c6fea8cfc8d45854723aa994870d5f54409adb9e1bbf57c93", func := "loop.example/g00890/laws.FnExactColorClasses", spec := "fnExactColorClasses", unfollowed := true, recurses := true, apart := false }
def FnExactColorClassesSaid : Prop := fnExactColorClassesRow.holds Try.pinned (OpenSpec.ofChange fnExactColorClassesSpec)

/-- ITS FALSE NEIGHBOUR: 'it returns false'. Refute it at one input. -/
def fnExactColorClassesWrong : ChangeSpec := { name := "fnExactColorClasses", fn := fun _ => fun
  | [d] => { results := [.lit (.bool false)], args := [d] }
  | _ => none }
def FnExactColorClassesWrongFalsely : Prop := fnExactColorClassesRow.holds Try.pinned (OpenSpec.ofChange fnExactColorClassesWrong)

/-- 'laws.FnExactNetSignature': WHATEVER THE INPUT: true; the input reads as it did. -/
def fnExactNetSignatureSpec : ChangeSpec := { name := "fnExactNetSignature", fn := fun _ => fun
  | [d1, d2, d3] => { results := [.lit (.bool true)], args := [d1, d2, d3] }
  | _ => none }
def fnExactNetSignatureRow : OpenClaim := { program := "ytjldkejegdljiaa", sum := "75e764236613a74c6fea8cfc8d45854723aa994870d5f54409adb9e1bbf57c93", func := "loop.example/g00890/laws.FnExactNetSignature", spec := "fnExactNetSignature", unfollowed := true, recurses := true, apart := false }
def FnExactNetSignatureSaid : Prop := fnExactNetSignatureRow.holds Try.pinned (OpenSpec.ofChange fnExactNetSignatureSpec)

/-- ITS FALSE NEIGHBOUR: 'it returns false'. Refute it at one input. -/
def fnExactNetSignatureWrong : ChangeSpec := { name := "fnExactNetSignature", fn := fun _ => fun
  | [d1, d2, d3] => { results := [.lit (.bool false)], args := [d1, d2, d3] }
  | _ => none }
def FnExactNetSignatureWrongFalsely : Prop := fnExactNetSignatureRow.holds Try.pinned (OpenSpec.ofChange fnExactNetSignatureWrong)

/- THE SECOND FORM. 'bulk': how many values and letters a reading holds, each counted each time it is reached (what is shared counts as often as it is met; a slice's spare places count too). A statement '..UptoSaid' is the law's where the arguments, and the package variables that the reading takes, are together of bulk at most 1048576: NARROWER than '..Said'. Prove '..Said' where nothing that the law and all that it calls make is longer than what came in: it says more and counts as full. Else prove '..UptoSaid'. A law counts once. -/
mutual
def uptoBulk {H : Type} : DataW H → Nat
  | .lit (.string bytes) => bytes.length + 1
  | .lit _ => 1
  | .nil => 1
  | .ptr d => uptoBulk d + 1
  | .slice elems spare => uptoBulkAll elems + uptoBulkAll spare + 1
  | .agg parts => uptoBulkAll parts + 1
  | .iface _ d => uptoBulk d + 1
  | .map entries => uptoBulkEntries entries + 1
  | .held _ => 1
def uptoBulkAll {H : Type} : List (DataW H) → Nat
  | [] => 0
  | d :: r => uptoBulk d + uptoBulkAll r
def uptoBulkEntries {H : Type} : List (Lit × DataW H) → Nat
  | [] => 0
  | x :: r => uptoBulkEntry x + uptoBulkEntries r
def uptoBulkEntry {H : Type} : Lit × DataW H → Nat
  | (.string bytes, d) => bytes.length + uptoBulk d + 1
  | (_, d) => uptoBulk d + 1
 end
def uptoSmall : (H : Type) → List (DataW H) → Bool := fun _ ds => decide (uptoBulkAll ds ≤ 1048576)
def OpenSpec.upto (s : _root_.Go.ChangeSpec) : _root_.Go.OpenSpec := { _root_.Go.OpenSpec.ofChange s with cond := some uptoSmall }

/-- 'laws.FnExactSortDevices', WHERE WHAT IT READS IS OF BULK AT MOST 1048576: true; the input reads as it did. -/
def fnExactSortDevicesUptoRow : OpenClaim := { program := "ytjldkejegdljiaa", sum := "75e764236613a74c6fea8cfc8d45854723aa994870d5f54409adb9e1bbf57c93", func := "loop.example/g00890/laws.FnExactSortDevices", spec := "fnExactSortDevices", unfollowed := true, recurses := true, apart := false, narrowed := true }
def FnExactSortDevicesUptoSaid : Prop := fnExactSortDevicesUptoRow.holds Try.pinned (OpenSpec.upto fnExactSortDevicesSpec)

/-- 'laws.FnExactMergePair', WHERE WHAT IT READS IS OF BULK AT MOST 1048576: true; the input reads as it did. -/
def fnExactMergePairUptoRow : OpenClaim := { program := "ytjldkejegdljiaa", sum := "75e764236613a74c6fea8cfc8d45854723aa994870d5f54409adb9e1bbf57c93", func := "loop.example/g00890/laws.FnExactMergePair", spec := "fnExactMergePair", unfollowed := true, recurses := true, apart := false, narrowed := true }
def FnExactMergePairUptoSaid : Prop := fnExactMergePairUptoRow.holds Try.pinned (OpenSpec.upto fnExactMergePairSpec)

/-- 'laws.FnExactColorClasses', WHERE WHAT IT READS IS OF BULK AT MOST 1048576: true; the input reads as it did. -/
def fnExactColorClassesUptoRow : OpenClaim := { program := "ytjldkejegdljiaa", sum := "75e764236613a74c6fea8cfc8d45854723aa994870d5f54409adb9e1bbf57c93", func := "loop.example/g00890/laws.FnExactColorClasses", spec := "fnExactColorClasses", unfollowed := true, recurses := true, apart := false, narrowed := true }
def FnExactColorClassesUptoSaid : Prop := fnExactColorClassesUptoRow.holds Try.pinned (OpenSpec.upto fnExactColorClassesSpec)

/-- 'laws.FnExactNetSignature', WHERE WHAT IT READS IS OF BULK AT MOST 1048576: true; the input reads as it did. -/
def fnExactNetSignatureUptoRow : OpenClaim := { program := "ytjldkejegdljiaa", sum := "75e764236613a74c6fea8cfc8d45854723aa994870d5f54409adb9e1bbf57c93", func := "loop.example/g00890/laws.FnExactNetSignature", spec := "fnExactNetSignature", unfollowed := true, recurses := true, apart := false, narrowed := true }
def FnExactNetSignatureUptoSaid : Prop := fnExactNetSignatureUptoRow.holds Try.pinned (OpenSpec.upto fnExactNetSignatureSpec)

end Rows
end Go.Proofs.Ytjldkejegdljiaa
