/-
  No cell of these rows narrows 'for every input' (looked for: loops, veiled, ifaces, maps, wideKeys, modest, calm, conditions, laid).
  DERIVED. THE GIVEN ROWS OF THIS SEAT. 7 by the template 'for every input the law returns true; each argument reads behind the call as it read before'; 0 by the template 'total and deterministic' (their statements: YtifbffianbgeaaaGreatTotals.lean).
  GIVEN WITH THE SEED: the statements are not yours to turn. If you find one false, say at which input.
  Laid BY PROGRAM, IN A SANDBOX (cutbox-rows.mjs): the forced cells as the released guide's own fill.sh prints them over the translation ebe8617ee3f3a5f6… (all of the seat's roots in one cut). By AI agents, Wed Nov 11 2026. No macro, syntax, notation, axiom, sorry.
-/
import Derived.Test.YtifbffianbgeaaaGreatChecked
import GoSem.Claim
import GoSem.ClaimJoined
import GoSem.ClaimMapViews
import Derived.JoinedTies
import Derived.KernelRfl
namespace Go.Proofs.YtifbffianbgeaaaGreat
/- THE CELL 'sum', in the pinned program and in every row, IS THE sha256 OF THE DUMP (.gsa) THAT YtifbffianbgeaaaGreatProg.lean LOADS. Nothing in Lean hashes anything: it is a label: what it is worth is what the hold of that sum in a sandbox is worth. -/
noncomputable def Tryz.pinned : Pinned := { name := "ytifbffianbgeaaagreat", sum := "ebe8617ee3f3a5f6f4c00c01559013fb0a999e10f20472e5f2c034a6118bb02f", checked := Tryz.checked }
namespace Rows
def none {H : Type} : Left H := { results := [], args := [] }

/-- 'laws.FnExactCompareNetlists': WHATEVER THE INPUT: true; the input reads as it did. -/
def fnExactCompareNetlistsSpec : ChangeSpec := { name := "fnExactCompareNetlists", fn := fun _ => fun
  | [d1, d2] => { results := [.lit (.bool true)], args := [d1, d2] }
  | _ => none }
def fnExactCompareNetlistsRow : OpenClaim := { program := "ytifbffianbgeaaagreat", sum := "ebe8617ee3f3a5f6f4c00c01559013fb0a999e10f20472e5f2c034a6118bb02f", func := "loop.example/g00890/laws.FnExactCompareNetlists", spec := "fnExactCompareNetlists", unfollowed := true, recurses := true, apart := false }
def FnExactCompareNetlistsSaid : Prop := fnExactCompareNetlistsRow.holds Tryz.pinned (OpenSpec.ofChange fnExactCompareNetlistsSpec)

/-- ITS FALSE NEIGHBOUR: 'it returns false'. Refute it at one input. -/
def fnExactCompareNetlistsWrong : ChangeSpec := { name := "fnExactCompareNetlists", fn := fun _ => fun
  | [d1, d2] => { results := [.lit (.bool false)], args := [d1, d2] }
  | _ => none }
def FnExactCompareNetlistsWrongFalsely : Prop := fnExactCompareNetlistsRow.holds Tryz.pinned (OpenSpec.ofChange fnExactCompareNetlistsWrong)

/-- 'laws.FnExactExplainMismatch': WHATEVER THE INPUT: true; the input reads as it did. -/
def fnExactExplainMismatchSpec : ChangeSpec := { name := "fnExactExplainMismatch", fn := fun _ => fun
  | [d1, d2] => { results := [.lit (.bool true)], args := [d1, d2] }
  | _ => none }
def fnExactExplainMismatchRow : OpenClaim := { program := "ytifbffianbgeaaagreat", sum := "ebe8617ee3f3a5f6f4c00c01559013fb0a999e10f20472e5f2c034a6118bb02f", func := "loop.example/g00890/laws.FnExactExplainMismatch", spec := "fnExactExplainMismatch", unfollowed := true, recurses := true, apart := false }
def FnExactExplainMismatchSaid : Prop := fnExactExplainMismatchRow.holds Tryz.pinned (OpenSpec.ofChange fnExactExplainMismatchSpec)

/-- ITS FALSE NEIGHBOUR: 'it returns false'. Refute it at one input. -/
def fnExactExplainMismatchWrong : ChangeSpec := { name := "fnExactExplainMismatch", fn := fun _ => fun
  | [d1, d2] => { results := [.lit (.bool false)], args := [d1, d2] }
  | _ => none }
def FnExactExplainMismatchWrongFalsely : Prop := fnExactExplainMismatchRow.holds Tryz.pinned (OpenSpec.ofChange fnExactExplainMismatchWrong)

/-- 'laws.FnExactAutomorphismCount': WHATEVER THE INPUT: true; the input reads as it did. -/
def fnExactAutomorphismCountSpec : ChangeSpec := { name := "fnExactAutomorphismCount", fn := fun _ => fun
  | [d] => { results := [.lit (.bool true)], args := [d] }
  | _ => none }
def fnExactAutomorphismCountRow : OpenClaim := { program := "ytifbffianbgeaaagreat", sum := "ebe8617ee3f3a5f6f4c00c01559013fb0a999e10f20472e5f2c034a6118bb02f", func := "loop.example/g00890/laws.FnExactAutomorphismCount", spec := "fnExactAutomorphismCount", unfollowed := true, recurses := true, apart := false }
def FnExactAutomorphismCountSaid : Prop := fnExactAutomorphismCountRow.holds Tryz.pinned (OpenSpec.ofChange fnExactAutomorphismCountSpec)

/-- ITS FALSE NEIGHBOUR: 'it returns false'. Refute it at one input. -/
def fnExactAutomorphismCountWrong : ChangeSpec := { name := "fnExactAutomorphismCount", fn := fun _ => fun
  | [d] => { results := [.lit (.bool false)], args := [d] }
  | _ => none }
def FnExactAutomorphismCountWrongFalsely : Prop := fnExactAutomorphismCountRow.holds Tryz.pinned (OpenSpec.ofChange fnExactAutomorphismCountWrong)

/-- 'laws.FnMatch': WHATEVER THE INPUT: true; the input reads as it did. -/
def fnMatchSpec : ChangeSpec := { name := "fnMatch", fn := fun _ => fun
  | [d] => { results := [.lit (.bool true)], args := [d] }
  | _ => none }
def fnMatchRow : OpenClaim := { program := "ytifbffianbgeaaagreat", sum := "ebe8617ee3f3a5f6f4c00c01559013fb0a999e10f20472e5f2c034a6118bb02f", func := "loop.example/g00890/laws.FnMatch", spec := "fnMatch", unfollowed := true, recurses := true, apart := false }
def FnMatchSaid : Prop := fnMatchRow.holds Tryz.pinned (OpenSpec.ofChange fnMatchSpec)

/-- ITS FALSE NEIGHBOUR: 'it returns false'. Refute it at one input. -/
def fnMatchWrong : ChangeSpec := { name := "fnMatch", fn := fun _ => fun
  | [d] => { results := [.lit (.bool false)], args := [d] }
  | _ => none }
def FnMatchWrongFalsely : Prop := fnMatchRow.holds Tryz.pinned (OpenSpec.ofChange fnMatchWrong)

/-- 'laws.FnPermuted': WHATEVER THE INPUT: true; the input reads as it did. -/
def fnPermutedSpec : ChangeSpec := { name := "fnPermuted", fn := fun _ => fun
  | [d] => { results := [.lit (.bool true)], args := [d] }
  | _ => none }
def fnPermutedRow : OpenClaim := { program := "ytifbffianbgeaaagreat", sum := "ebe8617ee3f3a5f6f4c00c01559013fb0a999e10f20472e5f2c034a6118bb02f", func := "loop.example/g00890/laws.FnPermuted", spec := "fnPermuted", unfollowed := true, recurses := true, apart := false }
def FnPermutedSaid : Prop := fnPermutedRow.holds Tryz.pinned (OpenSpec.ofChange fnPermutedSpec)

/-- ITS FALSE NEIGHBOUR: 'it returns false'. Refute it at one input. -/
def fnPermutedWrong : ChangeSpec := { name := "fnPermuted", fn := fun _ => fun
  | [d] => { results := [.lit (.bool false)], args := [d] }
  | _ => none }
def FnPermutedWrongFalsely : Prop := fnPermutedRow.holds Tryz.pinned (OpenSpec.ofChange fnPermutedWrong)

/-- 'laws.FnChangedSize': WHATEVER THE INPUT: true; the input reads as it did. -/
def fnChangedSizeSpec : ChangeSpec := { name := "fnChangedSize", fn := fun _ => fun
  | [d] => { results := [.lit (.bool true)], args := [d] }
  | _ => none }
def fnChangedSizeRow : OpenClaim := { program := "ytifbffianbgeaaagreat", sum := "ebe8617ee3f3a5f6f4c00c01559013fb0a999e10f20472e5f2c034a6118bb02f", func := "loop.example/g00890/laws.FnChangedSize", spec := "fnChangedSize", unfollowed := true, recurses := true, apart := false }
def FnChangedSizeSaid : Prop := fnChangedSizeRow.holds Tryz.pinned (OpenSpec.ofChange fnChangedSizeSpec)

/-- ITS FALSE NEIGHBOUR: 'it returns false'. Refute it at one input. -/
def fnChangedSizeWrong : ChangeSpec := { name := "fnChangedSize", fn := fun _ => fun
  | [d] => { results := [.lit (.bool false)], args := [d] }
  | _ => none }
def FnChangedSizeWrongFalsely : Prop := fnChangedSizeRow.holds Tryz.pinned (OpenSpec.ofChange fnChangedSizeWrong)

/-- 'laws.FnAutomorphisms': WHATEVER THE INPUT: true; the input reads as it did. -/
def fnAutomorphismsSpec : ChangeSpec := { name := "fnAutomorphisms", fn := fun _ => fun
  | [d] => { results := [.lit (.bool true)], args := [d] }
  | _ => none }
def fnAutomorphismsRow : OpenClaim := { program := "ytifbffianbgeaaagreat", sum := "ebe8617ee3f3a5f6f4c00c01559013fb0a999e10f20472e5f2c034a6118bb02f", func := "loop.example/g00890/laws.FnAutomorphisms", spec := "fnAutomorphisms", unfollowed := true, recurses := true, apart := false }
def FnAutomorphismsSaid : Prop := fnAutomorphismsRow.holds Tryz.pinned (OpenSpec.ofChange fnAutomorphismsSpec)

/-- ITS FALSE NEIGHBOUR: 'it returns false'. Refute it at one input. -/
def fnAutomorphismsWrong : ChangeSpec := { name := "fnAutomorphisms", fn := fun _ => fun
  | [d] => { results := [.lit (.bool false)], args := [d] }
  | _ => none }
def FnAutomorphismsWrongFalsely : Prop := fnAutomorphismsRow.holds Tryz.pinned (OpenSpec.ofChange fnAutomorphismsWrong)

/- THE SECOND FORM. 'bulk': how many values and letters a reading holds, each counted each time it is reached (what is shared counts as often as it is met; a slice's spare places count too). A statement '..UptoSaid' is the law's where the arguments, and the package variables that the reading takes, are together of bulk at most 1048576: NARROWER than '..Said'. Prove '..Said' where nothing that the law and all that it calls make is longer than what came in: it says more and counts as full. Else prove '..UptoSaid'. A law counts once. -/
mutual
def uptoBulk {H : Type} : DataW H → Nat
  | .lit (.string bytes) => bytes.length + 1
  | .lit _ => 1
  | .nil => 1
  | .ptr d => uptoBulk d + 1
  | .slice elems spare => uptoBulkAll elems + uptoBulkAll spare + 1
  | .agg parts => uptoBulkAll parts + 1
  | .iface _ d => uptoBulk d + 1
  | .map entries => uptoBulkEntries entries + 1
  | .held _ => 1
def uptoBulkAll {H : Type} : List (DataW H) → Nat
  | [] => 0
  | d :: r => uptoBulk d + uptoBulkAll r
def uptoBulkEntries {H : Type} : List (Lit × DataW H) → Nat
  | [] => 0
  | x :: r => uptoBulkEntry x + uptoBulkEntries r
def uptoBulkEntry {H : Type} : Lit × DataW H → Nat
  | (.string bytes, d) => bytes.length + uptoBulk d + 1
  | (_, d) => uptoBulk d + 1
 end
def uptoSmall : (H : Type) → List (DataW H) → Bool := fun _ ds => decide (uptoBulkAll ds ≤ 1048576)
def OpenSpec.upto (s : _root_.Go.ChangeSpec) : _root_.Go.OpenSpec := { _root_.Go.OpenSpec.ofChange s with cond := some uptoSmall }

/-- 'laws.FnExactCompareNetlists', WHERE WHAT IT READS IS OF BULK AT MOST 1048576: true; the input reads as it did. -/
def fnExactCompareNetlistsUptoRow : OpenClaim := { program := "ytifbffianbgeaaagreat", sum := "ebe8617ee3f3a5f6f4c00c01559013fb0a999e10f20472e5f2c034a6118bb02f", func := "loop.example/g00890/laws.FnExactCompareNetlists", spec := "fnExactCompareNetlists", unfollowed := true, recurses := true, apart := false, narrowed := true }
def FnExactCompareNetlistsUptoSaid : Prop := fnExactCompareNetlistsUptoRow.holds Tryz.pinned (OpenSpec.upto fnExactCompareNetlistsSpec)

/-- 'laws.FnExactExplainMismatch', WHERE WHAT IT READS IS OF BULK AT MOST 1048576: true; the input reads as it did. -/
def fnExactExplainMismatchUptoRow : OpenClaim := { program := "ytifbffianbgeaaagreat", sum := "ebe8617ee3f3a5f6f4c00c01559013fb0a999e10f20472e5f2c034a6118bb02f", func := "loop.example/g00890/laws.FnExactExplainMismatch", spec := "fnExactExplainMismatch", unfollowed := true, recurses := true, apart := false, narrowed := true }
def FnExactExplainMismatchUptoSaid : Prop := fnExactExplainMismatchUptoRow.holds Tryz.pinned (OpenSpec.upto fnExactExplainMismatchSpec)

/-- 'laws.FnExactAutomorphismCount', WHERE WHAT IT READS IS OF BULK AT MOST 1048576: true; the input reads as it did. -/
def fnExactAutomorphismCountUptoRow : OpenClaim := { program := "ytifbffianbgeaaagreat", sum := "ebe8617ee3f3a5f6f4c00c01559013fb0a999e10f20472e5f2c034a6118bb02f", func := "loop.example/g00890/laws.FnExactAutomorphismCount", spec := "fnExactAutomorphismCount", unfollowed := true, recurses := true, apart := false, narrowed := true }
def FnExactAutomorphismCountUptoSaid : Prop := fnExactAutomorphismCountUptoRow.holds Tryz.pinned (OpenSpec.upto fnExactAutomorphismCountSpec)

/-- 'laws.FnMatch', WHERE WHAT IT READS IS OF BULK AT MOST 1048576: true; the input reads as it did. -/
def fnMatchUptoRow : OpenClaim := { program := "ytifbffianbgeaaagreat", sum := "ebe8617ee3f3a5f6f4c00c01559013fb0a999e10f20472e5f2c034a6118bb02f", func := "loop.example/g00890/laws.FnMatch", spec := "fnMatch", unfollowed := true, recurses := true, apart := false, narrowed := true }
def FnMatchUptoSaid : Prop := fnMatchUptoRow.holds Tryz.pinned (OpenSpec.upto fnMatchSpec)

/-- 'laws.FnPermuted', WHERE WHAT IT READS IS OF BULK AT MOST 1048576: true; the input reads as it did. -/
def fnPermutedUptoRow : OpenClaim := { program := "ytifbffianbgeaaagreat", sum := "ebe8617ee3f3a5f6f4c00c01559013fb0a999e10f20472e5f2c034a6118bb02f", func := "loop.example/g00890/laws.FnPermuted", spec := "fnPermuted", unfollowed := true, recurses := true, apart := false, narrowed := true }
def FnPermutedUptoSaid : Prop := fnPermutedUptoRow.holds Tryz.pinned (OpenSpec.upto fnPermutedSpec)

/-- 'laws.FnChangedSize', WHERE WHAT IT READS IS OF BULK AT MOST 1048576: true; the input reads as it did. -/
def fnChangedSizeUptoRow : OpenClaim := { program := "ytifbffianbgeaaagreat", sum := "ebe8617ee3f3a5f6f4c00c01559013fb0a999e10f20472e5f2c034a6118bb02f", func := "loop.example/g00890/laws.FnChangedSize", spec := "fnChangedSize", unfollowed := true, recurses := true, apart := false, narrowed := true }
def FnChangedSizeUptoSaid : Prop := fnChangedSizeUptoRow.holds Tryz.pinned (OpenSpec.upto fnChangedSizeSpec)

/-- 'laws.FnAutomorphisms', WHERE WHAT IT READS IS OF BULK AT MOST 1048576: true; the input reads as it did. -/
def fnAutomorphismsUptoRow : OpenClaim := { program := "ytifbffianbgeaaagreat", sum := "ebe8617ee3f3a5f6f4c00c01559013fb0a999e10f20472e5f2c034a6118bb02f", func := "loop.example/g00890/laws.FnAutomorphisms", spec := "fnAutomorphisms", unfollowed := true, recurses := true, apart := false, narrowed := true }
def FnAutomorphismsUptoSaid : Prop := fnAutomorphismsUptoRow.holds Tryz.pinned (OpenSpec.upto fnAutomorphismsSpec)

end Rows
end Go.Proofs.YtifbffianbgeaaaGreat
