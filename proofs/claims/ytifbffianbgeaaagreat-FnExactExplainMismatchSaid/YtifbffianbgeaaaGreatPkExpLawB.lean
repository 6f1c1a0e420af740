/- The length of a small number, for the statement's proof. -/
import Derived.Test.YtifbffianbgeaaaGreatPkExpLaw5
import Derived.Deep.AppendLies
import Derived.Deep.AppendSrc
import Derived.Deep.RegionHeldLaw
import Derived.Deep.RegionLaw
import Derived.Shelf.Abstract
import Derived.BigQuiet
namespace Go.Proofs.YtifbffianbgeaaaGreat
open Go.RowKit
set_option linter.unusedVariables false
set_option linter.unusedSimpArgs false
set_option maxRecDepth 100000 in
set_option maxHeartbeats 2000000 in
theorem len64_any (s : Nat) (hs : s ≤ 255) (w : World) :
    Calls Tryz.prog 189 #[.int .u64 (s : Int)] w fun e w' => (∃ q : Int, e = .returned (.int .i64 q)) ∧ w = w' := by
  go_enter Tryz.func189, Tryz.ntmps189
  have i1 : ¬ (s : Int) ≥ 4294967296 := by omega
  have i2 : ¬ (s : Int) ≥ 65536 := by omega
  have i3 : ¬ (s : Int) ≥ 256 := by omega
  go_wp2
  go_ret
  exact ⟨⟨_, rfl⟩, rfl⟩
end Go.Proofs.YtifbffianbgeaaaGreat
