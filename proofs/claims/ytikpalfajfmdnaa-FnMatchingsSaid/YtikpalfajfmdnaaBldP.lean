/- A slice of ports that grows in memory of the call's own. -/
import Derived.Test.YtikpalfajfmdnaaCopies
namespace Go.Proofs.Ytikpalfajfmdnaa
open Go.RowKit
set_option linter.unusedVariables false
set_option linter.unusedSimpArgs false

theorem pcells_push (ps : List Pt) (p : Pt) : pcells (ps ++ [p]) = pcells ps ++ [.string p.name, .int .i64 p.net] := by
  induction ps with
  | nil => rfl
  | cons q qs ih => simp [pcells, ih]
section
variable {w w' : World} {lo hi : Nat} {v : Value} {ps : List Pt}
end

end Go.Proofs.Ytikpalfajfmdnaa
