/- The reference's validity test of a device. -/
import Derived.Test.YtljlcjficjefdaaValid0
import Derived.Test.YtljlcjficjefdaaNorms
import Derived.Test.YtljlcjficjefdaaFidxs
namespace Go.Proofs.Ytljlcjficjefdaa
open Go.RowKit
set_option linter.unusedVariables false
set_option linter.unusedSimpArgs false

end Go.Proofs.Ytljlcjficjefdaa

/- The program's validity test of a device. -/
namespace Go.Proofs.Ytljlcjficjefdaa
open Go.RowKit
set_option linter.unusedVariables false
set_option linter.unusedSimpArgs false

theorem pins_any (nets : Int) (pins : List Int) : (pins.any fun p => !inB p 0 (nets - 1)) = !(pins.all fun p => inB p 0 (nets - 1)) := by
  induction pins with
  | nil => rfl
  | cons x xs ih => simp [ih]

end Go.Proofs.Ytljlcjficjefdaa
