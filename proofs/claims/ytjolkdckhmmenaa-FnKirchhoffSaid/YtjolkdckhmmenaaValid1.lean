/- The reference's validity test of a device. -/
import Derived.Test.YtjolkdckhmmenaaValid0
import Derived.Test.YtjolkdckhmmenaaNorms
import Derived.Test.YtjolkdckhmmenaaFidxs
namespace Go.Proofs.Ytjolkdckhmmenaa
open Go.RowKit
set_option linter.unusedVariables false
set_option linter.unusedSimpArgs false

end Go.Proofs.Ytjolkdckhmmenaa

/- The program's validity test of a device. -/
namespace Go.Proofs.Ytjolkdckhmmenaa
open Go.RowKit
set_option linter.unusedVariables false
set_option linter.unusedSimpArgs false

theorem pins_any (nets : Int) (pins : List Int) : (pins.any fun p => !inB p 0 (nets - 1)) = !(pins.all fun p => inB p 0 (nets - 1)) := by
  induction pins with
  | nil => rfl
  | cons x xs ih => simp [ih]

end Go.Proofs.Ytjolkdckhmmenaa
