/- slices.IndexFunc and slices.ContainsFunc over a closure: at Int. -/
import Derived.Test.YtjolkdckhmmenaaBase
import Derived.Shelf.Abstract
import Derived.Test.YtjolkdckhmmenaaDevs
import Derived.Test.YtjolkdckhmmenaaNls
namespace Go.Proofs.Ytjolkdckhmmenaa
open Go.RowKit
set_option linter.unusedVariables false
set_option linter.unusedSimpArgs false

end Go.Proofs.Ytjolkdckhmmenaa

/- slices.IndexFunc and slices.ContainsFunc over a closure: at Dv. -/
namespace Go.Proofs.Ytjolkdckhmmenaa
open Go.RowKit
set_option linter.unusedVariables false
set_option linter.unusedSimpArgs false

end Go.Proofs.Ytjolkdckhmmenaa

/- slices.IndexFunc and slices.ContainsFunc over a closure: at Pt. -/
namespace Go.Proofs.Ytjolkdckhmmenaa
open Go.RowKit
set_option linter.unusedVariables false
set_option linter.unusedSimpArgs false

end Go.Proofs.Ytjolkdckhmmenaa
