/- slices.IndexFunc and slices.ContainsFunc over a closure: at Int. -/
import Derived.Test.YtljlcjficjefdaaBase
import Derived.Shelf.Abstract
import Derived.Test.YtljlcjficjefdaaDevs
import Derived.Test.YtljlcjficjefdaaNls
namespace Go.Proofs.Ytljlcjficjefdaa
open Go.RowKit
set_option linter.unusedVariables false
set_option linter.unusedSimpArgs false

end Go.Proofs.Ytljlcjficjefdaa

/- slices.IndexFunc and slices.ContainsFunc over a closure: at Dv. -/
namespace Go.Proofs.Ytljlcjficjefdaa
open Go.RowKit
set_option linter.unusedVariables false
set_option linter.unusedSimpArgs false

end Go.Proofs.Ytljlcjficjefdaa

/- slices.IndexFunc and slices.ContainsFunc over a closure: at Pt. -/
namespace Go.Proofs.Ytljlcjficjefdaa
open Go.RowKit
set_option linter.unusedVariables false
set_option linter.unusedSimpArgs false

end Go.Proofs.Ytljlcjficjefdaa
