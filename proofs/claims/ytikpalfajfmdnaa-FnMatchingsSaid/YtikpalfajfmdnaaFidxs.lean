/- slices.IndexFunc and slices.ContainsFunc over a closure: at Int. -/
import Derived.Test.YtikpalfajfmdnaaBase
import Derived.Shelf.Abstract
import Derived.Test.YtikpalfajfmdnaaDevs
import Derived.Test.YtikpalfajfmdnaaPorts
namespace Go.Proofs.Ytikpalfajfmdnaa
open Go.RowKit
set_option linter.unusedVariables false
set_option linter.unusedSimpArgs false

end Go.Proofs.Ytikpalfajfmdnaa

/- slices.IndexFunc and slices.ContainsFunc over a closure: at Dv. -/
namespace Go.Proofs.Ytikpalfajfmdnaa
open Go.RowKit
set_option linter.unusedVariables false
set_option linter.unusedSimpArgs false

end Go.Proofs.Ytikpalfajfmdnaa

/- slices.IndexFunc and slices.ContainsFunc over a closure: at Pt. -/
namespace Go.Proofs.Ytikpalfajfmdnaa
open Go.RowKit
set_option linter.unusedVariables false
set_option linter.unusedSimpArgs false

end Go.Proofs.Ytikpalfajfmdnaa
