/- Slices of slices of int64: what a walk reads of them; slices.Equal; the closures of ranks; slices.IndexFunc. -/
import Derived.Test.YtjldkejegdljiaaRank0
import Derived.Shelf.Abstract
import Derived.BigRegion
import Derived.BigQuiet
namespace Go.Proofs.Ytjldkejegdljiaa
open Go.RowKit
set_option linter.unusedVariables false
set_option linter.unusedSimpArgs false

end Go.Proofs.Ytjldkejegdljiaa
