/- Contracts of the two MakeRatio. -/
import Derived.Test.YtjolkdckhmmenaaValid0
namespace Go.Proofs.Ytjolkdckhmmenaa
open Go.RowKit

end Go.Proofs.Ytjolkdckhmmenaa
