/- The walk of FnExactMergePair. -/
import Derived.Test.YtnchhdhlhlcejaaMpX
import Derived.Test.YtnchhdhlhlcejaaIntB
import Derived.Test.YtnchhdhlhlcejaaNlOwns
import Derived.Test.YtnchhdhlhlcejaaNls
import Derived.Deep.DeepCutAuto
import Derived.Deep.RegionHeld3
namespace Go.Proofs.Ytnchhdhlhlcejaa.fnExactMergePair
open Go.RowKit Go.Proofs.Ytnchhdhlhlcejaa
set_option linter.unusedVariables false
set_option linter.unusedSimpArgs false

end Go.Proofs.Ytnchhdhlhlcejaa.fnExactMergePair
