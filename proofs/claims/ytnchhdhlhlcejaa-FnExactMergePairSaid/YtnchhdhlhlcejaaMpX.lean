/- MergePair: both contracts for all arguments; the netlist's bounds. -/
import Derived.Test.YtnchhdhlhlcejaaSpecMp
import Derived.Test.YtnchhdhlhlcejaaImplMp
import Derived.Test.YtnchhdhlhlcejaaNlOwns
namespace Go.Proofs.Ytnchhdhlhlcejaa
open Go.RowKit
set_option linter.unusedVariables false
set_option linter.unusedSimpArgs false

theorem dsum_three (ds : List Dv) (h : ∀ d ∈ ds, d.pins.length ≤ 3) : dsum ds ≤ 6 * ds.length := by
  induction ds with
  | nil => simp [dsum]
  | cons d ds ih =>
    have h1 := ih (fun e he => h e (by simp [he]))
    have h2 := h d (by simp)
    simp only [dsum, List.length_cons]
    omega
end Go.Proofs.Ytnchhdhlhlcejaa
