/- The program's IsValidNetlist. -/
import Derived.Test.YtjolkdckhmmenaaValid1
import Derived.Test.YtjolkdckhmmenaaValid0
import Derived.Test.YtjolkdckhmmenaaFidxs
import Derived.WalkLawsBesides
namespace Go.Proofs.Ytjolkdckhmmenaa
open Go.RowKit
set_option linter.unusedVariables false
set_option linter.unusedSimpArgs false

theorem lt_of_cell {w : World} {p : Addr} {v : Value} (h : w.cell? p = some v) : p.block < w.heap.size := by
  rcases Nat.lt_or_ge p.block w.heap.size with h' | h'
  · exact h'
  · simp [World.cell?, Array.getElem?_eq_none h'] at h

theorem dvs_any (nets : Int) (ds : List Dv) : (ds.any fun d => !dvB nets d) = !(ds.all (dvB nets)) := by
  induction ds with
  | nil => rfl
  | cons x xs ih => simp [ih]

end Go.Proofs.Ytjolkdckhmmenaa
