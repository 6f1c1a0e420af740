/- A matching as argument and result in memory. -/
import Derived.Test.YtikpalfajfmdnaaIntB
import Derived.Test.YtikpalfajfmdnaaPairMatching
import Derived.Test.YtikpalfajfmdnaaMarks
namespace Go.Proofs.Ytikpalfajfmdnaa
open Go.RowKit
set_option linter.unusedVariables false
set_option linter.unusedSimpArgs false

theorem OwnPr.ma {w : World} {lo hi : Nat} {v : Value} {x : List Int × List Int} (h : OwnPr w lo hi v x) : MaV w v x := by
  obtain ⟨s1, s2, l1, h1, l2, h2, e, a, b, c⟩ := h; exact ⟨s1, s2, e, a.sl, b.sl⟩
end Go.Proofs.Ytikpalfajfmdnaa

