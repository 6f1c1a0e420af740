/- Contracts of the size tests of ratios, and of the sums and products, of both packages. -/
import Derived.Test.YtjolkdckhmmenaaValid
import Derived.Test.YtjolkdckhmmenaaRMath
namespace Go.Proofs.Ytjolkdckhmmenaa
open Go.RowKit

set_option maxHeartbeats 1000000 in
theorem l26Factor_any (n d : Int) (w : World) :
    Calls Try.prog 24 #[.agg #[.int .i64 n, .int .i64 d]] w fun e w' => e = .returned (.bool (fcB n d)) ∧ Below w.heap.size w w' := by
  rcases Bool.eq_false_or_eq_true (inB n (-1000000000) 1000000000) with a | a
  all_goals
    have e1 := Lib.hid (show fcB n d = (inB n (-1000000000) 1000000000 && decide (d ≤ 1000000000)) from rfl)
    rw [a] at e1
    rw [e1.out]
    go_enter Try.func24, Try.ntmps24
    go_wp2_with ((go_at_call 32; refine (l16In_any _ _ _ _).mono ?_; rintro e w' ⟨rfl, rfl⟩))
    go_ret
    exact ⟨by simp, (by ((repeat (first | (with_reducible exact Below.refl _ _) | (with_reducible refine below_drewN ?_ _) | (with_reducible refine Below.drew ?_) | (with_reducible refine below_al ?_ _) | (with_reducible refine below_on (by assumption) ?_) | ((with_reducible refine Below.setCell ?_ ?_ _); rotate_left; focus (first | omega | (simp; done) | (simp; omega))) | (with_reducible assumption))); done))⟩


theorem l26Factor_is (n d : Int) (b : Bool) (w : World) (h : fcB n d = b) :
    Calls Try.prog 24 #[.agg #[.int .i64 n, .int .i64 d]] w fun e w' => e = .returned (.bool b) ∧ Below w.heap.size w w' := h ▸ l26Factor_any n d w

end Go.Proofs.Ytjolkdckhmmenaa
