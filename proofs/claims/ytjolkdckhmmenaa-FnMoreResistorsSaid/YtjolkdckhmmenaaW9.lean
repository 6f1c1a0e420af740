/- One ratio at least another one. -/
import Derived.Test.YtjolkdckhmmenaaResM
import Derived.Test.YtjolkdckhmmenaaBase
namespace Go.Proofs.Ytjolkdckhmmenaa
open Go.RowKit
set_option linter.unusedVariables false
set_option linter.unusedSimpArgs false

set_option maxRecDepth 100000 in
set_option maxHeartbeats 4000000 in
theorem w9NotLess_any (an ad bn bd : Int) (w : World) (h1 : 0 ≤ an) (h2 : 0 ≤ ad) (h3 : 0 ≤ bn) (h4 : 0 ≤ bd) (hle : bn * ad ≤ an * bd) :
    Calls Try.prog 10 #[.agg #[.int .i64 an, .int .i64 ad], .agg #[.int .i64 bn, .int .i64 bd]] w fun e w' => e = .returned (.bool true) ∧ Below w.heap.size w w' := by
  by_cases c1 : 1000000000 < an
  · have HLE := Lib.hid hle
    clear hle
    go_enter Try.func10, Try.ntmps10
    go_wp2
    go_ret
    exact ⟨rfl, (by ((repeat (first | (with_reducible exact Below.refl _ _) | (with_reducible refine below_drewN ?_ _) | (with_reducible refine Below.drew ?_) | (with_reducible refine below_al ?_ _) | (with_reducible refine below_on (by assumption) ?_) | ((with_reducible refine Below.setCell ?_ ?_ _); rotate_left; focus (first | omega | (simp; done) | (simp; omega))) | (with_reducible assumption))); done))⟩
  by_cases c2 : 1000000000 < bn
  · have HLE := Lib.hid hle
    clear hle
    go_enter Try.func10, Try.ntmps10
    go_wp2
    go_ret
    exact ⟨rfl, (by ((repeat (first | (with_reducible exact Below.refl _ _) | (with_reducible refine below_drewN ?_ _) | (with_reducible refine Below.drew ?_) | (with_reducible refine below_al ?_ _) | (with_reducible refine below_on (by assumption) ?_) | ((with_reducible refine Below.setCell ?_ ?_ _); rotate_left; focus (first | omega | (simp; done) | (simp; omega))) | (with_reducible assumption))); done))⟩
  by_cases c3 : 1000000000 < ad
  · have HLE := Lib.hid hle
    clear hle
    go_enter Try.func10, Try.ntmps10
    go_wp2
    go_ret
    exact ⟨rfl, (by ((repeat (first | (with_reducible exact Below.refl _ _) | (with_reducible refine below_drewN ?_ _) | (with_reducible refine Below.drew ?_) | (with_reducible refine below_al ?_ _) | (with_reducible refine below_on (by assumption) ?_) | ((with_reducible refine Below.setCell ?_ ?_ _); rotate_left; focus (first | omega | (simp; done) | (simp; omega))) | (with_reducible assumption))); done))⟩
  by_cases c4 : 1000000000 < bd
  · have HLE := Lib.hid hle
    clear hle
    go_enter Try.func10, Try.ntmps10
    go_wp2
    go_ret
    exact ⟨rfl, (by ((repeat (first | (with_reducible exact Below.refl _ _) | (with_reducible refine below_drewN ?_ _) | (with_reducible refine Below.drew ?_) | (with_reducible refine below_al ?_ _) | (with_reducible refine below_on (by assumption) ?_) | ((with_reducible refine Below.setCell ?_ ?_ _); rotate_left; focus (first | omega | (simp; done) | (simp; omega))) | (with_reducible assumption))); done))⟩
  have m1 := mul_bd (a := an) (b := bd) 1000000000 1000000000 (by omega) (by omega) (by omega) (by omega)
  have m2 := mul_bd (a := bn) (b := ad) 1000000000 1000000000 (by omega) (by omega) (by omega) (by omega)
  obtain ⟨P, hP⟩ : ∃ P, an * bd = P := ⟨_, rfl⟩
  obtain ⟨Q, hQ⟩ : ∃ Q, bn * ad = Q := ⟨_, rfl⟩
  rw [hP] at m1 hle
  rw [hQ] at m2 hle
  have w1 : IntKind.i64.wrap (an * bd) = P := by rw [hP]; simp [IntKind.wrap, IntKind.bits, IntKind.signed]; omega
  have w2 : IntKind.i64.wrap (bn * ad) = Q := by rw [hQ]; simp [IntKind.wrap, IntKind.bits, IntKind.signed]; omega
  clear hP hQ m1 m2
  go_enter Try.func10, Try.ntmps10
  go_wp2
  go_ret
  exact ⟨by simp, (by ((repeat (first | (with_reducible exact Below.refl _ _) | (with_reducible refine below_drewN ?_ _) | (with_reducible refine Below.drew ?_) | (with_reducible refine below_al ?_ _) | (with_reducible refine below_on (by assumption) ?_) | ((with_reducible refine Below.setCell ?_ ?_ _); rotate_left; focus (first | omega | (simp; done) | (simp; omega))) | (with_reducible assumption))); done))⟩
end Go.Proofs.Ytjolkdckhmmenaa
