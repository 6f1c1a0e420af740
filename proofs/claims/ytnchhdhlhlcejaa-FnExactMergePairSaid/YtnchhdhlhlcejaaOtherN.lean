/- The reference's l28Other. -/
import Derived.Test.YtnchhdhlhlcejaaMergeM
import Derived.Test.YtnchhdhlhlcejaaParB
import Derived.Test.YtnchhdhlhlcejaaNorms
import Derived.BigRegion
namespace Go.Proofs.Ytnchhdhlhlcejaa
open Go.RowKit
set_option linter.unusedVariables false
set_option linter.unusedSimpArgs false

set_option maxRecDepth 100000 in
set_option maxHeartbeats 1000000 in
theorem l28Other_any (x : Dv) (sv : Value) (net : Int) (w : World) (h : IntSl w sv x.pins) (hs : Shp x) :
    Calls Try.prog 91 #[.agg #[.int .i64 x.kind, sv, .int .i64 x.wd, .int .i64 x.len], .int .i64 net] w fun e w' => e = .returned (.int .i64 (otherN (curP x.pins) (curQ x.pins) net)) ∧ Below w.heap.size w w' := by
  obtain ⟨kind, pins, wd, len⟩ := x
  rcases hs with ⟨k2, p, q, e⟩ | ⟨k2, g, p, q, e⟩
  · dsimp only at e h k2 ⊢
    subst e
    obtain ⟨b, off, cap, rfl, c0, c1, hb⟩ := h.two
    have e1 : (kind == 2) = true := by simpa using k2
    show Calls _ _ _ _ fun e w' => e = .returned (.int .i64 (otherN p q net)) ∧ _
    unfold otherN
    by_cases hp : p = net
    · have e2 : (p == net) = true := by simpa using hp
      rw [if_pos hp]
      clear h k2 hp
      go_enter Try.func91, Try.ntmps91
      go_wp2
      go_ret
      exact ⟨rfl, (by ((repeat (first | (with_reducible exact Below.refl _ _) | (with_reducible refine below_drewN ?_ _) | (with_reducible refine Below.drew ?_) | (with_reducible refine below_al ?_ _) | (with_reducible refine below_on (by assumption) ?_) | ((with_reducible refine Below.setCell ?_ ?_ _); rotate_left; focus (first | omega | (simp; done) | (simp; omega))) | (with_reducible assumption))); done))⟩
    · have e2 : (p == net) = false := by simpa using hp
      rw [if_neg hp]
      clear h k2 hp
      go_enter Try.func91, Try.ntmps91
      go_wp2
      go_ret
      exact ⟨rfl, (by ((repeat (first | (with_reducible exact Below.refl _ _) | (with_reducible refine below_drewN ?_ _) | (with_reducible refine Below.drew ?_) | (with_reducible refine below_al ?_ _) | (with_reducible refine below_on (by assumption) ?_) | ((with_reducible refine Below.setCell ?_ ?_ _); rotate_left; focus (first | omega | (simp; done) | (simp; omega))) | (with_reducible assumption))); done))⟩
  · dsimp only at e h k2 ⊢
    subst e
    obtain ⟨b, off, cap, rfl, c0, c1, c2, hb⟩ := h.three
    have e1 : (kind == 2) = false := by simp; omega
    show Calls _ _ _ _ fun e w' => e = .returned (.int .i64 (otherN p q net)) ∧ _
    unfold otherN
    by_cases hp : p = net
    · have e2 : (p == net) = true := by simpa using hp
      rw [if_pos hp]
      clear h k2 hp
      go_enter Try.func91, Try.ntmps91
      go_wp2
      go_ret
      exact ⟨rfl, (by ((repeat (first | (with_reducible exact Below.refl _ _) | (with_reducible refine below_drewN ?_ _) | (with_reducible refine Below.drew ?_) | (with_reducible refine below_al ?_ _) | (with_reducible refine below_on (by assumption) ?_) | ((with_reducible refine Below.setCell ?_ ?_ _); rotate_left; focus (first | omega | (simp; done) | (simp; omega))) | (with_reducible assumption))); done))⟩
    · have e2 : (p == net) = false := by simpa using hp
      rw [if_neg hp]
      clear h k2 hp
      go_enter Try.func91, Try.ntmps91
      go_wp2
      go_ret
      exact ⟨rfl, (by ((repeat (first | (with_reducible exact Below.refl _ _) | (with_reducible refine below_drewN ?_ _) | (with_reducible refine Below.drew ?_) | (with_reducible refine below_al ?_ _) | (with_reducible refine below_on (by assumption) ?_) | ((with_reducible refine Below.setCell ?_ ?_ _); rotate_left; focus (first | omega | (simp; done) | (simp; omega))) | (with_reducible assumption))); done))⟩
end Go.Proofs.Ytnchhdhlhlcejaa
