/- The shape of a device. -/
import Derived.Test.YthcaipohdeigeaaNorm
namespace Go.Proofs.Ythcaipohdeigeaa
open Go.RowKit
set_option linter.unusedVariables false
set_option linter.unusedSimpArgs false

/-- The number of pins of a kind. -/
def pinc (kind : Int) : Int := if kind = 0 then 3 else if kind = 1 then 3 else if kind = 2 then 2 else 0

theorem pinCount_any (kind : Int) (w : World) : Calls Try.prog 65 #[.int .i64 kind] w fun e w' => e = .returned (.int .i64 (pinc kind)) ∧ w = w' := by
  obtain ⟨r, hr⟩ : ∃ r, pinc kind = r := ⟨_, rfl⟩
  rw [hr]
  have HR := Lib.hid hr
  clear hr
  by_cases h0 : kind = 0
  · subst h0
    go_enter Try.func65, Try.ntmps65
    go_wp2
    go_ret
    exact ⟨ret_i64 (by rw [← HR.out]; rfl), rfl⟩
  by_cases h1 : kind = 1
  · subst h1
    go_enter Try.func65, Try.ntmps65
    go_wp2
    go_ret
    exact ⟨ret_i64 (by rw [← HR.out]; rfl), rfl⟩
  by_cases h2 : kind = 2
  · subst h2
    go_enter Try.func65, Try.ntmps65
    go_wp2
    go_ret
    exact ⟨ret_i64 (by rw [← HR.out]; rfl), rfl⟩
  go_enter Try.func65, Try.ntmps65
  go_wp2
  go_ret
  exact ⟨ret_i64 (by rw [← HR.out, pinc, if_neg h0, if_neg h1, if_neg h2]), rfl⟩

set_option maxRecDepth 100000 in
set_option maxHeartbeats 1000000 in
theorem l28Shape_any (kind wd len : Int) (a : Option Addr) (n c : Nat) (hn : n ≤ 1048576) (w : World) : Calls Try.prog 62 #[.agg #[.int .i64 kind, .slice a n c, .int .i64 wd, .int .i64 len]] w fun e w' => e = .returned (.bool (decide (0 < pinc kind ∧ (n : Int) = pinc kind))) ∧ Below w.heap.size w w' := by
  obtain ⟨r, hr⟩ : ∃ r, decide (0 < pinc kind ∧ (n : Int) = pinc kind) = r := ⟨_, rfl⟩
  rw [hr]
  have HR := Lib.hid hr
  clear hr
  by_cases h0 : kind = 0
  · subst h0
    go_enter Try.func62, Try.ntmps62
    go_wp2
    go_ret
    exact ⟨ret_bool (by rw [← HR.out]; simp [pinc]; rfl), (by ((repeat (first | (with_reducible exact Below.refl _ _) | (with_reducible refine below_drewN ?_ _) | (with_reducible refine Below.drew ?_) | (with_reducible refine below_al ?_ _) | (with_reducible refine below_on (by assumption) ?_) | ((with_reducible refine Below.setCell ?_ ?_ _); rotate_left; focus (first | omega | (simp; done) | (simp; omega))) | (with_reducible assumption))); done))⟩
  by_cases h1 : kind = 1
  · subst h1
    go_enter Try.func62, Try.ntmps62
    go_wp2
    go_ret
    exact ⟨ret_bool (by rw [← HR.out]; simp [pinc]; rfl), (by ((repeat (first | (with_reducible exact Below.refl _ _) | (with_reducible refine below_drewN ?_ _) | (with_reducible refine Below.drew ?_) | (with_reducible refine below_al ?_ _) | (with_reducible refine below_on (by assumption) ?_) | ((with_reducible refine Below.setCell ?_ ?_ _); rotate_left; focus (first | omega | (simp; done) | (simp; omega))) | (with_reducible assumption))); done))⟩
  by_cases h2 : kind = 2
  · subst h2
    go_enter Try.func62, Try.ntmps62
    go_wp2
    go_ret
    exact ⟨ret_bool (by rw [← HR.out]; simp [pinc]; rfl), (by ((repeat (first | (with_reducible exact Below.refl _ _) | (with_reducible refine below_drewN ?_ _) | (with_reducible refine Below.drew ?_) | (with_reducible refine below_al ?_ _) | (with_reducible refine below_on (by assumption) ?_) | ((with_reducible refine Below.setCell ?_ ?_ _); rotate_left; focus (first | omega | (simp; done) | (simp; omega))) | (with_reducible assumption))); done))⟩
  go_enter Try.func62, Try.ntmps62
  go_wp2
  go_ret
  exact ⟨ret_bool (by rw [← HR.out, pinc, if_neg h0, if_neg h1, if_neg h2]; simp), (by ((repeat (first | (with_reducible exact Below.refl _ _) | (with_reducible refine below_drewN ?_ _) | (with_reducible refine Below.drew ?_) | (with_reducible refine below_al ?_ _) | (with_reducible refine below_on (by assumption) ?_) | ((with_reducible refine Below.setCell ?_ ?_ _); rotate_left; focus (first | omega | (simp; done) | (simp; omega))) | (with_reducible assumption))); done))⟩

set_option maxRecDepth 100000 in
theorem l28First_any (kind wd len : Int) (a : Option Addr) (k c : Nat) (hn : k ≤ 1048576) (w : World) : Calls Try.prog 63 #[.agg #[.int .i64 kind, .slice a (k + 2) c, .int .i64 wd, .int .i64 len]] w fun e w' => e = .returned (.int .i64 k) ∧ Below w.heap.size w w' := by
  go_enter Try.func63, Try.ntmps63
  go_wp2
  go_ret
  exact ⟨ret_i64 (by omega), (by ((repeat (first | (with_reducible exact Below.refl _ _) | (with_reducible refine below_drewN ?_ _) | (with_reducible refine Below.drew ?_) | (with_reducible refine below_al ?_ _) | (with_reducible refine below_on (by assumption) ?_) | ((with_reducible refine Below.setCell ?_ ?_ _); rotate_left; focus (first | omega | (simp; done) | (simp; omega))) | (with_reducible assumption))); done))⟩
end Go.Proofs.Ythcaipohdeigeaa
