/- Contracts of the functions of package laws over a port. -/
import Derived.Test.YthcaipohdeigeaaPort
namespace Go.Proofs.Ythcaipohdeigeaa
open Go.RowKit
set_option linter.unusedVariables false
set_option linter.unusedSimpArgs false

set_option maxRecDepth 100000 in
set_option maxHeartbeats 1000000 in
theorem szPort_any (name : ByteArray) (net : Int) (l : Int) (w : World) (hn : name.size ≤ 9223372036854775807) (hl : 0 ≤ l) (hl' : l ≤ 1048576) :
    Calls Try.prog 109 #[.agg #[.string name, .int .i64 net], .int .i64 l] w fun e w' => e = .returned (.int .i64 (if l < name.size then -1 else l - name.size)) ∧ Below w.heap.size w w' := by
  obtain ⟨r, hr⟩ : ∃ r : Int, (if l < name.size then (-1 : Int) else l - name.size) = r := ⟨_, rfl⟩
  rw [hr]
  have HR := Lib.hid hr
  clear hr
  by_cases hlt : l < name.size
  · go_enter Try.func109, Try.ntmps109
    go_wp2
    go_ret
    exact ⟨ret_i64 (by rw [← HR.out, if_pos hlt]), (by ((repeat (first | (with_reducible exact Below.refl _ _) | (with_reducible refine below_drewN ?_ _) | (with_reducible refine Below.drew ?_) | (with_reducible refine below_al ?_ _) | (with_reducible refine below_on (by assumption) ?_) | ((with_reducible refine Below.setCell ?_ ?_ _); rotate_left; focus (first | omega | (simp; done) | (simp; omega))) | (with_reducible assumption))); done))⟩
  · go_enter Try.func109, Try.ntmps109
    go_wp2
    go_ret
    exact ⟨ret_i64 (by rw [← HR.out, if_neg (by omega)]), (by ((repeat (first | (with_reducible exact Below.refl _ _) | (with_reducible refine below_drewN ?_ _) | (with_reducible refine Below.drew ?_) | (with_reducible refine below_al ?_ _) | (with_reducible refine below_on (by assumption) ?_) | ((with_reducible refine Below.setCell ?_ ?_ _); rotate_left; focus (first | omega | (simp; done) | (simp; omega))) | (with_reducible assumption))); done))⟩

set_option maxRecDepth 100000 in
set_option maxHeartbeats 1000000 in
theorem toPort_any (name : ByteArray) (net : Int) (w : World) :
    Calls Try.prog 111 #[.agg #[.string name, .int .i64 net]] w fun e w' => e = .returned (.agg #[.string name, .int .i64 net]) ∧ Below w.heap.size w w' := by
  go_enter Try.func111, Try.ntmps111
  go_wp2
  exact bodyPost_ret (v := .agg #[.string name, .int .i64 net]) (by simp [results, Try.results111, go_sem, *]) rfl ⟨rfl, (by ((repeat (first | (with_reducible exact Below.refl _ _) | (with_reducible refine below_drewN ?_ _) | (with_reducible refine Below.drew ?_) | (with_reducible refine below_al ?_ _) | (with_reducible refine below_on (by assumption) ?_) | ((with_reducible refine Below.setCell ?_ ?_ _); rotate_left; focus (first | omega | (simp; done) | (simp; omega))) | (with_reducible assumption))); done))⟩

set_option maxRecDepth 100000 in
set_option maxHeartbeats 1000000 in
theorem eqPort_refl (name : ByteArray) (net : Int) (w : World) :
    Calls Try.prog 116 #[.agg #[.string name, .int .i64 net], .agg #[.string name, .int .i64 net]] w fun e w' => e = .returned (.bool true) ∧ Below w.heap.size w w' := by
  go_enter Try.func116, Try.ntmps116
  go_wp2
  go_ret
  exact ⟨rfl, (by ((repeat (first | (with_reducible exact Below.refl _ _) | (with_reducible refine below_drewN ?_ _) | (with_reducible refine Below.drew ?_) | (with_reducible refine below_al ?_ _) | (with_reducible refine below_on (by assumption) ?_) | ((with_reducible refine Below.setCell ?_ ?_ _); rotate_left; focus (first | omega | (simp; done) | (simp; omega))) | (with_reducible assumption))); done))⟩
end Go.Proofs.Ythcaipohdeigeaa
