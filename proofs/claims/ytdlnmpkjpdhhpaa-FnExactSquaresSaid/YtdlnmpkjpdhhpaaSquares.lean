/- Contracts of the two IsValidRect, of toRect and of the two Squares. -/
import Derived.Test.YtdlnmpkjpdhhpaaGcd
import Derived.Test.YtdlnmpkjpdhhpaaRMath
import Derived.Test.YtdlnmpkjpdhhpaaBlk
namespace Go.Proofs.Ytdlnmpkjpdhhpaa
open Go.RowKit
set_option linter.unusedSimpArgs false
set_option linter.unusedVariables false

/-- A rectangle is valid. -/
def rcB (x0 y0 x1 y1 : Int) : Bool := decide (-40 ≤ x0 ∧ x0 < x1 ∧ x1 ≤ 40 ∧ -40 ≤ y0 ∧ y0 < y1 ∧ y1 ≤ 40)
theorem rcB_iff {x0 y0 x1 y1 : Int} : rcB x0 y0 x1 y1 = true ↔ (-40 ≤ x0 ∧ x0 < x1 ∧ x1 ≤ 40 ∧ -40 ≤ y0 ∧ y0 < y1 ∧ y1 ≤ 40) := by simp [rcB]
theorem rcB_no {x0 y0 x1 y1 : Int} (h : ¬ (-40 ≤ x0 ∧ x0 < x1 ∧ x1 ≤ 40 ∧ -40 ≤ y0 ∧ y0 < y1 ∧ y1 ≤ 40)) : rcB x0 y0 x1 y1 = false := by simp only [rcB, decide_eq_false_iff_not]; exact h

set_option maxHeartbeats 1000000 in
theorem specRect_any (x0 y0 x1 y1 : Int) (w : World) :
    Calls Try.prog 52 #[.agg #[.int .i64 x0, .int .i64 y0, .int .i64 x1, .int .i64 y1]] w fun e w' => e = .returned (.bool (rcB x0 y0 x1 y1)) ∧ Below w.heap.size w w' := by
  by_cases c1 : -40 ≤ x0
  · by_cases c2 : x0 < x1
    · by_cases c3 : x1 ≤ 40
      · by_cases c4 : -40 ≤ y0
        · by_cases c5 : y0 < y1
          · by_cases c6 : y1 ≤ 40
            · rw [rcB_iff.2 ⟨c1, c2, c3, c4, c5, c6⟩]
              go_enter Try.func52, Try.ntmps52
              go_wp2
              go_ret
              exact ⟨rfl, (by ((repeat (first | (with_reducible exact Below.refl _ _) | (with_reducible refine below_drewN ?_ _) | (with_reducible refine Below.drew ?_) | (with_reducible refine below_al ?_ _) | (with_reducible refine below_on (by assumption) ?_) | ((with_reducible refine Below.setCell ?_ ?_ _); rotate_left; focus (first | omega | (simp; done) | (simp; omega))) | (with_reducible assumption))); done))⟩
            · rw [rcB_no (by omega)]
              go_enter Try.func52, Try.ntmps52
              go_wp2
              go_ret
              exact ⟨rfl, (by ((repeat (first | (with_reducible exact Below.refl _ _) | (with_reducible refine below_drewN ?_ _) | (with_reducible refine Below.drew ?_) | (with_reducible refine below_al ?_ _) | (with_reducible refine below_on (by assumption) ?_) | ((with_reducible refine Below.setCell ?_ ?_ _); rotate_left; focus (first | omega | (simp; done) | (simp; omega))) | (with_reducible assumption))); done))⟩
          · rw [rcB_no (by omega)]
            go_enter Try.func52, Try.ntmps52
            go_wp2
            go_ret
            exact ⟨rfl, (by ((repeat (first | (with_reducible exact Below.refl _ _) | (with_reducible refine below_drewN ?_ _) | (with_reducible refine Below.drew ?_) | (with_reducible refine below_al ?_ _) | (with_reducible refine below_on (by assumption) ?_) | ((with_reducible refine Below.setCell ?_ ?_ _); rotate_left; focus (first | omega | (simp; done) | (simp; omega))) | (with_reducible assumption))); done))⟩
        · rw [rcB_no (by omega)]
          go_enter Try.func52, Try.ntmps52
          go_wp2
          go_ret
          exact ⟨rfl, (by ((repeat (first | (with_reducible exact Below.refl _ _) | (with_reducible refine below_drewN ?_ _) | (with_reducible refine Below.drew ?_) | (with_reducible refine below_al ?_ _) | (with_reducible refine below_on (by assumption) ?_) | ((with_reducible refine Below.setCell ?_ ?_ _); rotate_left; focus (first | omega | (simp; done) | (simp; omega))) | (with_reducible assumption))); done))⟩
      · rw [rcB_no (by omega)]
        go_enter Try.func52, Try.ntmps52
        go_wp2
        go_ret
        exact ⟨rfl, (by ((repeat (first | (with_reducible exact Below.refl _ _) | (with_reducible refine below_drewN ?_ _) | (with_reducible refine Below.drew ?_) | (with_reducible refine below_al ?_ _) | (with_reducible refine below_on (by assumption) ?_) | ((with_reducible refine Below.setCell ?_ ?_ _); rotate_left; focus (first | omega | (simp; done) | (simp; omega))) | (with_reducible assumption))); done))⟩
    · rw [rcB_no (by omega)]
      go_enter Try.func52, Try.ntmps52
      go_wp2
      go_ret
      exact ⟨rfl, (by ((repeat (first | (with_reducible exact Below.refl _ _) | (with_reducible refine below_drewN ?_ _) | (with_reducible refine Below.drew ?_) | (with_reducible refine below_al ?_ _) | (with_reducible refine below_on (by assumption) ?_) | ((with_reducible refine Below.setCell ?_ ?_ _); rotate_left; focus (first | omega | (simp; done) | (simp; omega))) | (with_reducible assumption))); done))⟩
  · rw [rcB_no (by omega)]
    go_enter Try.func52, Try.ntmps52
    go_wp2
    go_ret
    exact ⟨rfl, (by ((repeat (first | (with_reducible exact Below.refl _ _) | (with_reducible refine below_drewN ?_ _) | (with_reducible refine Below.drew ?_) | (with_reducible refine below_al ?_ _) | (with_reducible refine below_on (by assumption) ?_) | ((with_reducible refine Below.setCell ?_ ?_ _); rotate_left; focus (first | omega | (simp; done) | (simp; omega))) | (with_reducible assumption))); done))⟩
theorem specRect_is (x0 y0 x1 y1 : Int) (b : Bool) (w : World) (h : rcB x0 y0 x1 y1 = b) :
    Calls Try.prog 52 #[.agg #[.int .i64 x0, .int .i64 y0, .int .i64 x1, .int .i64 y1]] w fun e w' => e = .returned (.bool b) ∧ Below w.heap.size w w' := h ▸ specRect_any x0 y0 x1 y1 w

set_option maxHeartbeats 1000000 in
theorem implRect_any (x0 y0 x1 y1 : Int) (w : World) :
    Calls Try.prog 53 #[.agg #[.int .i64 x0, .int .i64 y0, .int .i64 x1, .int .i64 y1]] w fun e w' => e = .returned (.bool (rcB x0 y0 x1 y1)) ∧ Below w.heap.size w w' := by
  by_cases c1 : -40 ≤ x0
  · by_cases c2 : x0 < x1
    · by_cases c3 : x1 ≤ 40
      · by_cases c4 : -40 ≤ y0
        · by_cases c5 : y0 < y1
          · by_cases c6 : y1 ≤ 40
            · rw [rcB_iff.2 ⟨c1, c2, c3, c4, c5, c6⟩]
              go_enter Try.func53, Try.ntmps53
              go_wp2
              go_ret
              exact ⟨rfl, (by ((repeat (first | (with_reducible exact Below.refl _ _) | (with_reducible refine below_drewN ?_ _) | (with_reducible refine Below.drew ?_) | (with_reducible refine below_al ?_ _) | (with_reducible refine below_on (by assumption) ?_) | ((with_reducible refine Below.setCell ?_ ?_ _); rotate_left; focus (first | omega | (simp; done) | (simp; omega))) | (with_reducible assumption))); done))⟩
            · rw [rcB_no (by omega)]
              go_enter Try.func53, Try.ntmps53
              go_wp2
              go_ret
              exact ⟨rfl, (by ((repeat (first | (with_reducible exact Below.refl _ _) | (with_reducible refine below_drewN ?_ _) | (with_reducible refine Below.drew ?_) | (with_reducible refine below_al ?_ _) | (with_reducible refine below_on (by assumption) ?_) | ((with_reducible refine Below.setCell ?_ ?_ _); rotate_left; focus (first | omega | (simp; done) | (simp; omega))) | (with_reducible assumption))); done))⟩
          · rw [rcB_no (by omega)]
            go_enter Try.func53, Try.ntmps53
            go_wp2
            go_ret
            exact ⟨rfl, (by ((repeat (first | (with_reducible exact Below.refl _ _) | (with_reducible refine below_drewN ?_ _) | (with_reducible refine Below.drew ?_) | (with_reducible refine below_al ?_ _) | (with_reducible refine below_on (by assumption) ?_) | ((with_reducible refine Below.setCell ?_ ?_ _); rotate_left; focus (first | omega | (simp; done) | (simp; omega))) | (with_reducible assumption))); done))⟩
        · rw [rcB_no (by omega)]
          go_enter Try.func53, Try.ntmps53
          go_wp2
          go_ret
          exact ⟨rfl, (by ((repeat (first | (with_reducible exact Below.refl _ _) | (with_reducible refine below_drewN ?_ _) | (with_reducible refine Below.drew ?_) | (with_reducible refine below_al ?_ _) | (with_reducible refine below_on (by assumption) ?_) | ((with_reducible refine Below.setCell ?_ ?_ _); rotate_left; focus (first | omega | (simp; done) | (simp; omega))) | (with_reducible assumption))); done))⟩
      · rw [rcB_no (by omega)]
        go_enter Try.func53, Try.ntmps53
        go_wp2
        go_ret
        exact ⟨rfl, (by ((repeat (first | (with_reducible exact Below.refl _ _) | (with_reducible refine below_drewN ?_ _) | (with_reducible refine Below.drew ?_) | (with_reducible refine below_al ?_ _) | (with_reducible refine below_on (by assumption) ?_) | ((with_reducible refine Below.setCell ?_ ?_ _); rotate_left; focus (first | omega | (simp; done) | (simp; omega))) | (with_reducible assumption))); done))⟩
    · rw [rcB_no (by omega)]
      go_enter Try.func53, Try.ntmps53
      go_wp2
      go_ret
      exact ⟨rfl, (by ((repeat (first | (with_reducible exact Below.refl _ _) | (with_reducible refine below_drewN ?_ _) | (with_reducible refine Below.drew ?_) | (with_reducible refine below_al ?_ _) | (with_reducible refine below_on (by assumption) ?_) | ((with_reducible refine Below.setCell ?_ ?_ _); rotate_left; focus (first | omega | (simp; done) | (simp; omega))) | (with_reducible assumption))); done))⟩
  · rw [rcB_no (by omega)]
    go_enter Try.func53, Try.ntmps53
    go_wp2
    go_ret
    exact ⟨rfl, (by ((repeat (first | (with_reducible exact Below.refl _ _) | (with_reducible refine below_drewN ?_ _) | (with_reducible refine Below.drew ?_) | (with_reducible refine below_al ?_ _) | (with_reducible refine below_on (by assumption) ?_) | ((with_reducible refine Below.setCell ?_ ?_ _); rotate_left; focus (first | omega | (simp; done) | (simp; omega))) | (with_reducible assumption))); done))⟩
theorem implRect_is (x0 y0 x1 y1 : Int) (b : Bool) (w : World) (h : rcB x0 y0 x1 y1 = b) :
    Calls Try.prog 53 #[.agg #[.int .i64 x0, .int .i64 y0, .int .i64 x1, .int .i64 y1]] w fun e w' => e = .returned (.bool b) ∧ Below w.heap.size w w' := h ▸ implRect_any x0 y0 x1 y1 w

set_option maxHeartbeats 1000000 in
theorem toRect_any (x0 y0 x1 y1 : Int) (w : World) :
    Calls Try.prog 24 #[.agg #[.int .i64 x0, .int .i64 y0, .int .i64 x1, .int .i64 y1]] w fun e w' => e = .returned (.agg #[.int .i64 x0, .int .i64 y0, .int .i64 x1, .int .i64 y1]) ∧ Below w.heap.size w w' := by
  go_enter Try.func24, Try.ntmps24
  go_wp2
  exact bodyPost_ret (v := .agg #[.int .i64 x0, .int .i64 y0, .int .i64 x1, .int .i64 y1]) (by simp [results, Try.results24, go_sem]) rfl ⟨rfl, (by ((repeat (first | (with_reducible exact Below.refl _ _) | (with_reducible refine below_drewN ?_ _) | (with_reducible refine Below.drew ?_) | (with_reducible refine below_al ?_ _) | (with_reducible refine below_on (by assumption) ?_) | ((with_reducible refine Below.setCell ?_ ?_ _); rotate_left; focus (first | omega | (simp; done) | (simp; omega))) | (with_reducible assumption))); done))⟩

/-- What Squares hands back. -/
def sqC (b : Bool) : Int := if b = true then 0 else 1
def sqA (x0 y0 x1 y1 : Int) (vert : Bool) : Int := if vert = true then y1 - y0 else x1 - x0
def sqB (x0 y0 x1 y1 : Int) (vert : Bool) : Int := if vert = true then x1 - x0 else y1 - y0
set_option maxHeartbeats 2000000 in
theorem specSquares_any (x0 y0 x1 y1 : Int) (vert : Bool) (w : World) :
    Calls Try.prog 23 #[.agg #[.int .i64 x0, .int .i64 y0, .int .i64 x1, .int .i64 y1], .bool vert] w fun e w' => e = .returned (.tuple #[.agg #[.int .i64 (whenN (sqC (rcB x0 y0 x1 y1)) (sqA x0 y0 x1 y1 vert) (sqB x0 y0 x1 y1 vert)), .int .i64 (whenD (sqC (rcB x0 y0 x1 y1)) (sqA x0 y0 x1 y1 vert) (sqB x0 y0 x1 y1 vert))], .int .i64 (sqC (rcB x0 y0 x1 y1))]) ∧ Below w.heap.size w w' := by
  rcases Bool.eq_false_or_eq_true (rcB x0 y0 x1 y1) with a | a
  · obtain ⟨c1, c2, c3, c4, c5, c6⟩ := rcB_iff.1 a
    rw [a]
    cases vert
    · rw [show sqC true = 0 from rfl, (when_0 _ _).1, (when_0 _ _).2, show sqA x0 y0 x1 y1 false = x1 - x0 from rfl, show sqB x0 y0 x1 y1 false = y1 - y0 from rfl]
      have e1 := Lib.hid a
      go_enter Try.func23, Try.ntmps23
      go_wp2_with fail
      (refine (specRect_is x0 y0 x1 y1 true _ e1.out).mono ?_; rintro e w1 ⟨rfl, hb1⟩; have hz1 := hb1.size; (try simp at hz1); (try (refine with_fact (p := Blk w1 (w.heap.size) #[.int .i64 x0, .int .i64 y0, .int .i64 x1, .int .i64 y1] 38) (Blk.by hb1 ?_) ?_; (focus ((repeat (first | (with_reducible assumption) | (with_reducible refine Blk.drewN ?_ _) | (with_reducible refine Blk.drew ?_) | ((with_reducible refine Blk.new _ ?_); focus (first | omega | (simp; done) | (simp; omega))) | (with_reducible refine Blk.past ?_ _) | ((with_reducible refine Blk.apart ?_ _ _ _ ?_); rotate_left; focus (first | omega | (simp; done) | (simp; omega))) | (with_reducible refine Blk.by (by assumption) ?_))); done)); intro hk1_0; have hc1_0 := hk1_0.cell; have hf1_0 := hk1_0.free)); (try (refine with_fact (p := Blk w1 (w.heap.size + 1) #[.int .i64 0, .int .i64 0] 23) (Blk.by hb1 ?_) ?_; (focus ((repeat (first | (with_reducible assumption) | (with_reducible refine Blk.drewN ?_ _) | (with_reducible refine Blk.drew ?_) | ((with_reducible refine Blk.new _ ?_); focus (first | omega | (simp; done) | (simp; omega))) | (with_reducible refine Blk.past ?_ _) | ((with_reducible refine Blk.apart ?_ _ _ _ ?_); rotate_left; focus (first | omega | (simp; done) | (simp; omega))) | (with_reducible refine Blk.by (by assumption) ?_))); done)); intro hk1_1; have hc1_1 := hk1_1.cell; have hf1_1 := hk1_1.free)))
      go_wp2_with fail
      
      (refine (l26Reduce_any (x1 - x0) (y1 - y0) _ (by omega) (by omega) (by omega) (by omega) (by omega)).mono ?_; rintro e w2 ⟨rfl, hb2⟩; have hz2 := hb2.size; (try simp at hz2); (try (refine with_fact (p := Blk w2 (w.heap.size) #[.int .i64 x0, .int .i64 y0, .int .i64 x1, .int .i64 y1] 38) (Blk.by hb2 ?_) ?_; (focus ((repeat (first | (with_reducible assumption) | (with_reducible refine Blk.drewN ?_ _) | (with_reducible refine Blk.drew ?_) | ((with_reducible refine Blk.new _ ?_); focus (first | omega | (simp; done) | (simp; omega))) | (with_reducible refine Blk.past ?_ _) | ((with_reducible refine Blk.apart ?_ _ _ _ ?_); rotate_left; focus (first | omega | (simp; done) | (simp; omega))) | (with_reducible refine Blk.by (by assumption) ?_))); done)); intro hk2_0; have hc2_0 := hk2_0.cell; have hf2_0 := hk2_0.free)); (try (refine with_fact (p := Blk w2 (w.heap.size + 1) #[.int .i64 0, .int .i64 0] 23) (Blk.by hb2 ?_) ?_; (focus ((repeat (first | (with_reducible assumption) | (with_reducible refine Blk.drewN ?_ _) | (with_reducible refine Blk.drew ?_) | ((with_reducible refine Blk.new _ ?_); focus (first | omega | (simp; done) | (simp; omega))) | (with_reducible refine Blk.past ?_ _) | ((with_reducible refine Blk.apart ?_ _ _ _ ?_); rotate_left; focus (first | omega | (simp; done) | (simp; omega))) | (with_reducible refine Blk.by (by assumption) ?_))); done)); intro hk2_1; have hc2_1 := hk2_1.cell; have hf2_1 := hk2_1.free)))
      go_wp2
      exact bodyPost_ret (v := .tuple #[.agg #[.int .i64 (redN (x1 - x0) (y1 - y0)), .int .i64 (redD (x1 - x0) (y1 - y0))], .int .i64 0]) (by simp [results, Try.results23, go_sem, *]) rfl ⟨rfl, (by ((repeat (first | (with_reducible exact Below.refl _ _) | (with_reducible refine below_drewN ?_ _) | (with_reducible refine Below.drew ?_) | (with_reducible refine below_al ?_ _) | (with_reducible refine below_on (by assumption) ?_) | ((with_reducible refine Below.setCell ?_ ?_ _); rotate_left; focus (first | omega | (simp; done) | (simp; omega))) | (with_reducible assumption))); done))⟩

    · rw [show sqC true = 0 from rfl, (when_0 _ _).1, (when_0 _ _).2, show sqA x0 y0 x1 y1 true = y1 - y0 from rfl, show sqB x0 y0 x1 y1 true = x1 - x0 from rfl]
      have e1 := Lib.hid a
      go_enter Try.func23, Try.ntmps23
      go_wp2_with fail
      (refine (specRect_is x0 y0 x1 y1 true _ e1.out).mono ?_; rintro e w1 ⟨rfl, hb1⟩; have hz1 := hb1.size; (try simp at hz1); (try (refine with_fact (p := Blk w1 (w.heap.size) #[.int .i64 x0, .int .i64 y0, .int .i64 x1, .int .i64 y1] 38) (Blk.by hb1 ?_) ?_; (focus ((repeat (first | (with_reducible assumption) | (with_reducible refine Blk.drewN ?_ _) | (with_reducible refine Blk.drew ?_) | ((with_reducible refine Blk.new _ ?_); focus (first | omega | (simp; done) | (simp; omega))) | (with_reducible refine Blk.past ?_ _) | ((with_reducible refine Blk.apart ?_ _ _ _ ?_); rotate_left; focus (first | omega | (simp; done) | (simp; omega))) | (with_reducible refine Blk.by (by assumption) ?_))); done)); intro hk1_0; have hc1_0 := hk1_0.cell; have hf1_0 := hk1_0.free)); (try (refine with_fact (p := Blk w1 (w.heap.size + 1) #[.int .i64 0, .int .i64 0] 23) (Blk.by hb1 ?_) ?_; (focus ((repeat (first | (with_reducible assumption) | (with_reducible refine Blk.drewN ?_ _) | (with_reducible refine Blk.drew ?_) | ((with_reducible refine Blk.new _ ?_); focus (first | omega | (simp; done) | (simp; omega))) | (with_reducible refine Blk.past ?_ _) | ((with_reducible refine Blk.apart ?_ _ _ _ ?_); rotate_left; focus (first | omega | (simp; done) | (simp; omega))) | (with_reducible refine Blk.by (by assumption) ?_))); done)); intro hk1_1; have hc1_1 := hk1_1.cell; have hf1_1 := hk1_1.free)))
      go_wp2_with fail
      
      (refine (l26Reduce_any (y1 - y0) (x1 - x0) _ (by omega) (by omega) (by omega) (by omega) (by omega)).mono ?_; rintro e w2 ⟨rfl, hb2⟩; have hz2 := hb2.size; (try simp at hz2); (try (refine with_fact (p := Blk w2 (w.heap.size) #[.int .i64 x0, .int .i64 y0, .int .i64 x1, .int .i64 y1] 38) (Blk.by hb2 ?_) ?_; (focus ((repeat (first | (with_reducible assumption) | (with_reducible refine Blk.drewN ?_ _) | (with_reducible refine Blk.drew ?_) | ((with_reducible refine Blk.new _ ?_); focus (first | omega | (simp; done) | (simp; omega))) | (with_reducible refine Blk.past ?_ _) | ((with_reducible refine Blk.apart ?_ _ _ _ ?_); rotate_left; focus (first | omega | (simp; done) | (simp; omega))) | (with_reducible refine Blk.by (by assumption) ?_))); done)); intro hk2_0; have hc2_0 := hk2_0.cell; have hf2_0 := hk2_0.free)); (try (refine with_fact (p := Blk w2 (w.heap.size + 1) #[.int .i64 0, .int .i64 0] 23) (Blk.by hb2 ?_) ?_; (focus ((repeat (first | (with_reducible assumption) | (with_reducible refine Blk.drewN ?_ _) | (with_reducible refine Blk.drew ?_) | ((with_reducible refine Blk.new _ ?_); focus (first | omega | (simp; done) | (simp; omega))) | (with_reducible refine Blk.past ?_ _) | ((with_reducible refine Blk.apart ?_ _ _ _ ?_); rotate_left; focus (first | omega | (simp; done) | (simp; omega))) | (with_reducible refine Blk.by (by assumption) ?_))); done)); intro hk2_1; have hc2_1 := hk2_1.cell; have hf2_1 := hk2_1.free)))
      go_wp2
      exact bodyPost_ret (v := .tuple #[.agg #[.int .i64 (redN (y1 - y0) (x1 - x0)), .int .i64 (redD (y1 - y0) (x1 - x0))], .int .i64 0]) (by simp [results, Try.results23, go_sem, *]) rfl ⟨rfl, (by ((repeat (first | (with_reducible exact Below.refl _ _) | (with_reducible refine below_drewN ?_ _) | (with_reducible refine Below.drew ?_) | (with_reducible refine below_al ?_ _) | (with_reducible refine below_on (by assumption) ?_) | ((with_reducible refine Below.setCell ?_ ?_ _); rotate_left; focus (first | omega | (simp; done) | (simp; omega))) | (with_reducible assumption))); done))⟩

  · rw [a, show sqC false = 1 from rfl, (when_1 _ _).1, (when_1 _ _).2]
    have e1 := Lib.hid a
    go_enter Try.func23, Try.ntmps23
    go_wp2_with fail
    (refine (specRect_is x0 y0 x1 y1 false _ e1.out).mono ?_; rintro e w1 ⟨rfl, hb1⟩; have hz1 := hb1.size; (try simp at hz1); (try (refine with_fact (p := Blk w1 (w.heap.size) #[.int .i64 x0, .int .i64 y0, .int .i64 x1, .int .i64 y1] 38) (Blk.by hb1 ?_) ?_; (focus ((repeat (first | (with_reducible assumption) | (with_reducible refine Blk.drewN ?_ _) | (with_reducible refine Blk.drew ?_) | ((with_reducible refine Blk.new _ ?_); focus (first | omega | (simp; done) | (simp; omega))) | (with_reducible refine Blk.past ?_ _) | ((with_reducible refine Blk.apart ?_ _ _ _ ?_); rotate_left; focus (first | omega | (simp; done) | (simp; omega))) | (with_reducible refine Blk.by (by assumption) ?_))); done)); intro hk1_0; have hc1_0 := hk1_0.cell; have hf1_0 := hk1_0.free)); (try (refine with_fact (p := Blk w1 (w.heap.size + 1) #[.int .i64 0, .int .i64 0] 23) (Blk.by hb1 ?_) ?_; (focus ((repeat (first | (with_reducible assumption) | (with_reducible refine Blk.drewN ?_ _) | (with_reducible refine Blk.drew ?_) | ((with_reducible refine Blk.new _ ?_); focus (first | omega | (simp; done) | (simp; omega))) | (with_reducible refine Blk.past ?_ _) | ((with_reducible refine Blk.apart ?_ _ _ _ ?_); rotate_left; focus (first | omega | (simp; done) | (simp; omega))) | (with_reducible refine Blk.by (by assumption) ?_))); done)); intro hk1_1; have hc1_1 := hk1_1.cell; have hf1_1 := hk1_1.free)))
    go_wp2
    exact bodyPost_ret (v := .tuple #[.agg #[.int .i64 0, .int .i64 0], .int .i64 1]) (by simp [results, Try.results23, go_sem, *]) rfl ⟨rfl, (by ((repeat (first | (with_reducible exact Below.refl _ _) | (with_reducible refine below_drewN ?_ _) | (with_reducible refine Below.drew ?_) | (with_reducible refine below_al ?_ _) | (with_reducible refine below_on (by assumption) ?_) | ((with_reducible refine Below.setCell ?_ ?_ _); rotate_left; focus (first | omega | (simp; done) | (simp; omega))) | (with_reducible assumption))); done))⟩

set_option maxHeartbeats 2000000 in
theorem implSquares_any (x0 y0 x1 y1 : Int) (vert : Bool) (w : World) :
    Calls Try.prog 25 #[.agg #[.int .i64 x0, .int .i64 y0, .int .i64 x1, .int .i64 y1], .bool vert] w fun e w' => e = .returned (.tuple #[.agg #[.int .i64 (whenN (sqC (rcB x0 y0 x1 y1)) (sqA x0 y0 x1 y1 vert) (sqB x0 y0 x1 y1 vert)), .int .i64 (whenD (sqC (rcB x0 y0 x1 y1)) (sqA x0 y0 x1 y1 vert) (sqB x0 y0 x1 y1 vert))], .int .i64 (sqC (rcB x0 y0 x1 y1))]) ∧ Below w.heap.size w w' := by
  rcases Bool.eq_false_or_eq_true (rcB x0 y0 x1 y1) with a | a
  · obtain ⟨c1, c2, c3, c4, c5, c6⟩ := rcB_iff.1 a
    rw [a]
    cases vert
    · rw [show sqC true = 0 from rfl, (when_0 _ _).1, (when_0 _ _).2, show sqA x0 y0 x1 y1 false = x1 - x0 from rfl, show sqB x0 y0 x1 y1 false = y1 - y0 from rfl]
      have e1 := Lib.hid a
      go_enter Try.func25, Try.ntmps25
      go_wp2_with fail
      (refine (implRect_is x0 y0 x1 y1 true _ e1.out).mono ?_; rintro e w1 ⟨rfl, hb1⟩; have hz1 := hb1.size; (try simp at hz1); (try (refine with_fact (p := Blk w1 (w.heap.size) #[.int .i64 x0, .int .i64 y0, .int .i64 x1, .int .i64 y1] 38) (Blk.by hb1 ?_) ?_; (focus ((repeat (first | (with_reducible assumption) | (with_reducible refine Blk.drewN ?_ _) | (with_reducible refine Blk.drew ?_) | ((with_reducible refine Blk.new _ ?_); focus (first | omega | (simp; done) | (simp; omega))) | (with_reducible refine Blk.past ?_ _) | ((with_reducible refine Blk.apart ?_ _ _ _ ?_); rotate_left; focus (first | omega | (simp; done) | (simp; omega))) | (with_reducible refine Blk.by (by assumption) ?_))); done)); intro hk1_0; have hc1_0 := hk1_0.cell; have hf1_0 := hk1_0.free)); (try (refine with_fact (p := Blk w1 (w.heap.size + 1) #[.int .i64 0, .int .i64 0] 23) (Blk.by hb1 ?_) ?_; (focus ((repeat (first | (with_reducible assumption) | (with_reducible refine Blk.drewN ?_ _) | (with_reducible refine Blk.drew ?_) | ((with_reducible refine Blk.new _ ?_); focus (first | omega | (simp; done) | (simp; omega))) | (with_reducible refine Blk.past ?_ _) | ((with_reducible refine Blk.apart ?_ _ _ _ ?_); rotate_left; focus (first | omega | (simp; done) | (simp; omega))) | (with_reducible refine Blk.by (by assumption) ?_))); done)); intro hk1_1; have hc1_1 := hk1_1.cell; have hf1_1 := hk1_1.free)))
      go_wp2_with fail
      go_quiet (fail)
      go_wp2_with fail
      (refine (lowest_any (x1 - x0) (y1 - y0) _ (by omega) (by omega) (by omega) (by omega) (by omega)).mono ?_; rintro e w2 ⟨rfl, hb2⟩; have hz2 := hb2.size; (try simp at hz2); (try (refine with_fact (p := Blk w2 (w.heap.size) #[.int .i64 x0, .int .i64 y0, .int .i64 x1, .int .i64 y1] 38) (Blk.by hb2 ?_) ?_; (focus ((repeat (first | (with_reducible assumption) | (with_reducible refine Blk.drewN ?_ _) | (with_reducible refine Blk.drew ?_) | ((with_reducible refine Blk.new _ ?_); focus (first | omega | (simp; done) | (simp; omega))) | (with_reducible refine Blk.past ?_ _) | ((with_reducible refine Blk.apart ?_ _ _ _ ?_); rotate_left; focus (first | omega | (simp; done) | (simp; omega))) | (with_reducible refine Blk.by (by assumption) ?_))); done)); intro hk2_0; have hc2_0 := hk2_0.cell; have hf2_0 := hk2_0.free)); (try (refine with_fact (p := Blk w2 (w.heap.size + 1) #[.int .i64 0, .int .i64 0] 23) (Blk.by hb2 ?_) ?_; (focus ((repeat (first | (with_reducible assumption) | (with_reducible refine Blk.drewN ?_ _) | (with_reducible refine Blk.drew ?_) | ((with_reducible refine Blk.new _ ?_); focus (first | omega | (simp; done) | (simp; omega))) | (with_reducible refine Blk.past ?_ _) | ((with_reducible refine Blk.apart ?_ _ _ _ ?_); rotate_left; focus (first | omega | (simp; done) | (simp; omega))) | (with_reducible refine Blk.by (by assumption) ?_))); done)); intro hk2_1; have hc2_1 := hk2_1.cell; have hf2_1 := hk2_1.free)))
      go_wp2
      exact bodyPost_ret (v := .tuple #[.agg #[.int .i64 (redN (x1 - x0) (y1 - y0)), .int .i64 (redD (x1 - x0) (y1 - y0))], .int .i64 0]) (by simp [results, Try.results25, go_sem, *]) rfl ⟨rfl, (by ((repeat (first | (with_reducible exact Below.refl _ _) | (with_reducible refine below_drewN ?_ _) | (with_reducible refine Below.drew ?_) | (with_reducible refine below_al ?_ _) | (with_reducible refine below_on (by assumption) ?_) | ((with_reducible refine Below.setCell ?_ ?_ _); rotate_left; focus (first | omega | (simp; done) | (simp; omega))) | (with_reducible assumption))); done))⟩

    · rw [show sqC true = 0 from rfl, (when_0 _ _).1, (when_0 _ _).2, show sqA x0 y0 x1 y1 true = y1 - y0 from rfl, show sqB x0 y0 x1 y1 true = x1 - x0 from rfl]
      have e1 := Lib.hid a
      go_enter Try.func25, Try.ntmps25
      go_wp2_with fail
      (refine (implRect_is x0 y0 x1 y1 true _ e1.out).mono ?_; rintro e w1 ⟨rfl, hb1⟩; have hz1 := hb1.size; (try simp at hz1); (try (refine with_fact (p := Blk w1 (w.heap.size) #[.int .i64 x0, .int .i64 y0, .int .i64 x1, .int .i64 y1] 38) (Blk.by hb1 ?_) ?_; (focus ((repeat (first | (with_reducible assumption) | (with_reducible refine Blk.drewN ?_ _) | (with_reducible refine Blk.drew ?_) | ((with_reducible refine Blk.new _ ?_); focus (first | omega | (simp; done) | (simp; omega))) | (with_reducible refine Blk.past ?_ _) | ((with_reducible refine Blk.apart ?_ _ _ _ ?_); rotate_left; focus (first | omega | (simp; done) | (simp; omega))) | (with_reducible refine Blk.by (by assumption) ?_))); done)); intro hk1_0; have hc1_0 := hk1_0.cell; have hf1_0 := hk1_0.free)); (try (refine with_fact (p := Blk w1 (w.heap.size + 1) #[.int .i64 0, .int .i64 0] 23) (Blk.by hb1 ?_) ?_; (focus ((repeat (first | (with_reducible assumption) | (with_reducible refine Blk.drewN ?_ _) | (with_reducible refine Blk.drew ?_) | ((with_reducible refine Blk.new _ ?_); focus (first | omega | (simp; done) | (simp; omega))) | (with_reducible refine Blk.past ?_ _) | ((with_reducible refine Blk.apart ?_ _ _ _ ?_); rotate_left; focus (first | omega | (simp; done) | (simp; omega))) | (with_reducible refine Blk.by (by assumption) ?_))); done)); intro hk1_1; have hc1_1 := hk1_1.cell; have hf1_1 := hk1_1.free)))
      go_wp2_with fail
      go_quiet (fail)
      go_wp2_with fail
      (refine (lowest_any (y1 - y0) (x1 - x0) _ (by omega) (by omega) (by omega) (by omega) (by omega)).mono ?_; rintro e w2 ⟨rfl, hb2⟩; have hz2 := hb2.size; (try simp at hz2); (try (refine with_fact (p := Blk w2 (w.heap.size) #[.int .i64 x0, .int .i64 y0, .int .i64 x1, .int .i64 y1] 38) (Blk.by hb2 ?_) ?_; (focus ((repeat (first | (with_reducible assumption) | (with_reducible refine Blk.drewN ?_ _) | (with_reducible refine Blk.drew ?_) | ((with_reducible refine Blk.new _ ?_); focus (first | omega | (simp; done) | (simp; omega))) | (with_reducible refine Blk.past ?_ _) | ((with_reducible refine Blk.apart ?_ _ _ _ ?_); rotate_left; focus (first | omega | (simp; done) | (simp; omega))) | (with_reducible refine Blk.by (by assumption) ?_))); done)); intro hk2_0; have hc2_0 := hk2_0.cell; have hf2_0 := hk2_0.free)); (try (refine with_fact (p := Blk w2 (w.heap.size + 1) #[.int .i64 0, .int .i64 0] 23) (Blk.by hb2 ?_) ?_; (focus ((repeat (first | (with_reducible assumption) | (with_reducible refine Blk.drewN ?_ _) | (with_reducible refine Blk.drew ?_) | ((with_reducible refine Blk.new _ ?_); focus (first | omega | (simp; done) | (simp; omega))) | (with_reducible refine Blk.past ?_ _) | ((with_reducible refine Blk.apart ?_ _ _ _ ?_); rotate_left; focus (first | omega | (simp; done) | (simp; omega))) | (with_reducible refine Blk.by (by assumption) ?_))); done)); intro hk2_1; have hc2_1 := hk2_1.cell; have hf2_1 := hk2_1.free)))
      go_wp2
      exact bodyPost_ret (v := .tuple #[.agg #[.int .i64 (redN (y1 - y0) (x1 - x0)), .int .i64 (redD (y1 - y0) (x1 - x0))], .int .i64 0]) (by simp [results, Try.results25, go_sem, *]) rfl ⟨rfl, (by ((repeat (first | (with_reducible exact Below.refl _ _) | (with_reducible refine below_drewN ?_ _) | (with_reducible refine Below.drew ?_) | (with_reducible refine below_al ?_ _) | (with_reducible refine below_on (by assumption) ?_) | ((with_reducible refine Below.setCell ?_ ?_ _); rotate_left; focus (first | omega | (simp; done) | (simp; omega))) | (with_reducible assumption))); done))⟩

  · rw [a, show sqC false = 1 from rfl, (when_1 _ _).1, (when_1 _ _).2]
    have e1 := Lib.hid a
    go_enter Try.func25, Try.ntmps25
    go_wp2_with fail
    (refine (implRect_is x0 y0 x1 y1 false _ e1.out).mono ?_; rintro e w1 ⟨rfl, hb1⟩; have hz1 := hb1.size; (try simp at hz1); (try (refine with_fact (p := Blk w1 (w.heap.size) #[.int .i64 x0, .int .i64 y0, .int .i64 x1, .int .i64 y1] 38) (Blk.by hb1 ?_) ?_; (focus ((repeat (first | (with_reducible assumption) | (with_reducible refine Blk.drewN ?_ _) | (with_reducible refine Blk.drew ?_) | ((with_reducible refine Blk.new _ ?_); focus (first | omega | (simp; done) | (simp; omega))) | (with_reducible refine Blk.past ?_ _) | ((with_reducible refine Blk.apart ?_ _ _ _ ?_); rotate_left; focus (first | omega | (simp; done) | (simp; omega))) | (with_reducible refine Blk.by (by assumption) ?_))); done)); intro hk1_0; have hc1_0 := hk1_0.cell; have hf1_0 := hk1_0.free)); (try (refine with_fact (p := Blk w1 (w.heap.size + 1) #[.int .i64 0, .int .i64 0] 23) (Blk.by hb1 ?_) ?_; (focus ((repeat (first | (with_reducible assumption) | (with_reducible refine Blk.drewN ?_ _) | (with_reducible refine Blk.drew ?_) | ((with_reducible refine Blk.new _ ?_); focus (first | omega | (simp; done) | (simp; omega))) | (with_reducible refine Blk.past ?_ _) | ((with_reducible refine Blk.apart ?_ _ _ _ ?_); rotate_left; focus (first | omega | (simp; done) | (simp; omega))) | (with_reducible refine Blk.by (by assumption) ?_))); done)); intro hk1_1; have hc1_1 := hk1_1.cell; have hf1_1 := hk1_1.free)))
    go_wp2
    exact bodyPost_ret (v := .tuple #[.agg #[.int .i64 0, .int .i64 0], .int .i64 1]) (by simp [results, Try.results25, go_sem, *]) rfl ⟨rfl, (by ((repeat (first | (with_reducible exact Below.refl _ _) | (with_reducible refine below_drewN ?_ _) | (with_reducible refine Below.drew ?_) | (with_reducible refine below_al ?_ _) | (with_reducible refine below_on (by assumption) ?_) | ((with_reducible refine Below.setCell ?_ ?_ _); rotate_left; focus (first | omega | (simp; done) | (simp; omega))) | (with_reducible assumption))); done))⟩

end Go.Proofs.Ytdlnmpkjpdhhpaa
