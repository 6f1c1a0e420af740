/- The walk of FnExactSquares. -/
import Derived.Test.YtdlnmpkjpdhhpaaSquares
import Derived.Test.YtdlnmpkjpdhhpaaMake
import Derived.Test.YtdlnmpkjpdhhpaaOpen
namespace Go.Proofs.Ytdlnmpkjpdhhpaa.fnExactSquares
open Go.RowKit Go.Proofs.Ytdlnmpkjpdhhpaa
set_option linter.unusedVariables false

set_option maxHeartbeats 2000000 in
theorem walk (v0 v1 : Value) (w : World) (r : Int × Int × Int × Int) (w0 : IsRectV v0 r) (vert : Bool) (w1 : IsBool v1 vert) :
    Calls Try.prog 5 #[v0, v1] w fun e w' => e = .returned (.bool true) ∧ Below w.heap.size w w' := by
  obtain ⟨x0, y0, x1, y1⟩ := r
  obtain rfl := w0
  obtain rfl := w1
  dsimp only
  have HA := fun w => specSquares_any x0 y0 x1 y1 vert w
  have HI := fun w => implSquares_any x0 y0 x1 y1 vert w
  generalize whenN (sqC (rcB x0 y0 x1 y1)) (sqA x0 y0 x1 y1 vert) (sqB x0 y0 x1 y1 vert) = rn at HA HI
  generalize whenD (sqC (rcB x0 y0 x1 y1)) (sqA x0 y0 x1 y1 vert) (sqB x0 y0 x1 y1 vert) = rd at HA HI
  generalize sqC (rcB x0 y0 x1 y1) = rc at HA HI
  have HA' := Lib.hid HA
  have HI' := Lib.hid HI
  clear HA HI
  go_enter Try.func5, Try.ntmps5
  go_wp2_with fail
  (refine (toRect_any x0 y0 x1 y1 _).mono ?_; rintro e w1 ⟨rfl, hb1⟩; have hz1 := hb1.size; (try simp at hz1); (try (refine with_fact (p := Blk w1 (w.heap.size) #[.int .i64 x0, .int .i64 y0, .int .i64 x1, .int .i64 y1] 36) (Blk.by hb1 ?_) ?_; (focus ((repeat (first | (with_reducible assumption) | (with_reducible refine Blk.drewN ?_ _) | (with_reducible refine Blk.drew ?_) | ((with_reducible refine Blk.new _ ?_); focus (first | omega | (simp; done) | (simp; omega))) | (with_reducible refine Blk.past ?_ _) | ((with_reducible refine Blk.apart ?_ _ _ _ ?_); rotate_left; focus (first | omega | (simp; done) | (simp; omega))) | (with_reducible refine Blk.by (by assumption) ?_))); done)); intro hk1_0; have hc1_0 := hk1_0.cell; have hf1_0 := hk1_0.free; have hq1_0 := hk1_0.lt)))
  go_wp2_with fail
  (refine (HA'.out _).mono ?_; rintro e w2 ⟨rfl, hb2⟩; have hz2 := hb2.size; (try simp at hz2); (try (refine with_fact (p := Blk w2 (w.heap.size) #[.int .i64 x0, .int .i64 y0, .int .i64 x1, .int .i64 y1] 36) (Blk.by hb2 ?_) ?_; (focus ((repeat (first | (with_reducible assumption) | (with_reducible refine Blk.drewN ?_ _) | (with_reducible refine Blk.drew ?_) | ((with_reducible refine Blk.new _ ?_); focus (first | omega | (simp; done) | (simp; omega))) | (with_reducible refine Blk.past ?_ _) | ((with_reducible refine Blk.apart ?_ _ _ _ ?_); rotate_left; focus (first | omega | (simp; done) | (simp; omega))) | (with_reducible refine Blk.by (by assumption) ?_))); done)); intro hk2_0; have hc2_0 := hk2_0.cell; have hf2_0 := hk2_0.free; have hq2_0 := hk2_0.lt)))
  go_wp2_with fail
  (refine (toRect_any x0 y0 x1 y1 _).mono ?_; rintro e w3 ⟨rfl, hb3⟩; have hz3 := hb3.size; (try simp at hz3); (try (refine with_fact (p := Blk w3 (w.heap.size) #[.int .i64 x0, .int .i64 y0, .int .i64 x1, .int .i64 y1] 36) (Blk.by hb3 ?_) ?_; (focus ((repeat (first | (with_reducible assumption) | (with_reducible refine Blk.drewN ?_ _) | (with_reducible refine Blk.drew ?_) | ((with_reducible refine Blk.new _ ?_); focus (first | omega | (simp; done) | (simp; omega))) | (with_reducible refine Blk.past ?_ _) | ((with_reducible refine Blk.apart ?_ _ _ _ ?_); rotate_left; focus (first | omega | (simp; done) | (simp; omega))) | (with_reducible refine Blk.by (by assumption) ?_))); done)); intro hk3_0; have hc3_0 := hk3_0.cell; have hf3_0 := hk3_0.free; have hq3_0 := hk3_0.lt)); (try (refine with_fact (p := Blk w3 (w2.heap.size) #[.int .i64 rn, .int .i64 rd] 23) (Blk.by hb3 ?_) ?_; (focus ((repeat (first | (with_reducible assumption) | (with_reducible refine Blk.drewN ?_ _) | (with_reducible refine Blk.drew ?_) | ((with_reducible refine Blk.new _ ?_); focus (first | omega | (simp; done) | (simp; omega))) | (with_reducible refine Blk.past ?_ _) | ((with_reducible refine Blk.apart ?_ _ _ _ ?_); rotate_left; focus (first | omega | (simp; done) | (simp; omega))) | (with_reducible refine Blk.by (by assumption) ?_))); done)); intro hk3_1; have hc3_1 := hk3_1.cell; have hf3_1 := hk3_1.free; have hq3_1 := hk3_1.lt)))
  go_wp2_with fail
  (refine (HI'.out _).mono ?_; rintro e w4 ⟨rfl, hb4⟩; have hz4 := hb4.size; (try simp at hz4); (try (refine with_fact (p := Blk w4 (w.heap.size) #[.int .i64 x0, .int .i64 y0, .int .i64 x1, .int .i64 y1] 36) (Blk.by hb4 ?_) ?_; (focus ((repeat (first | (with_reducible assumption) | (with_reducible refine Blk.drewN ?_ _) | (with_reducible refine Blk.drew ?_) | ((with_reducible refine Blk.new _ ?_); focus (first | omega | (simp; done) | (simp; omega))) | (with_reducible refine Blk.past ?_ _) | ((with_reducible refine Blk.apart ?_ _ _ _ ?_); rotate_left; focus (first | omega | (simp; done) | (simp; omega))) | (with_reducible refine Blk.by (by assumption) ?_))); done)); intro hk4_0; have hc4_0 := hk4_0.cell; have hf4_0 := hk4_0.free; have hq4_0 := hk4_0.lt)); (try (refine with_fact (p := Blk w4 (w2.heap.size) #[.int .i64 rn, .int .i64 rd] 23) (Blk.by hb4 ?_) ?_; (focus ((repeat (first | (with_reducible assumption) | (with_reducible refine Blk.drewN ?_ _) | (with_reducible refine Blk.drew ?_) | ((with_reducible refine Blk.new _ ?_); focus (first | omega | (simp; done) | (simp; omega))) | (with_reducible refine Blk.past ?_ _) | ((with_reducible refine Blk.apart ?_ _ _ _ ?_); rotate_left; focus (first | omega | (simp; done) | (simp; omega))) | (with_reducible refine Blk.by (by assumption) ?_))); done)); intro hk4_1; have hc4_1 := hk4_1.cell; have hf4_1 := hk4_1.free; have hq4_1 := hk4_1.lt)))
  go_wp2_with fail
  (refine (eqRatio_refl _ _ _).mono ?_; rintro e w5 ⟨rfl, hb5⟩; obtain ⟨hc5, hf5⟩ := bcell hb5; have hz5 := hb5.size; (try simp at hz5); (try have hl5 := Nat.lt_of_succ_le hz5); (try have hm5 := Nat.lt_of_succ_lt hl5); (try have hn5_ := Nat.lt_of_succ_lt hm5); (try have ho5 := Nat.lt_of_succ_lt hn5_))
  go_wp2
  go_ret
  exact ⟨rfl, (by ((repeat (first | (with_reducible exact Below.refl _ _) | (with_reducible refine below_drewN ?_ _) | (with_reducible refine Below.drew ?_) | (with_reducible refine below_al ?_ _) | (with_reducible refine below_on (by assumption) ?_) | ((with_reducible refine Below.setCell ?_ ?_ _); rotate_left; focus (first | omega | (simp; done) | (simp; omega))) | (with_reducible assumption))); done))⟩
end Go.Proofs.Ytdlnmpkjpdhhpaa.fnExactSquares
