/- Contracts of the size tests of ratios, and of the sums and products, of both packages. -/
import Derived.Test.YtdlnmpkjpdhhpaaValid
import Derived.Test.YtdlnmpkjpdhhpaaRMath
namespace Go.Proofs.Ytdlnmpkjpdhhpaa
open Go.RowKit

set_option maxHeartbeats 1000000 in
theorem l26Factor_any (n d : Int) (w : World) :
    Calls Try.prog 55 #[.agg #[.int .i64 n, .int .i64 d]] w fun e w' => e = .returned (.bool (fcB n d)) ∧ Below w.heap.size w w' := by
  rcases Bool.eq_false_or_eq_true (inB n (-1000000000) 1000000000) with a | a
  all_goals
    have e1 := Lib.hid (show fcB n d = (inB n (-1000000000) 1000000000 && decide (d ≤ 1000000000)) from rfl)
    rw [a] at e1
    rw [e1.out]
    go_enter Try.func55, Try.ntmps55
    go_wp2_with ((go_at_call 47; refine (l16In_any _ _ _ _).mono ?_; rintro e w' ⟨rfl, rfl⟩))
    go_ret
    exact ⟨by simp, (by ((repeat (first | (with_reducible exact Below.refl _ _) | (with_reducible refine below_drewN ?_ _) | (with_reducible refine Below.drew ?_) | (with_reducible refine below_al ?_ _) | (with_reducible refine below_on (by assumption) ?_) | (with_reducible refine Below.setCell ?_ ?_ _; rotate_left; focus (first | omega | (simp; done) | (simp; omega))) | (with_reducible assumption))); done))⟩


theorem l26Factor_is (n d : Int) (b : Bool) (w : World) (h : fcB n d = b) :
    Calls Try.prog 55 #[.agg #[.int .i64 n, .int .i64 d]] w fun e w' => e = .returned (.bool b) ∧ Below w.heap.size w w' := h ▸ l26Factor_any n d w

set_option maxHeartbeats 1000000 in
theorem ratioCode_any (n1 d1 n2 d2 : Int) (w : World) (hn : -9223372036854775808 ≤ n1 ∧ n1 ≤ 9223372036854775807) (hd : -9223372036854775808 ≤ d1 ∧ d1 ≤ 9223372036854775807) (hn2 : -9223372036854775808 ≤ n2 ∧ n2 ≤ 9223372036854775807) (hd2 : -9223372036854775808 ≤ d2 ∧ d2 ≤ 9223372036854775807) :
    Calls Try.prog 51 #[.agg #[.int .i64 n1, .int .i64 d1], .agg #[.int .i64 n2, .int .i64 d2]] w fun e w' => e = .returned (.int .i64 (arC n1 d1 n2 d2)) ∧ Below w.heap.size w w' := by
  rcases Bool.eq_false_or_eq_true (vrB n1 d1) with a | a
  · rcases Bool.eq_false_or_eq_true (vrB n2 d2) with b | b
    · have e1 := Lib.hid a
      have e2 := Lib.hid b
      have e3 := Lib.hid (show arC n1 d1 n2 d2 = if (inB n1 (-1000000000) 1000000000 && decide (d1 ≤ 1000000000) && (inB n2 (-1000000000) 1000000000 && decide (d2 ≤ 1000000000))) = true then 0 else 2 from by simp [arC, a, b, fcB])
      generalize arC n1 d1 n2 d2 = v at e3
      clear a b
      rcases Bool.eq_false_or_eq_true (inB n1 (-1000000000) 1000000000) with c | c <;> rcases Bool.eq_false_or_eq_true (inB n2 (-1000000000) 1000000000) with d | d <;> by_cases k1 : d1 ≤ 1000000000 <;> by_cases k2 : d2 ≤ 1000000000
      all_goals
        rw [c, d] at e3
        go_enter Try.func51, Try.ntmps51
        go_wp2_with fail
        (refine (validRatio_is n1 d1 true _ e1.out hn.1 hn.2 hd.1 hd.2).mono ?_; rintro e w1 ⟨rfl, hb1⟩; obtain ⟨hc1, hf1⟩ := bcell hb1; have hz1 := hb1.size; (try simp at hz1); (try have hl1 := Nat.lt_of_succ_le hz1); (try have hm1 := Nat.lt_of_succ_lt hl1); (try have hn1_ := Nat.lt_of_succ_lt hm1); (try have ho1 := Nat.lt_of_succ_lt hn1_))
        go_wp2_with fail
        (refine (validRatio_is n2 d2 true _ e2.out hn2.1 hn2.2 hd2.1 hd2.2).mono ?_; rintro e w2 ⟨rfl, hb2⟩; obtain ⟨hc2, hf2⟩ := bcell hb2; have hz2 := hb2.size; (try simp at hz2); (try have hl2 := Nat.lt_of_succ_le hz2); (try have hm2 := Nat.lt_of_succ_lt hl2); (try have hn2_ := Nat.lt_of_succ_lt hm2); (try have ho2 := Nat.lt_of_succ_lt hn2_))
        go_wp2_with fail
        refine wp_loop_rounds 3 ?_
        rw [rounds_succ]
        go_wp2_with ((go_at_call 49; refine (within_any _ _ _ _).mono ?_; rintro e w' ⟨rfl, rfl⟩))
        (try (rw [rounds_succ]; go_wp2_with ((go_at_call 49; refine (within_any _ _ _ _).mono ?_; rintro e w' ⟨rfl, rfl⟩))))
        (try (rw [rounds_succ]; go_wp2_with ((go_at_call 49; refine (within_any _ _ _ _).mono ?_; rintro e w' ⟨rfl, rfl⟩))))
        go_ret
        exact ⟨ret_i64 (by rw [e3.out]; simp [k1, k2]), (by ((repeat (first | (with_reducible exact Below.refl _ _) | (with_reducible refine below_drewN ?_ _) | (with_reducible refine Below.drew ?_) | (with_reducible refine below_al ?_ _) | (with_reducible refine below_on (by assumption) ?_) | (with_reducible refine Below.setCell ?_ ?_ _; rotate_left; focus (first | omega | (simp; done) | (simp; omega))) | (with_reducible assumption))); done))⟩
    · rw [arC_2 b]
      have e1 := Lib.hid a
      have e2 := Lib.hid b
      go_enter Try.func51, Try.ntmps51
      go_wp2_with fail
      (refine (validRatio_is n1 d1 true _ e1.out hn.1 hn.2 hd.1 hd.2).mono ?_; rintro e w1 ⟨rfl, hb1⟩; obtain ⟨hc1, hf1⟩ := bcell hb1; have hz1 := hb1.size; (try simp at hz1); (try have hl1 := Nat.lt_of_succ_le hz1); (try have hm1 := Nat.lt_of_succ_lt hl1); (try have hn1_ := Nat.lt_of_succ_lt hm1); (try have ho1 := Nat.lt_of_succ_lt hn1_))
      go_wp2_with fail
      (refine (validRatio_is n2 d2 false _ e2.out hn2.1 hn2.2 hd2.1 hd2.2).mono ?_; rintro e w2 ⟨rfl, hb2⟩; obtain ⟨hc2, hf2⟩ := bcell hb2; have hz2 := hb2.size; (try simp at hz2); (try have hl2 := Nat.lt_of_succ_le hz2); (try have hm2 := Nat.lt_of_succ_lt hl2); (try have hn2_ := Nat.lt_of_succ_lt hm2); (try have ho2 := Nat.lt_of_succ_lt hn2_))
      go_wp2
      go_ret
      exact ⟨rfl, (by ((repeat (first | (with_reducible exact Below.refl _ _) | (with_reducible refine below_drewN ?_ _) | (with_reducible refine Below.drew ?_) | (with_reducible refine below_al ?_ _) | (with_reducible refine below_on (by assumption) ?_) | (with_reducible refine Below.setCell ?_ ?_ _; rotate_left; focus (first | omega | (simp; done) | (simp; omega))) | (with_reducible assumption))); done))⟩
  · rw [arC_1 n2 d2 a]
    have e1 := Lib.hid a
    go_enter Try.func51, Try.ntmps51
    go_wp2_with (go_at_call 58; refine (validRatio_is n1 d1 false _ e1.out hn.1 hn.2 hd.1 hd.2).mono ?_; rintro e w1 ⟨rfl, hb1⟩; obtain ⟨hc1, hf1⟩ := bcell hb1; have hz1 := hb1.size; (try simp at hz1); (try have hl1 := Nat.lt_of_succ_le hz1); (try have hm1 := Nat.lt_of_succ_lt hl1); (try have hn1_ := Nat.lt_of_succ_lt hm1); (try have ho1 := Nat.lt_of_succ_lt hn1_))
    go_ret
    exact ⟨rfl, (by ((repeat (first | (with_reducible exact Below.refl _ _) | (with_reducible refine below_drewN ?_ _) | (with_reducible refine Below.drew ?_) | (with_reducible refine below_al ?_ _) | (with_reducible refine below_on (by assumption) ?_) | (with_reducible refine Below.setCell ?_ ?_ _; rotate_left; focus (first | omega | (simp; done) | (simp; omega))) | (with_reducible assumption))); done))⟩
end Go.Proofs.Ytdlnmpkjpdhhpaa
