/- Contracts of the sums and products of ratios, of both packages. -/
import Derived.Test.YtjolkdckhmmenaaArith
namespace Go.Proofs.Ytjolkdckhmmenaa
open Go.RowKit
set_option linter.unusedSimpArgs false
set_option linter.unusedVariables false

theorem ops_of_arC {n1 d1 n2 d2 : Int} (h : arC n1 d1 n2 d2 = 0) :
    (-1000000000000000000 ≤ n1 * d2 ∧ n1 * d2 ≤ 1000000000000000000) ∧ (-1000000000000000000 ≤ n2 * d1 ∧ n2 * d1 ≤ 1000000000000000000) ∧ (-1000000000000000000 ≤ n1 * n2 ∧ n1 * n2 ≤ 1000000000000000000) ∧
    (0 < d1 * d2 ∧ d1 * d2 ≤ 1000000000000000000) := by
  rcases Bool.eq_false_or_eq_true (vrB n1 d1) with a | a
  · rcases Bool.eq_false_or_eq_true (vrB n2 d2) with b | b
    · rcases Bool.eq_false_or_eq_true (fcB n1 d1) with c | c
      · rcases Bool.eq_false_or_eq_true (fcB n2 d2) with d | d
        · exact ops_bd a b c d
        · rw [arC_4 a b d] at h; cases h
      · rw [arC_3 a b c] at h; cases h
    · rw [arC_2 b] at h; cases h
  · rw [arC_1 n2 d2 a] at h; cases h

set_option maxHeartbeats 2000000 in
theorem specAddRatios_any (n1 d1 n2 d2 : Int) (w : World) (hn : -9223372036854775808 ≤ n1 ∧ n1 ≤ 9223372036854775807) (hd : -9223372036854775808 ≤ d1 ∧ d1 ≤ 9223372036854775807) (hn2 : -9223372036854775808 ≤ n2 ∧ n2 ≤ 9223372036854775807) (hd2 : -9223372036854775808 ≤ d2 ∧ d2 ≤ 9223372036854775807) :
    Calls Try.prog 9 #[.agg #[.int .i64 n1, .int .i64 d1], .agg #[.int .i64 n2, .int .i64 d2]] w fun e w' => e = .returned (.tuple #[.agg #[.int .i64 (whenN (arC n1 d1 n2 d2) (n1 * d2 + n2 * d1) (d1 * d2)), .int .i64 (whenD (arC n1 d1 n2 d2) (n1 * d2 + n2 * d1) (d1 * d2))], .int .i64 (arC n1 d1 n2 d2)]) ∧ Below w.heap.size w w' := by
  rcases Bool.eq_false_or_eq_true (vrB n1 d1) with a | a
  · rcases Bool.eq_false_or_eq_true (vrB n2 d2) with b | b
    · rcases Bool.eq_false_or_eq_true (fcB n1 d1) with c | c
      · rcases Bool.eq_false_or_eq_true (fcB n2 d2) with d | d
        · rw [arC_5 a b c d, (when_0 _ _).1, (when_0 _ _).2]
          have e1 := Lib.hid a
          have e2 := Lib.hid b
          have e3 := Lib.hid c
          have e4 := Lib.hid d
          obtain ⟨m1, m2, m3, m4⟩ := ops_bd a b c d
          clear a b c d
          go_enter Try.func9, Try.ntmps9
          go_wp2_with fail
          (refine (l26Valid_is n1 d1 true _ e1.out hn.1 hn.2 hd.1 hd.2).mono ?_; rintro e w1 ⟨rfl, hb1⟩; obtain ⟨hc1, hf1⟩ := bcell hb1; have hz1 := hb1.size; (try simp at hz1); (try have hl1 := Nat.lt_of_succ_le hz1); (try have hm1 := Nat.lt_of_succ_lt hl1); (try have hn1_ := Nat.lt_of_succ_lt hm1); (try have ho1 := Nat.lt_of_succ_lt hn1_))
          go_wp2_with fail
          (refine (l26Valid_is n2 d2 true _ e2.out hn2.1 hn2.2 hd2.1 hd2.2).mono ?_; rintro e w2 ⟨rfl, hb2⟩; obtain ⟨hc2, hf2⟩ := bcell hb2; have hz2 := hb2.size; (try simp at hz2); (try have hl2 := Nat.lt_of_succ_le hz2); (try have hm2 := Nat.lt_of_succ_lt hl2); (try have hn2_ := Nat.lt_of_succ_lt hm2); (try have ho2 := Nat.lt_of_succ_lt hn2_); (try (refine with_fact (p := w.heap.size < w2.heap.size) ?_ ?_; (focus omega); intro hp2_0)); (try (refine with_fact (p := w.heap.size + 1 < w2.heap.size) ?_ ?_; (focus omega); intro hp2_1)); (try (refine with_fact (p := w.heap.size + 1 + 1 < w2.heap.size) ?_ ?_; (focus omega); intro hp2_2)))
          go_wp2_with fail
          (refine (l26Factor_is n1 d1 true _ e3.out).mono ?_; rintro e w3 ⟨rfl, hb3⟩; obtain ⟨hc3, hf3⟩ := bcell hb3; have hz3 := hb3.size; (try simp at hz3); (try have hl3 := Nat.lt_of_succ_le hz3); (try have hm3 := Nat.lt_of_succ_lt hl3); (try have hn3_ := Nat.lt_of_succ_lt hm3); (try have ho3 := Nat.lt_of_succ_lt hn3_); (try (refine with_fact (p := w.heap.size < w3.heap.size) ?_ ?_; (focus omega); intro hp3_0)); (try (refine with_fact (p := w.heap.size + 1 < w3.heap.size) ?_ ?_; (focus omega); intro hp3_1)); (try (refine with_fact (p := w.heap.size + 1 + 1 < w3.heap.size) ?_ ?_; (focus omega); intro hp3_2)))
          go_wp2_with fail
          (refine (l26Factor_is n2 d2 true _ e4.out).mono ?_; rintro e w4 ⟨rfl, hb4⟩; obtain ⟨hc4, hf4⟩ := bcell hb4; have hz4 := hb4.size; (try simp at hz4); (try have hl4 := Nat.lt_of_succ_le hz4); (try have hm4 := Nat.lt_of_succ_lt hl4); (try have hn4_ := Nat.lt_of_succ_lt hm4); (try have ho4 := Nat.lt_of_succ_lt hn4_); (try (refine with_fact (p := w.heap.size < w4.heap.size) ?_ ?_; (focus omega); intro hp4_0)); (try (refine with_fact (p := w.heap.size + 1 < w4.heap.size) ?_ ?_; (focus omega); intro hp4_1)); (try (refine with_fact (p := w.heap.size + 1 + 1 < w4.heap.size) ?_ ?_; (focus omega); intro hp4_2)))
          go_wp2_with fail
          (refine (l26Reduce_any (n1 * d2 + n2 * d1) (d1 * d2) _ (by omega) (by omega) (by omega) (by omega) (by omega)).mono ?_; rintro e w5 ⟨rfl, hb5⟩; obtain ⟨hc5, hf5⟩ := bcell hb5; have hz5 := hb5.size; (try simp at hz5); (try have hl5 := Nat.lt_of_succ_le hz5); (try have hm5 := Nat.lt_of_succ_lt hl5); (try have hn5_ := Nat.lt_of_succ_lt hm5); (try have ho5 := Nat.lt_of_succ_lt hn5_); (try (refine with_fact (p := w.heap.size < w5.heap.size) ?_ ?_; (focus omega); intro hp5_0)); (try (refine with_fact (p := w.heap.size + 1 < w5.heap.size) ?_ ?_; (focus omega); intro hp5_1)); (try (refine with_fact (p := w.heap.size + 1 + 1 < w5.heap.size) ?_ ?_; (focus omega); intro hp5_2)))
          go_wp2
          exact bodyPost_ret (v := .tuple #[.agg #[.int .i64 (redN (n1 * d2 + n2 * d1) (d1 * d2)), .int .i64 (redD (n1 * d2 + n2 * d1) (d1 * d2))], .int .i64 0]) (by simp [results, Try.results9, go_sem, *]) rfl ⟨rfl, (by ((repeat (first | (with_reducible exact Below.refl _ _) | (with_reducible refine below_drewN ?_ _) | (with_reducible refine Below.drew ?_) | (with_reducible refine below_al ?_ _) | (with_reducible refine below_on (by assumption) ?_) | ((with_reducible refine Below.setCell ?_ ?_ _); rotate_left; focus (first | omega | (simp; done) | (simp; omega))) | (with_reducible assumption))); done))⟩
        · rw [arC_4 a b d, (when_2 _ _).1, (when_2 _ _).2]
          have e1 := Lib.hid a
          have e2 := Lib.hid b
          have e3 := Lib.hid c
          have e4 := Lib.hid d
          clear a b c d
          go_enter Try.func9, Try.ntmps9
          go_wp2_with fail
          (refine (l26Valid_is n1 d1 true _ e1.out hn.1 hn.2 hd.1 hd.2).mono ?_; rintro e w1 ⟨rfl, hb1⟩; obtain ⟨hc1, hf1⟩ := bcell hb1; have hz1 := hb1.size; (try simp at hz1); (try have hl1 := Nat.lt_of_succ_le hz1); (try have hm1 := Nat.lt_of_succ_lt hl1); (try have hn1_ := Nat.lt_of_succ_lt hm1); (try have ho1 := Nat.lt_of_succ_lt hn1_))
          go_wp2_with fail
          (refine (l26Valid_is n2 d2 true _ e2.out hn2.1 hn2.2 hd2.1 hd2.2).mono ?_; rintro e w2 ⟨rfl, hb2⟩; obtain ⟨hc2, hf2⟩ := bcell hb2; have hz2 := hb2.size; (try simp at hz2); (try have hl2 := Nat.lt_of_succ_le hz2); (try have hm2 := Nat.lt_of_succ_lt hl2); (try have hn2_ := Nat.lt_of_succ_lt hm2); (try have ho2 := Nat.lt_of_succ_lt hn2_); (try (refine with_fact (p := w.heap.size < w2.heap.size) ?_ ?_; (focus omega); intro hp2_0)); (try (refine with_fact (p := w.heap.size + 1 < w2.heap.size) ?_ ?_; (focus omega); intro hp2_1)); (try (refine with_fact (p := w.heap.size + 1 + 1 < w2.heap.size) ?_ ?_; (focus omega); intro hp2_2)))
          go_wp2_with fail
          (refine (l26Factor_is n1 d1 true _ e3.out).mono ?_; rintro e w3 ⟨rfl, hb3⟩; obtain ⟨hc3, hf3⟩ := bcell hb3; have hz3 := hb3.size; (try simp at hz3); (try have hl3 := Nat.lt_of_succ_le hz3); (try have hm3 := Nat.lt_of_succ_lt hl3); (try have hn3_ := Nat.lt_of_succ_lt hm3); (try have ho3 := Nat.lt_of_succ_lt hn3_); (try (refine with_fact (p := w.heap.size < w3.heap.size) ?_ ?_; (focus omega); intro hp3_0)); (try (refine with_fact (p := w.heap.size + 1 < w3.heap.size) ?_ ?_; (focus omega); intro hp3_1)); (try (refine with_fact (p := w.heap.size + 1 + 1 < w3.heap.size) ?_ ?_; (focus omega); intro hp3_2)))
          go_wp2_with fail
          (refine (l26Factor_is n2 d2 false _ e4.out).mono ?_; rintro e w4 ⟨rfl, hb4⟩; obtain ⟨hc4, hf4⟩ := bcell hb4; have hz4 := hb4.size; (try simp at hz4); (try have hl4 := Nat.lt_of_succ_le hz4); (try have hm4 := Nat.lt_of_succ_lt hl4); (try have hn4_ := Nat.lt_of_succ_lt hm4); (try have ho4 := Nat.lt_of_succ_lt hn4_); (try (refine with_fact (p := w.heap.size < w4.heap.size) ?_ ?_; (focus omega); intro hp4_0)); (try (refine with_fact (p := w.heap.size + 1 < w4.heap.size) ?_ ?_; (focus omega); intro hp4_1)); (try (refine with_fact (p := w.heap.size + 1 + 1 < w4.heap.size) ?_ ?_; (focus omega); intro hp4_2)))
          go_wp2
          exact bodyPost_ret (v := .tuple #[.agg #[.int .i64 0, .int .i64 0], .int .i64 2]) (by simp [results, Try.results9, go_sem, *]) rfl ⟨rfl, (by ((repeat (first | (with_reducible exact Below.refl _ _) | (with_reducible refine below_drewN ?_ _) | (with_reducible refine Below.drew ?_) | (with_reducible refine below_al ?_ _) | (with_reducible refine below_on (by assumption) ?_) | ((with_reducible refine Below.setCell ?_ ?_ _); rotate_left; focus (first | omega | (simp; done) | (simp; omega))) | (with_reducible assumption))); done))⟩
      · rw [arC_3 a b c, (when_2 _ _).1, (when_2 _ _).2]
        have e1 := Lib.hid a
        have e2 := Lib.hid b
        have e3 := Lib.hid c
        clear a b c
        go_enter Try.func9, Try.ntmps9
        go_wp2_with fail
        (refine (l26Valid_is n1 d1 true _ e1.out hn.1 hn.2 hd.1 hd.2).mono ?_; rintro e w1 ⟨rfl, hb1⟩; obtain ⟨hc1, hf1⟩ := bcell hb1; have hz1 := hb1.size; (try simp at hz1); (try have hl1 := Nat.lt_of_succ_le hz1); (try have hm1 := Nat.lt_of_succ_lt hl1); (try have hn1_ := Nat.lt_of_succ_lt hm1); (try have ho1 := Nat.lt_of_succ_lt hn1_))
        go_wp2_with fail
        (refine (l26Valid_is n2 d2 true _ e2.out hn2.1 hn2.2 hd2.1 hd2.2).mono ?_; rintro e w2 ⟨rfl, hb2⟩; obtain ⟨hc2, hf2⟩ := bcell hb2; have hz2 := hb2.size; (try simp at hz2); (try have hl2 := Nat.lt_of_succ_le hz2); (try have hm2 := Nat.lt_of_succ_lt hl2); (try have hn2_ := Nat.lt_of_succ_lt hm2); (try have ho2 := Nat.lt_of_succ_lt hn2_); (try (refine with_fact (p := w.heap.size < w2.heap.size) ?_ ?_; (focus omega); intro hp2_0)); (try (refine with_fact (p := w.heap.size + 1 < w2.heap.size) ?_ ?_; (focus omega); intro hp2_1)); (try (refine with_fact (p := w.heap.size + 1 + 1 < w2.heap.size) ?_ ?_; (focus omega); intro hp2_2)))
        go_wp2_with fail
        (refine (l26Factor_is n1 d1 false _ e3.out).mono ?_; rintro e w3 ⟨rfl, hb3⟩; obtain ⟨hc3, hf3⟩ := bcell hb3; have hz3 := hb3.size; (try simp at hz3); (try have hl3 := Nat.lt_of_succ_le hz3); (try have hm3 := Nat.lt_of_succ_lt hl3); (try have hn3_ := Nat.lt_of_succ_lt hm3); (try have ho3 := Nat.lt_of_succ_lt hn3_); (try (refine with_fact (p := w.heap.size < w3.heap.size) ?_ ?_; (focus omega); intro hp3_0)); (try (refine with_fact (p := w.heap.size + 1 < w3.heap.size) ?_ ?_; (focus omega); intro hp3_1)); (try (refine with_fact (p := w.heap.size + 1 + 1 < w3.heap.size) ?_ ?_; (focus omega); intro hp3_2)))
        go_wp2
        exact bodyPost_ret (v := .tuple #[.agg #[.int .i64 0, .int .i64 0], .int .i64 2]) (by simp [results, Try.results9, go_sem, *]) rfl ⟨rfl, (by ((repeat (first | (with_reducible exact Below.refl _ _) | (with_reducible refine below_drewN ?_ _) | (with_reducible refine Below.drew ?_) | (with_reducible refine below_al ?_ _) | (with_reducible refine below_on (by assumption) ?_) | ((with_reducible refine Below.setCell ?_ ?_ _); rotate_left; focus (first | omega | (simp; done) | (simp; omega))) | (with_reducible assumption))); done))⟩
    · rw [arC_2 b, (when_1 _ _).1, (when_1 _ _).2]
      have e1 := Lib.hid a
      have e2 := Lib.hid b
      clear a b
      go_enter Try.func9, Try.ntmps9
      go_wp2_with fail
      (refine (l26Valid_is n1 d1 true _ e1.out hn.1 hn.2 hd.1 hd.2).mono ?_; rintro e w1 ⟨rfl, hb1⟩; obtain ⟨hc1, hf1⟩ := bcell hb1; have hz1 := hb1.size; (try simp at hz1); (try have hl1 := Nat.lt_of_succ_le hz1); (try have hm1 := Nat.lt_of_succ_lt hl1); (try have hn1_ := Nat.lt_of_succ_lt hm1); (try have ho1 := Nat.lt_of_succ_lt hn1_))
      go_wp2_with fail
      (refine (l26Valid_is n2 d2 false _ e2.out hn2.1 hn2.2 hd2.1 hd2.2).mono ?_; rintro e w2 ⟨rfl, hb2⟩; obtain ⟨hc2, hf2⟩ := bcell hb2; have hz2 := hb2.size; (try simp at hz2); (try have hl2 := Nat.lt_of_succ_le hz2); (try have hm2 := Nat.lt_of_succ_lt hl2); (try have hn2_ := Nat.lt_of_succ_lt hm2); (try have ho2 := Nat.lt_of_succ_lt hn2_); (try (refine with_fact (p := w.heap.size < w2.heap.size) ?_ ?_; (focus omega); intro hp2_0)); (try (refine with_fact (p := w.heap.size + 1 < w2.heap.size) ?_ ?_; (focus omega); intro hp2_1)); (try (refine with_fact (p := w.heap.size + 1 + 1 < w2.heap.size) ?_ ?_; (focus omega); intro hp2_2)))
      go_wp2
      exact bodyPost_ret (v := .tuple #[.agg #[.int .i64 0, .int .i64 0], .int .i64 1]) (by simp [results, Try.results9, go_sem, *]) rfl ⟨rfl, (by ((repeat (first | (with_reducible exact Below.refl _ _) | (with_reducible refine below_drewN ?_ _) | (with_reducible refine Below.drew ?_) | (with_reducible refine below_al ?_ _) | (with_reducible refine below_on (by assumption) ?_) | ((with_reducible refine Below.setCell ?_ ?_ _); rotate_left; focus (first | omega | (simp; done) | (simp; omega))) | (with_reducible assumption))); done))⟩
  · rw [arC_1 n2 d2 a, (when_1 _ _).1, (when_1 _ _).2]
    have e1 := Lib.hid a
    clear a
    go_enter Try.func9, Try.ntmps9
    go_wp2_with fail
    (refine (l26Valid_is n1 d1 false _ e1.out hn.1 hn.2 hd.1 hd.2).mono ?_; rintro e w1 ⟨rfl, hb1⟩; obtain ⟨hc1, hf1⟩ := bcell hb1; have hz1 := hb1.size; (try simp at hz1); (try have hl1 := Nat.lt_of_succ_le hz1); (try have hm1 := Nat.lt_of_succ_lt hl1); (try have hn1_ := Nat.lt_of_succ_lt hm1); (try have ho1 := Nat.lt_of_succ_lt hn1_))
    go_wp2
    exact bodyPost_ret (v := .tuple #[.agg #[.int .i64 0, .int .i64 0], .int .i64 1]) (by simp [results, Try.results9, go_sem, *]) rfl ⟨rfl, (by ((repeat (first | (with_reducible exact Below.refl _ _) | (with_reducible refine below_drewN ?_ _) | (with_reducible refine Below.drew ?_) | (with_reducible refine below_al ?_ _) | (with_reducible refine below_on (by assumption) ?_) | ((with_reducible refine Below.setCell ?_ ?_ _); rotate_left; focus (first | omega | (simp; done) | (simp; omega))) | (with_reducible assumption))); done))⟩

set_option maxHeartbeats 2000000 in
theorem specMultiplyRatios_any (n1 d1 n2 d2 : Int) (w : World) (hn : -9223372036854775808 ≤ n1 ∧ n1 ≤ 9223372036854775807) (hd : -9223372036854775808 ≤ d1 ∧ d1 ≤ 9223372036854775807) (hn2 : -9223372036854775808 ≤ n2 ∧ n2 ≤ 9223372036854775807) (hd2 : -9223372036854775808 ≤ d2 ∧ d2 ≤ 9223372036854775807) :
    Calls Try.prog 14 #[.agg #[.int .i64 n1, .int .i64 d1], .agg #[.int .i64 n2, .int .i64 d2]] w fun e w' => e = .returned (.tuple #[.agg #[.int .i64 (whenN (arC n1 d1 n2 d2) (n1 * n2) (d1 * d2)), .int .i64 (whenD (arC n1 d1 n2 d2) (n1 * n2) (d1 * d2))], .int .i64 (arC n1 d1 n2 d2)]) ∧ Below w.heap.size w w' := by
  rcases Bool.eq_false_or_eq_true (vrB n1 d1) with a | a
  · rcases Bool.eq_false_or_eq_true (vrB n2 d2) with b | b
    · rcases Bool.eq_false_or_eq_true (fcB n1 d1) with c | c
      · rcases Bool.eq_false_or_eq_true (fcB n2 d2) with d | d
        · rw [arC_5 a b c d, (when_0 _ _).1, (when_0 _ _).2]
          have e1 := Lib.hid a
          have e2 := Lib.hid b
          have e3 := Lib.hid c
          have e4 := Lib.hid d
          obtain ⟨m1, m2, m3, m4⟩ := ops_bd a b c d
          clear a b c d
          go_enter Try.func14, Try.ntmps14
          go_wp2_with fail
          (refine (l26Valid_is n1 d1 true _ e1.out hn.1 hn.2 hd.1 hd.2).mono ?_; rintro e w1 ⟨rfl, hb1⟩; obtain ⟨hc1, hf1⟩ := bcell hb1; have hz1 := hb1.size; (try simp at hz1); (try have hl1 := Nat.lt_of_succ_le hz1); (try have hm1 := Nat.lt_of_succ_lt hl1); (try have hn1_ := Nat.lt_of_succ_lt hm1); (try have ho1 := Nat.lt_of_succ_lt hn1_))
          go_wp2_with fail
          (refine (l26Valid_is n2 d2 true _ e2.out hn2.1 hn2.2 hd2.1 hd2.2).mono ?_; rintro e w2 ⟨rfl, hb2⟩; obtain ⟨hc2, hf2⟩ := bcell hb2; have hz2 := hb2.size; (try simp at hz2); (try have hl2 := Nat.lt_of_succ_le hz2); (try have hm2 := Nat.lt_of_succ_lt hl2); (try have hn2_ := Nat.lt_of_succ_lt hm2); (try have ho2 := Nat.lt_of_succ_lt hn2_); (try (refine with_fact (p := w.heap.size < w2.heap.size) ?_ ?_; (focus omega); intro hp2_0)); (try (refine with_fact (p := w.heap.size + 1 < w2.heap.size) ?_ ?_; (focus omega); intro hp2_1)); (try (refine with_fact (p := w.heap.size + 1 + 1 < w2.heap.size) ?_ ?_; (focus omega); intro hp2_2)))
          go_wp2_with fail
          (refine (l26Factor_is n1 d1 true _ e3.out).mono ?_; rintro e w3 ⟨rfl, hb3⟩; obtain ⟨hc3, hf3⟩ := bcell hb3; have hz3 := hb3.size; (try simp at hz3); (try have hl3 := Nat.lt_of_succ_le hz3); (try have hm3 := Nat.lt_of_succ_lt hl3); (try have hn3_ := Nat.lt_of_succ_lt hm3); (try have ho3 := Nat.lt_of_succ_lt hn3_); (try (refine with_fact (p := w.heap.size < w3.heap.size) ?_ ?_; (focus omega); intro hp3_0)); (try (refine with_fact (p := w.heap.size + 1 < w3.heap.size) ?_ ?_; (focus omega); intro hp3_1)); (try (refine with_fact (p := w.heap.size + 1 + 1 < w3.heap.size) ?_ ?_; (focus omega); intro hp3_2)))
          go_wp2_with fail
          (refine (l26Factor_is n2 d2 true _ e4.out).mono ?_; rintro e w4 ⟨rfl, hb4⟩; obtain ⟨hc4, hf4⟩ := bcell hb4; have hz4 := hb4.size; (try simp at hz4); (try have hl4 := Nat.lt_of_succ_le hz4); (try have hm4 := Nat.lt_of_succ_lt hl4); (try have hn4_ := Nat.lt_of_succ_lt hm4); (try have ho4 := Nat.lt_of_succ_lt hn4_); (try (refine with_fact (p := w.heap.size < w4.heap.size) ?_ ?_; (focus omega); intro hp4_0)); (try (refine with_fact (p := w.heap.size + 1 < w4.heap.size) ?_ ?_; (focus omega); intro hp4_1)); (try (refine with_fact (p := w.heap.size + 1 + 1 < w4.heap.size) ?_ ?_; (focus omega); intro hp4_2)))
          go_wp2_with fail
          (refine (l26Reduce_any (n1 * n2) (d1 * d2) _ (by omega) (by omega) (by omega) (by omega) (by omega)).mono ?_; rintro e w5 ⟨rfl, hb5⟩; obtain ⟨hc5, hf5⟩ := bcell hb5; have hz5 := hb5.size; (try simp at hz5); (try have hl5 := Nat.lt_of_succ_le hz5); (try have hm5 := Nat.lt_of_succ_lt hl5); (try have hn5_ := Nat.lt_of_succ_lt hm5); (try have ho5 := Nat.lt_of_succ_lt hn5_); (try (refine with_fact (p := w.heap.size < w5.heap.size) ?_ ?_; (focus omega); intro hp5_0)); (try (refine with_fact (p := w.heap.size + 1 < w5.heap.size) ?_ ?_; (focus omega); intro hp5_1)); (try (refine with_fact (p := w.heap.size + 1 + 1 < w5.heap.size) ?_ ?_; (focus omega); intro hp5_2)))
          go_wp2
          exact bodyPost_ret (v := .tuple #[.agg #[.int .i64 (redN (n1 * n2) (d1 * d2)), .int .i64 (redD (n1 * n2) (d1 * d2))], .int .i64 0]) (by simp [results, Try.results14, go_sem, *]) rfl ⟨rfl, (by ((repeat (first | (with_reducible exact Below.refl _ _) | (with_reducible refine below_drewN ?_ _) | (with_reducible refine Below.drew ?_) | (with_reducible refine below_al ?_ _) | (with_reducible refine below_on (by assumption) ?_) | ((with_reducible refine Below.setCell ?_ ?_ _); rotate_left; focus (first | omega | (simp; done) | (simp; omega))) | (with_reducible assumption))); done))⟩
        · rw [arC_4 a b d, (when_2 _ _).1, (when_2 _ _).2]
          have e1 := Lib.hid a
          have e2 := Lib.hid b
          have e3 := Lib.hid c
          have e4 := Lib.hid d
          clear a b c d
          go_enter Try.func14, Try.ntmps14
          go_wp2_with fail
          (refine (l26Valid_is n1 d1 true _ e1.out hn.1 hn.2 hd.1 hd.2).mono ?_; rintro e w1 ⟨rfl, hb1⟩; obtain ⟨hc1, hf1⟩ := bcell hb1; have hz1 := hb1.size; (try simp at hz1); (try have hl1 := Nat.lt_of_succ_le hz1); (try have hm1 := Nat.lt_of_succ_lt hl1); (try have hn1_ := Nat.lt_of_succ_lt hm1); (try have ho1 := Nat.lt_of_succ_lt hn1_))
          go_wp2_with fail
          (refine (l26Valid_is n2 d2 true _ e2.out hn2.1 hn2.2 hd2.1 hd2.2).mono ?_; rintro e w2 ⟨rfl, hb2⟩; obtain ⟨hc2, hf2⟩ := bcell hb2; have hz2 := hb2.size; (try simp at hz2); (try have hl2 := Nat.lt_of_succ_le hz2); (try have hm2 := Nat.lt_of_succ_lt hl2); (try have hn2_ := Nat.lt_of_succ_lt hm2); (try have ho2 := Nat.lt_of_succ_lt hn2_); (try (refine with_fact (p := w.heap.size < w2.heap.size) ?_ ?_; (focus omega); intro hp2_0)); (try (refine with_fact (p := w.heap.size + 1 < w2.heap.size) ?_ ?_; (focus omega); intro hp2_1)); (try (refine with_fact (p := w.heap.size + 1 + 1 < w2.heap.size) ?_ ?_; (focus omega); intro hp2_2)))
          go_wp2_with fail
          (refine (l26Factor_is n1 d1 true _ e3.out).mono ?_; rintro e w3 ⟨rfl, hb3⟩; obtain ⟨hc3, hf3⟩ := bcell hb3; have hz3 := hb3.size; (try simp at hz3); (try have hl3 := Nat.lt_of_succ_le hz3); (try have hm3 := Nat.lt_of_succ_lt hl3); (try have hn3_ := Nat.lt_of_succ_lt hm3); (try have ho3 := Nat.lt_of_succ_lt hn3_); (try (refine with_fact (p := w.heap.size < w3.heap.size) ?_ ?_; (focus omega); intro hp3_0)); (try (refine with_fact (p := w.heap.size + 1 < w3.heap.size) ?_ ?_; (focus omega); intro hp3_1)); (try (refine with_fact (p := w.heap.size + 1 + 1 < w3.heap.size) ?_ ?_; (focus omega); intro hp3_2)))
          go_wp2_with fail
          (refine (l26Factor_is n2 d2 false _ e4.out).mono ?_; rintro e w4 ⟨rfl, hb4⟩; obtain ⟨hc4, hf4⟩ := bcell hb4; have hz4 := hb4.size; (try simp at hz4); (try have hl4 := Nat.lt_of_succ_le hz4); (try have hm4 := Nat.lt_of_succ_lt hl4); (try have hn4_ := Nat.lt_of_succ_lt hm4); (try have ho4 := Nat.lt_of_succ_lt hn4_); (try (refine with_fact (p := w.heap.size < w4.heap.size) ?_ ?_; (focus omega); intro hp4_0)); (try (refine with_fact (p := w.heap.size + 1 < w4.heap.size) ?_ ?_; (focus omega); intro hp4_1)); (try (refine with_fact (p := w.heap.size + 1 + 1 < w4.heap.size) ?_ ?_; (focus omega); intro hp4_2)))
          go_wp2
          exact bodyPost_ret (v := .tuple #[.agg #[.int .i64 0, .int .i64 0], .int .i64 2]) (by simp [results, Try.results14, go_sem, *]) rfl ⟨rfl, (by ((repeat (first | (with_reducible exact Below.refl _ _) | (with_reducible refine below_drewN ?_ _) | (with_reducible refine Below.drew ?_) | (with_reducible refine below_al ?_ _) | (with_reducible refine below_on (by assumption) ?_) | ((with_reducible refine Below.setCell ?_ ?_ _); rotate_left; focus (first | omega | (simp; done) | (simp; omega))) | (with_reducible assumption))); done))⟩
      · rw [arC_3 a b c, (when_2 _ _).1, (when_2 _ _).2]
        have e1 := Lib.hid a
        have e2 := Lib.hid b
        have e3 := Lib.hid c
        clear a b c
        go_enter Try.func14, Try.ntmps14
        go_wp2_with fail
        (refine (l26Valid_is n1 d1 true _ e1.out hn.1 hn.2 hd.1 hd.2).mono ?_; rintro e w1 ⟨rfl, hb1⟩; obtain ⟨hc1, hf1⟩ := bcell hb1; have hz1 := hb1.size; (try simp at hz1); (try have hl1 := Nat.lt_of_succ_le hz1); (try have hm1 := Nat.lt_of_succ_lt hl1); (try have hn1_ := Nat.lt_of_succ_lt hm1); (try have ho1 := Nat.lt_of_succ_lt hn1_))
        go_wp2_with fail
        (refine (l26Valid_is n2 d2 true _ e2.out hn2.1 hn2.2 hd2.1 hd2.2).mono ?_; rintro e w2 ⟨rfl, hb2⟩; obtain ⟨hc2, hf2⟩ := bcell hb2; have hz2 := hb2.size; (try simp at hz2); (try have hl2 := Nat.lt_of_succ_le hz2); (try have hm2 := Nat.lt_of_succ_lt hl2); (try have hn2_ := Nat.lt_of_succ_lt hm2); (try have ho2 := Nat.lt_of_succ_lt hn2_); (try (refine with_fact (p := w.heap.size < w2.heap.size) ?_ ?_; (focus omega); intro hp2_0)); (try (refine with_fact (p := w.heap.size + 1 < w2.heap.size) ?_ ?_; (focus omega); intro hp2_1)); (try (refine with_fact (p := w.heap.size + 1 + 1 < w2.heap.size) ?_ ?_; (focus omega); intro hp2_2)))
        go_wp2_with fail
        (refine (l26Factor_is n1 d1 false _ e3.out).mono ?_; rintro e w3 ⟨rfl, hb3⟩; obtain ⟨hc3, hf3⟩ := bcell hb3; have hz3 := hb3.size; (try simp at hz3); (try have hl3 := Nat.lt_of_succ_le hz3); (try have hm3 := Nat.lt_of_succ_lt hl3); (try have hn3_ := Nat.lt_of_succ_lt hm3); (try have ho3 := Nat.lt_of_succ_lt hn3_); (try (refine with_fact (p := w.heap.size < w3.heap.size) ?_ ?_; (focus omega); intro hp3_0)); (try (refine with_fact (p := w.heap.size + 1 < w3.heap.size) ?_ ?_; (focus omega); intro hp3_1)); (try (refine with_fact (p := w.heap.size + 1 + 1 < w3.heap.size) ?_ ?_; (focus omega); intro hp3_2)))
        go_wp2
        exact bodyPost_ret (v := .tuple #[.agg #[.int .i64 0, .int .i64 0], .int .i64 2]) (by simp [results, Try.results14, go_sem, *]) rfl ⟨rfl, (by ((repeat (first | (with_reducible exact Below.refl _ _) | (with_reducible refine below_drewN ?_ _) | (with_reducible refine Below.drew ?_) | (with_reducible refine below_al ?_ _) | (with_reducible refine below_on (by assumption) ?_) | ((with_reducible refine Below.setCell ?_ ?_ _); rotate_left; focus (first | omega | (simp; done) | (simp; omega))) | (with_reducible assumption))); done))⟩
    · rw [arC_2 b, (when_1 _ _).1, (when_1 _ _).2]
      have e1 := Lib.hid a
      have e2 := Lib.hid b
      clear a b
      go_enter Try.func14, Try.ntmps14
      go_wp2_with fail
      (refine (l26Valid_is n1 d1 true _ e1.out hn.1 hn.2 hd.1 hd.2).mono ?_; rintro e w1 ⟨rfl, hb1⟩; obtain ⟨hc1, hf1⟩ := bcell hb1; have hz1 := hb1.size; (try simp at hz1); (try have hl1 := Nat.lt_of_succ_le hz1); (try have hm1 := Nat.lt_of_succ_lt hl1); (try have hn1_ := Nat.lt_of_succ_lt hm1); (try have ho1 := Nat.lt_of_succ_lt hn1_))
      go_wp2_with fail
      (refine (l26Valid_is n2 d2 false _ e2.out hn2.1 hn2.2 hd2.1 hd2.2).mono ?_; rintro e w2 ⟨rfl, hb2⟩; obtain ⟨hc2, hf2⟩ := bcell hb2; have hz2 := hb2.size; (try simp at hz2); (try have hl2 := Nat.lt_of_succ_le hz2); (try have hm2 := Nat.lt_of_succ_lt hl2); (try have hn2_ := Nat.lt_of_succ_lt hm2); (try have ho2 := Nat.lt_of_succ_lt hn2_); (try (refine with_fact (p := w.heap.size < w2.heap.size) ?_ ?_; (focus omega); intro hp2_0)); (try (refine with_fact (p := w.heap.size + 1 < w2.heap.size) ?_ ?_; (focus omega); intro hp2_1)); (try (refine with_fact (p := w.heap.size + 1 + 1 < w2.heap.size) ?_ ?_; (focus omega); intro hp2_2)))
      go_wp2
      exact bodyPost_ret (v := .tuple #[.agg #[.int .i64 0, .int .i64 0], .int .i64 1]) (by simp [results, Try.results14, go_sem, *]) rfl ⟨rfl, (by ((repeat (first | (with_reducible exact Below.refl _ _) | (with_reducible refine below_drewN ?_ _) | (with_reducible refine Below.drew ?_) | (with_reducible refine below_al ?_ _) | (with_reducible refine below_on (by assumption) ?_) | ((with_reducible refine Below.setCell ?_ ?_ _); rotate_left; focus (first | omega | (simp; done) | (simp; omega))) | (with_reducible assumption))); done))⟩
  · rw [arC_1 n2 d2 a, (when_1 _ _).1, (when_1 _ _).2]
    have e1 := Lib.hid a
    clear a
    go_enter Try.func14, Try.ntmps14
    go_wp2_with fail
    (refine (l26Valid_is n1 d1 false _ e1.out hn.1 hn.2 hd.1 hd.2).mono ?_; rintro e w1 ⟨rfl, hb1⟩; obtain ⟨hc1, hf1⟩ := bcell hb1; have hz1 := hb1.size; (try simp at hz1); (try have hl1 := Nat.lt_of_succ_le hz1); (try have hm1 := Nat.lt_of_succ_lt hl1); (try have hn1_ := Nat.lt_of_succ_lt hm1); (try have ho1 := Nat.lt_of_succ_lt hn1_))
    go_wp2
    exact bodyPost_ret (v := .tuple #[.agg #[.int .i64 0, .int .i64 0], .int .i64 1]) (by simp [results, Try.results14, go_sem, *]) rfl ⟨rfl, (by ((repeat (first | (with_reducible exact Below.refl _ _) | (with_reducible refine below_drewN ?_ _) | (with_reducible refine Below.drew ?_) | (with_reducible refine below_al ?_ _) | (with_reducible refine below_on (by assumption) ?_) | ((with_reducible refine Below.setCell ?_ ?_ _); rotate_left; focus (first | omega | (simp; done) | (simp; omega))) | (with_reducible assumption))); done))⟩

end Go.Proofs.Ytjolkdckhmmenaa
