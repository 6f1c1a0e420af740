/- Contracts of the two MakeRatio. -/
import Derived.Test.YtdlnmpkjpdhhpaaGcd
namespace Go.Proofs.Ytdlnmpkjpdhhpaa
open Go.RowKit

set_option maxHeartbeats 1000000 in
theorem specMake_any (n d : Int) (w : World) (hn : -9223372036854775808 ≤ n) (hn' : n ≤ 9223372036854775807) (hd : -9223372036854775808 ≤ d) (hd' : d ≤ 9223372036854775807) :
    Calls Try.prog 15 #[.int .i64 n, .int .i64 d] w fun e w' => e = .returned (.tuple #[.agg #[.int .i64 (mkN n d), .int .i64 (mkD n d)], .int .i64 (mkC n d)]) ∧ Below w.heap.size w w' := by
  by_cases h0 : d = 0
  · subst h0
    obtain ⟨m1, m2, m3⟩ := mk_zero n
    rw [m1, m2, m3]
    go_enter Try.func15, Try.ntmps15
    go_wp2
    exact bodyPost_ret (v := .tuple #[.agg #[.int .i64 0, .int .i64 0], .int .i64 1]) (by simp [results, Try.results15, go_sem]) rfl ⟨rfl, by repeat (first | exact Below.refl _ _ | apply Below.drew | apply below_drewN | refine Below.setCell ?_ (by simp) _ | refine Below.alloc ?_ (by simp) _)⟩
  have hz : (d == 0) = false := by simpa using h0
  rcases Bool.eq_false_or_eq_true (inB n (-1000000000000000000) 1000000000000000000) with a | a <;> rcases Bool.eq_false_or_eq_true (inB d (-1000000000000000000) 1000000000000000000) with b | b
  · obtain ⟨m1, m2, m3⟩ := mk_in h0 a b
    rw [m1, m2, m3]
    have a1 := inB_iff.1 a
    have b1 := inB_iff.1 b
    go_enter Try.func15, Try.ntmps15
    go_wp2_with (first | (go_at_call 47; refine (l16In_any _ _ _ _).mono ?_; rintro e w' ⟨rfl, rfl⟩) | (go_at_call 48; refine (l26Reduce_any _ _ _ (by omega) (by omega) (by omega) (by omega) h0).mono ?_; rintro e w1 ⟨rfl, hb⟩; obtain ⟨hc, hf⟩ := bcell hb; have hz := hb.size; simp at hz))
    exact bodyPost_ret (v := .tuple #[.agg #[.int .i64 (redN n d), .int .i64 (redD n d)], .int .i64 0]) (by simp [results, Try.results15, go_sem, hc]) rfl ⟨rfl, by refine Below.setCell (Below.setCell ?_ (by simp) _) (by simp) _; exact below_then (Below.alloc (Below.refl _ _) (by simp) _) (by simp) hb⟩
  all_goals
    obtain ⟨m1, m2, m3⟩ := mk_out (n := n) h0 (by simp [a, b])
    rw [m1, m2, m3]
    go_enter Try.func15, Try.ntmps15
    go_wp2_with (go_at_call 47; refine (l16In_any _ _ _ _).mono ?_; rintro e w' ⟨rfl, rfl⟩)
    exact bodyPost_ret (v := .tuple #[.agg #[.int .i64 0, .int .i64 0], .int .i64 2]) (by simp [results, Try.results15, go_sem]) rfl ⟨rfl, by repeat (first | exact Below.refl _ _ | apply Below.drew | apply below_drewN | refine Below.setCell ?_ (by simp) _ | refine Below.alloc ?_ (by simp) _)⟩

set_option maxHeartbeats 1000000 in
theorem implMake_any (n d : Int) (w : World) (hn : -9223372036854775808 ≤ n) (hn' : n ≤ 9223372036854775807) (hd : -9223372036854775808 ≤ d) (hd' : d ≤ 9223372036854775807) :
    Calls Try.prog 16 #[.int .i64 n, .int .i64 d] w fun e w' => e = .returned (.tuple #[.agg #[.int .i64 (mkN n d), .int .i64 (mkD n d)], .int .i64 (mkC n d)]) ∧ Below w.heap.size w w' := by
  by_cases h0 : d = 0
  · subst h0
    obtain ⟨m1, m2, m3⟩ := mk_zero n
    rw [m1, m2, m3]
    go_enter Try.func16, Try.ntmps16
    go_wp2
    exact bodyPost_ret (v := .tuple #[.agg #[.int .i64 0, .int .i64 0], .int .i64 1]) (by simp [results, Try.results16, go_sem]) rfl ⟨rfl, by repeat (first | exact Below.refl _ _ | apply Below.drew | apply below_drewN | refine Below.setCell ?_ (by simp) _ | refine Below.alloc ?_ (by simp) _)⟩
  have hz : (d == 0) = false := by simpa using h0
  rcases Bool.eq_false_or_eq_true (inB n (-1000000000000000000) 1000000000000000000) with a | a <;> rcases Bool.eq_false_or_eq_true (inB d (-1000000000000000000) 1000000000000000000) with b | b
  · obtain ⟨m1, m2, m3⟩ := mk_in h0 a b
    rw [m1, m2, m3]
    have a1 := inB_iff.1 a
    have b1 := inB_iff.1 b
    go_enter Try.func16, Try.ntmps16
    go_wp2_with (first | (go_at_call 49; refine (within_any _ _ _ _).mono ?_; rintro e w' ⟨rfl, rfl⟩) | (go_at_call 50; refine (lowest_any _ _ _ (by omega) (by omega) (by omega) (by omega) h0).mono ?_; rintro e w1 ⟨rfl, hb⟩; obtain ⟨hc, hf⟩ := bcell hb; have hz := hb.size; simp at hz))
    exact bodyPost_ret (v := .tuple #[.agg #[.int .i64 (redN n d), .int .i64 (redD n d)], .int .i64 0]) (by simp [results, Try.results16, go_sem, hc]) rfl ⟨rfl, by refine Below.setCell (Below.setCell ?_ (by simp) _) (by simp) _; exact below_then (Below.alloc (Below.refl _ _) (by simp) _) (by simp) hb⟩
  all_goals
    obtain ⟨m1, m2, m3⟩ := mk_out (n := n) h0 (by simp [a, b])
    rw [m1, m2, m3]
    go_enter Try.func16, Try.ntmps16
    go_wp2_with (go_at_call 49; refine (within_any _ _ _ _).mono ?_; rintro e w' ⟨rfl, rfl⟩)
    exact bodyPost_ret (v := .tuple #[.agg #[.int .i64 0, .int .i64 0], .int .i64 2]) (by simp [results, Try.results16, go_sem]) rfl ⟨rfl, by repeat (first | exact Below.refl _ _ | apply Below.drew | apply below_drewN | refine Below.setCell ?_ (by simp) _ | refine Below.alloc ?_ (by simp) _)⟩

set_option maxHeartbeats 1000000 in
theorem eqRatio_refl (n d : Int) (w : World) :
    Calls Try.prog 17 #[.agg #[.int .i64 n, .int .i64 d], .agg #[.int .i64 n, .int .i64 d]] w fun e w' => e = .returned (.bool true) ∧ Below w.heap.size w w' := by
  go_enter Try.func17, Try.ntmps17
  go_wp2
  go_ret
  exact ⟨rfl, by repeat (first | exact Below.refl _ _ | apply Below.drew | apply below_drewN | refine Below.setCell ?_ (by simp) _ | refine Below.alloc ?_ (by simp) _)⟩
set_option maxHeartbeats 1000000 in
theorem toRatio_any (n d : Int) (w : World) :
    Calls Try.prog 27 #[.agg #[.int .i64 n, .int .i64 d]] w fun e w' => e = .returned (.agg #[.int .i64 n, .int .i64 d]) ∧ Below w.heap.size w w' := by
  go_enter Try.func27, Try.ntmps27
  go_wp2
  exact bodyPost_ret (v := .agg #[.int .i64 n, .int .i64 d]) (by simp [results, Try.results27, go_sem]) rfl ⟨rfl, (by ((repeat (first | (with_reducible exact Below.refl _ _) | (with_reducible refine below_drewN ?_ _) | (with_reducible refine Below.drew ?_) | (with_reducible refine below_al ?_ _) | (with_reducible refine below_on (by assumption) ?_) | ((with_reducible refine Below.setCell ?_ ?_ _); rotate_left; focus (first | omega | (simp; done) | (simp; omega))) | (with_reducible assumption))); done))⟩
end Go.Proofs.Ytdlnmpkjpdhhpaa
