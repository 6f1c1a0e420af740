/- Contracts of the two functions that reckon the greatest common divisor, of the sign's removal, of the two interval tests, and of the two functions that bring a ratio to lowest terms. -/
import Derived.Test.YtdlnmpkjpdhhpaaRows
import Derived.Test.YtdlnmpkjpdhhpaaMath
import Derived.Test.YtdlnmpkjpdhhpaaKit
import Derived.WalkKit
import Derived.Deep.QuietTactic
import Derived.BigQuiet
import Derived.Lib.Hide
namespace Go.Proofs.Ytdlnmpkjpdhhpaa
open Go.RowKit

set_option maxHeartbeats 400000 in
theorem l26Gcd_any (a b : Int) (w : World) (ha : 0 ≤ a) (ha' : a ≤ 9223372036854775807) (hb : 0 ≤ b) (hb' : b ≤ 9223372036854775807) :
    Calls Try.prog 69 #[.int .i64 a, .int .i64 b] w fun e w' => e = .returned (.int .i64 (Int.gcd a b : Nat)) ∧ ∃ n, w' = w.drewN n := by
  go_enter Try.func69, Try.ntmps69
  go_wp2
  go_loopw [0, 1] (fun x y wr => ∃ p q : Int, ∃ n : Nat, x = .int .i64 p ∧ y = .int .i64 q ∧ 0 ≤ p ∧ p ≤ 9223372036854775807 ∧ 0 ≤ q ∧ q ≤ 9223372036854775807 ∧ Int.gcd p q = Int.gcd a b ∧ wr = w.drewN n) (fun _ y _ => (intOf y).toNat)
  case atStart => exact ⟨a, b, 0, rfl, rfl, ha, ha', hb, hb', rfl, rfl⟩
  case round =>
    obtain ⟨p, q, n, rfl, rfl, hp, hp', hq, hq', hg, rfl⟩ := hrel
    have HG := Lib.hid hg
    clear hg
    by_cases hlt : 0 < q
    · have h1 := Int.emod_nonneg p (show q ≠ 0 by omega)
      have h2 := Int.emod_lt_of_pos p hlt
      go_wp2
      go_quiet (fail)
      go_wp2
      exact ⟨⟨q, p % q, n + nq, rfl, rfl, hq, hq', h1, by omega, by rw [gcd_step p q hp]; exact HG.out, World.drewN_drewN _ _ _⟩, by simp [intOf]; omega⟩
    · have h0 : q = 0 := by omega
      subst h0
      have h3 : (p.gcd 0 : Int) = p := by rw [Int.gcd_zero_right]; omega
      have h4 := HG.out
      go_wp2
      go_ret
      exact ⟨ret_i64 (by rw [← h4]; exact h3.symm), n, rfl⟩

set_option maxHeartbeats 400000 in
theorem divisor_any (a b : Int) (w : World) (ha : 0 ≤ a) (ha' : a ≤ 18446744073709551615) (hb : 0 ≤ b) (hb' : b ≤ 18446744073709551615) :
    Calls Try.prog 70 #[.int .u64 a, .int .u64 b] w fun e w' => e = .returned (.int .u64 (Int.gcd a b : Nat)) ∧ ∃ n, w' = w.drewN n := by
  go_enter Try.func70, Try.ntmps70
  go_wp2
  go_loopw [0, 1] (fun x y wr => ∃ p q : Int, ∃ n : Nat, x = .int .u64 p ∧ y = .int .u64 q ∧ 0 ≤ p ∧ p ≤ 18446744073709551615 ∧ 0 ≤ q ∧ q ≤ 18446744073709551615 ∧ Int.gcd p q = Int.gcd a b ∧ wr = w.drewN n) (fun _ y _ => (intOf y).toNat)
  case atStart => exact ⟨a, b, 0, rfl, rfl, ha, ha', hb, hb', rfl, rfl⟩
  case round =>
    obtain ⟨p, q, n, rfl, rfl, hp, hp', hq, hq', hg, rfl⟩ := hrel
    have HG := Lib.hid hg
    clear hg
    by_cases hlt : 0 < q
    · have h1 := Int.emod_nonneg p (show q ≠ 0 by omega)
      have h2 := Int.emod_lt_of_pos p hlt
      go_wp2
      go_quiet (fail)
      go_wp2
      exact ⟨⟨q, p % q, n + nq, rfl, rfl, hq, hq', h1, by omega, by rw [gcd_step p q hp]; exact HG.out, World.drewN_drewN _ _ _⟩, by simp [intOf]; omega⟩
    · have h0 : q = 0 := by omega
      subst h0
      have h3 : (p.gcd 0 : Int) = p := by rw [Int.gcd_zero_right]; omega
      have h4 := HG.out
      go_wp2
      go_ret
      exact ⟨ret_u64 (by rw [← h4]; exact h3.symm), n, rfl⟩

theorem u64_neg (a : Int) (h : a < 0) (ha : -9223372036854775808 ≤ a) : IntKind.u64.wrap (-IntKind.u64.wrap a) = a.natAbs := by
  simp [IntKind.wrap, IntKind.bits, IntKind.signed]; omega

theorem absolute_any (a : Int) (w : World) (ha : -9223372036854775808 ≤ a) (ha' : a ≤ 9223372036854775807) :
    Calls Try.prog 71 #[.int .i64 a] w fun e w' => e = .returned (.int .u64 (a.natAbs : Int)) ∧ w = w' := by
  by_cases h : a < 0
  · go_enter Try.func71, Try.ntmps71
    go_wp2
    go_ret
    exact ⟨ret_u64 (u64_neg a h ha), rfl⟩
  · go_enter Try.func71, Try.ntmps71
    go_wp2
    go_ret
    exact ⟨ret_u64 (by omega), rfl⟩

theorem l16In_any (x a b : Int) (w : World) :
    Calls Try.prog 47 #[.int .i64 x, .int .i64 a, .int .i64 b] w fun e w' => e = .returned (.bool (inB x a b)) ∧ w = w' := by
  go_enter Try.func47, Try.ntmps47
  go_wp2
  all_goals (go_ret; exact ⟨ret_bool (by simp [inB, *]; try omega), rfl⟩)
theorem within_any (x a b : Int) (w : World) :
    Calls Try.prog 49 #[.int .i64 x, .int .i64 a, .int .i64 b] w fun e w' => e = .returned (.bool (inB x a b)) ∧ w = w' := by
  go_enter Try.func49, Try.ntmps49
  go_wp2
  all_goals (go_ret; exact ⟨ret_bool (by simp [inB, *]; try omega), rfl⟩)

theorem l26Gcd_as (a b : Int) (g : Nat) (w : World) (hg : Int.gcd a b = g) (ha : 0 ≤ a) (ha' : a ≤ 9223372036854775807) (hb : 0 ≤ b) (hb' : b ≤ 9223372036854775807) :
    Calls Try.prog 69 #[.int .i64 a, .int .i64 b] w fun e w' => e = .returned (.int .i64 (g : Nat)) ∧ ∃ n, w' = w.drewN n := by
  subst hg; exact l26Gcd_any a b w ha ha' hb hb'
theorem divisor_as (a b : Int) (g : Nat) (w : World) (hg : Int.gcd a b = g) (ha : 0 ≤ a) (ha' : a ≤ 18446744073709551615) (hb : 0 ≤ b) (hb' : b ≤ 18446744073709551615) :
    Calls Try.prog 70 #[.int .u64 a, .int .u64 b] w fun e w' => e = .returned (.int .u64 (g : Nat)) ∧ ∃ n, w' = w.drewN n := by
  subst hg; exact divisor_any a b w ha ha' hb hb'

set_option maxHeartbeats 1000000 in
theorem l26Reduce_any (n d : Int) (w : World) (hn : -9223372036854775807 ≤ n) (hn' : n ≤ 9223372036854775807) (hd : -9223372036854775807 ≤ d) (hd' : d ≤ 9223372036854775807) (h0 : d ≠ 0) :
    Calls Try.prog 48 #[.int .i64 n, .int .i64 d] w fun e w' => e = .returned (.agg #[.int .i64 (redN n d), .int .i64 (redD n d)]) ∧ Below w.heap.size w w' := by
  have g1 := gcd_pos_of n d h0
  have g2 := gcd_le_of n d h0
  have q1 := tdiv_bd n (Int.gcd n d : Nat) (by omega) 9223372036854775807 hn hn'
  have q2 := tdiv_bd d (Int.gcd n d : Nat) (by omega) 9223372036854775807 hd hd'
  have e1 := Lib.hid (show Int.gcd (-n) (-d) = n.gcd d from by simp [Int.neg_gcd, Int.gcd_neg])
  have e2 := Lib.hid (show Int.gcd n (-d) = n.gcd d from by simp [Int.gcd_neg])
  have e3 := Lib.hid (show Int.gcd (-n) d = n.gcd d from by simp [Int.neg_gcd])
  have e4 := Lib.hid (show Int.gcd n d = n.gcd d from rfl)
  have e5 := Lib.hid (show Int.gcd ((-n).natAbs : Int) (-d) = n.gcd d from by simp [Int.gcd_neg, gcd_abs])
  have e6 := Lib.hid (show Int.gcd (n.natAbs : Int) d = n.gcd d from by simp [gcd_abs])
  by_cases hdn : d < 0
  all_goals
    go_enter Try.func48, Try.ntmps48
    go_wp2_with (go_at_call 69; refine (l26Gcd_as _ _ (n.gcd d) _ (by first | exact e1.out | exact e2.out | exact e3.out | exact e4.out | exact e5.out | exact e6.out) (by omega) (by omega) (by omega) (by omega)).mono ?_; rintro e w' ⟨rfl, nq, rfl⟩)
  all_goals
    go_region
    go_wp2
    exact bodyPost_ret (v := .agg #[.int .i64 (redN n d), .int .i64 (redD n d)]) (by first | simp [results, Try.results48, go_sem, redN_lt _ hdn, redD_lt _ hdn] | simp [results, Try.results48, go_sem, redN_ge _ hdn, redD_ge _ hdn]) rfl ⟨rfl, by repeat (first | exact Below.refl _ _ | apply Below.drew | apply below_drewN | refine Below.setCell ?_ (by simp) _ | refine Below.alloc ?_ (by simp) _)⟩

set_option maxHeartbeats 1000000 in
theorem lowest_any (n d : Int) (w : World) (hn : -9223372036854775807 ≤ n) (hn' : n ≤ 9223372036854775807) (hd : -9223372036854775807 ≤ d) (hd' : d ≤ 9223372036854775807) (h0 : d ≠ 0) :
    Calls Try.prog 50 #[.int .i64 n, .int .i64 d] w fun e w' => e = .returned (.agg #[.int .i64 (redN n d), .int .i64 (redD n d)]) ∧ Below w.heap.size w w' := by
  have g1 := gcd_pos_of n d h0
  have g2 := gcd_le_of n d h0
  have q1 := tdiv_bd n (Int.gcd n d : Nat) (by omega) 9223372036854775807 hn hn'
  have q2 := tdiv_bd d (Int.gcd n d : Nat) (by omega) 9223372036854775807 hd hd'
  have e1 := Lib.hid (show Int.gcd (-n) (-d) = n.gcd d from by simp [Int.neg_gcd, Int.gcd_neg])
  have e2 := Lib.hid (show Int.gcd n (-d) = n.gcd d from by simp [Int.gcd_neg])
  have e3 := Lib.hid (show Int.gcd (-n) d = n.gcd d from by simp [Int.neg_gcd])
  have e4 := Lib.hid (show Int.gcd n d = n.gcd d from rfl)
  have e5 := Lib.hid (show Int.gcd ((-n).natAbs : Int) (-d) = n.gcd d from by simp [Int.gcd_neg, gcd_abs])
  have e6 := Lib.hid (show Int.gcd (n.natAbs : Int) d = n.gcd d from by simp [gcd_abs])
  by_cases hdn : d < 0
  all_goals
    go_enter Try.func50, Try.ntmps50
    go_wp2_with (first | (go_at_call 71; refine (absolute_any _ _ (by omega) (by omega)).mono ?_; rintro e w' ⟨rfl, rfl⟩) | (go_at_call 70; refine (divisor_as _ _ (n.gcd d) _ (by first | exact e1.out | exact e2.out | exact e3.out | exact e4.out | exact e5.out | exact e6.out) (by omega) (by omega) (by omega) (by omega)).mono ?_; rintro e w' ⟨rfl, nq, rfl⟩))
  all_goals
    go_region
    go_wp2
    exact bodyPost_ret (v := .agg #[.int .i64 (redN n d), .int .i64 (redD n d)]) (by first | simp [results, Try.results50, go_sem, redN_lt _ hdn, redD_lt _ hdn] | simp [results, Try.results50, go_sem, redN_ge _ hdn, redD_ge _ hdn]) rfl ⟨rfl, by repeat (first | exact Below.refl _ _ | apply Below.drew | apply below_drewN | refine Below.setCell ?_ (by simp) _ | refine Below.alloc ?_ (by simp) _)⟩

end Go.Proofs.Ytdlnmpkjpdhhpaa
