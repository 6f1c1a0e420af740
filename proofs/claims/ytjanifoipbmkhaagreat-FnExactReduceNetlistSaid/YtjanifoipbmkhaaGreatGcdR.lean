/- Contracts of the two functions that bring a ratio to lowest terms. -/
import Derived.Test.YtjanifoipbmkhaaGreatValid0
import Derived.Test.YtjanifoipbmkhaaGreatBase
import Derived.Deep.QuietTactic
import Derived.BigQuiet
import Derived.BigRegion
import Derived.Lib.Hide
namespace Go.Proofs.YtjanifoipbmkhaaGreat
open Go.RowKit
set_option linter.unusedVariables false
set_option linter.unusedSimpArgs false

set_option maxHeartbeats 1000000 in
theorem l26Reduce_any (n d : Int) (w : World) (hn : -9223372036854775807 ≤ n) (hn' : n ≤ 9223372036854775807) (hd : -9223372036854775807 ≤ d) (hd' : d ≤ 9223372036854775807) (h0 : d ≠ 0) :
    Calls Tryz.prog 84 #[.int .i64 n, .int .i64 d] w fun e w' => e = .returned (.agg #[.int .i64 (redN n d), .int .i64 (redD n d)]) ∧ Below w.heap.size w w' := by
  have g1 := gcd_pos_of n d h0
  have g2 := gcd_le_of n d h0
  have q1 := tdiv_bd n (Int.gcd n d : Nat) (by omega) 9223372036854775807 hn hn'
  have q2 := tdiv_bd d (Int.gcd n d : Nat) (by omega) 9223372036854775807 hd hd'
  have e1 := Lib.hid (show Int.gcd (-n) (-d) = n.gcd d from by simp [Int.neg_gcd, Int.gcd_neg])
  have e2 := Lib.hid (show Int.gcd n (-d) = n.gcd d from by simp [Int.gcd_neg])
  have e3 := Lib.hid (show Int.gcd (-n) d = n.gcd d from by simp [Int.neg_gcd])
  have e4 := Lib.hid (show Int.gcd n d = n.gcd d from rfl)
  have e5 := Lib.hid (show Int.gcd ((-n).natAbs : Int) (-d) = n.gcd d from by simp [Int.gcd_neg, gcd_abs])
  have e6 := Lib.hid (show Int.gcd (n.natAbs : Int) d = n.gcd d from by simp [gcd_abs])
  by_cases hdn : d < 0
  all_goals
    go_enter Tryz.func84, Tryz.ntmps84
    go_wp2_with (go_at_call 80; refine (l26Gcd_as _ _ (n.gcd d) _ (by first | exact e1.out | exact e2.out | exact e3.out | exact e4.out | exact e5.out | exact e6.out) (by omega) (by omega) (by omega) (by omega)).mono ?_; rintro e w' ⟨rfl, nq, rfl⟩)
  all_goals
    go_region
    go_wp2
    exact bodyPost_ret (v := .agg #[.int .i64 (redN n d), .int .i64 (redD n d)]) (by first | simp [results, Tryz.results84, go_sem, redN_lt _ hdn, redD_lt _ hdn] | simp [results, Tryz.results84, go_sem, redN_ge _ hdn, redD_ge _ hdn]) rfl ⟨rfl, by repeat (first | exact Below.refl _ _ | apply Below.drew | apply below_drewN | refine Below.setCell ?_ (by simp) _ | refine Below.alloc ?_ (by simp) _)⟩

set_option maxHeartbeats 1000000 in
theorem lowest_any (n d : Int) (w : World) (hn : -9223372036854775807 ≤ n) (hn' : n ≤ 9223372036854775807) (hd : -9223372036854775807 ≤ d) (hd' : d ≤ 9223372036854775807) (h0 : d ≠ 0) :
    Calls Tryz.prog 98 #[.int .i64 n, .int .i64 d] w fun e w' => e = .returned (.agg #[.int .i64 (redN n d), .int .i64 (redD n d)]) ∧ Below w.heap.size w w' := by
  have g1 := gcd_pos_of n d h0
  have g2 := gcd_le_of n d h0
  have q1 := tdiv_bd n (Int.gcd n d : Nat) (by omega) 9223372036854775807 hn hn'
  have q2 := tdiv_bd d (Int.gcd n d : Nat) (by omega) 9223372036854775807 hd hd'
  have e1 := Lib.hid (show Int.gcd (-n) (-d) = n.gcd d from by simp [Int.neg_gcd, Int.gcd_neg])
  have e2 := Lib.hid (show Int.gcd n (-d) = n.gcd d from by simp [Int.gcd_neg])
  have e3 := Lib.hid (show Int.gcd (-n) d = n.gcd d from by simp [Int.neg_gcd])
  have e4 := Lib.hid (show Int.gcd n d = n.gcd d from rfl)
  have e5 := Lib.hid (show Int.gcd ((-n).natAbs : Int) (-d) = n.gcd d from by simp [Int.gcd_neg, gcd_abs])
  have e6 := Lib.hid (show Int.gcd (n.natAbs : Int) d = n.gcd d from by simp [gcd_abs])
  by_cases hdn : d < 0
  all_goals
    go_enter Tryz.func98, Tryz.ntmps98
    go_wp2_with (first | (go_at_call 108; refine (absolute_any _ _ (by omega) (by omega)).mono ?_; rintro e w' ⟨rfl, rfl⟩) | (go_at_call 107; refine (divisor_as _ _ (n.gcd d) _ (by first | exact e1.out | exact e2.out | exact e3.out | exact e4.out | exact e5.out | exact e6.out) (by omega) (by omega) (by omega) (by omega)).mono ?_; rintro e w' ⟨rfl, nq, rfl⟩))
  all_goals
    go_region
    go_wp2
    exact bodyPost_ret (v := .agg #[.int .i64 (redN n d), .int .i64 (redD n d)]) (by first | simp [results, Tryz.results98, go_sem, redN_lt _ hdn, redD_lt _ hdn] | simp [results, Tryz.results98, go_sem, redN_ge _ hdn, redD_ge _ hdn]) rfl ⟨rfl, by repeat (first | exact Below.refl _ _ | apply Below.drew | apply below_drewN | refine Below.setCell ?_ (by simp) _ | refine Below.alloc ?_ (by simp) _)⟩
end Go.Proofs.YtjanifoipbmkhaaGreat
