/- Contracts of the two functions that reckon the greatest common divisor, of the sign's removal, of the two interval tests, and of the validity test of a ratio. -/
import Derived.Test.YthcaipohdeigeaaRows
import Derived.Test.YthcaipohdeigeaaMath
import Derived.Test.YthcaipohdeigeaaKit
import Derived.WalkKit
import Derived.Deep.QuietTactic
import Derived.BigQuiet
import Derived.Lib.Hide
namespace Go.Proofs.Ythcaipohdeigeaa
open Go.RowKit

set_option maxHeartbeats 400000 in
theorem l26Gcd_any (a b : Int) (w : World) (ha : 0 ≤ a) (ha' : a ≤ 9223372036854775807) (hb : 0 ≤ b) (hb' : b ≤ 9223372036854775807) :
    Calls Try.prog 110 #[.int .i64 a, .int .i64 b] w fun e w' => e = .returned (.int .i64 (Int.gcd a b : Nat)) ∧ ∃ n, w' = w.drewN n := by
  go_enter Try.func110, Try.ntmps110
  go_wp2
  go_loopw [0, 1] (fun x y wr => ∃ p q : Int, ∃ n : Nat, x = .int .i64 p ∧ y = .int .i64 q ∧ 0 ≤ p ∧ p ≤ 9223372036854775807 ∧ 0 ≤ q ∧ q ≤ 9223372036854775807 ∧ Int.gcd p q = Int.gcd a b ∧ wr = w.drewN n) (fun _ y _ => (intOf y).toNat)
  case atStart => exact ⟨a, b, 0, rfl, rfl, ha, ha', hb, hb', rfl, rfl⟩
  case round =>
    obtain ⟨p, q, n, rfl, rfl, hp, hp', hq, hq', hg, rfl⟩ := hrel
    have HG := Lib.hid hg
    clear hg
    by_cases hlt : 0 < q
    · have h1 := Int.emod_nonneg p (show q ≠ 0 by omega)
      have h2 := Int.emod_lt_of_pos p hlt
      go_wp2
      go_quiet (fail)
      go_wp2
      exact ⟨⟨q, p % q, n + nq, rfl, rfl, hq, hq', h1, by omega, by rw [gcd_step p q hp]; exact HG.out, World.drewN_drewN _ _ _⟩, by simp [intOf]; omega⟩
    · have h0 : q = 0 := by omega
      subst h0
      have h3 : (p.gcd 0 : Int) = p := by rw [Int.gcd_zero_right]; omega
      have h4 := HG.out
      go_wp2
      go_ret
      exact ⟨ret_i64 (by rw [← h4]; exact h3.symm), n, rfl⟩

set_option maxHeartbeats 400000 in
theorem divisor_any (a b : Int) (w : World) (ha : 0 ≤ a) (ha' : a ≤ 18446744073709551615) (hb : 0 ≤ b) (hb' : b ≤ 18446744073709551615) :
    Calls Try.prog 130 #[.int .u64 a, .int .u64 b] w fun e w' => e = .returned (.int .u64 (Int.gcd a b : Nat)) ∧ ∃ n, w' = w.drewN n := by
  go_enter Try.func130, Try.ntmps130
  go_wp2
  go_loopw [0, 1] (fun x y wr => ∃ p q : Int, ∃ n : Nat, x = .int .u64 p ∧ y = .int .u64 q ∧ 0 ≤ p ∧ p ≤ 18446744073709551615 ∧ 0 ≤ q ∧ q ≤ 18446744073709551615 ∧ Int.gcd p q = Int.gcd a b ∧ wr = w.drewN n) (fun _ y _ => (intOf y).toNat)
  case atStart => exact ⟨a, b, 0, rfl, rfl, ha, ha', hb, hb', rfl, rfl⟩
  case round =>
    obtain ⟨p, q, n, rfl, rfl, hp, hp', hq, hq', hg, rfl⟩ := hrel
    have HG := Lib.hid hg
    clear hg
    by_cases hlt : 0 < q
    · have h1 := Int.emod_nonneg p (show q ≠ 0 by omega)
      have h2 := Int.emod_lt_of_pos p hlt
      go_wp2
      go_quiet (fail)
      go_wp2
      exact ⟨⟨q, p % q, n + nq, rfl, rfl, hq, hq', h1, by omega, by rw [gcd_step p q hp]; exact HG.out, World.drewN_drewN _ _ _⟩, by simp [intOf]; omega⟩
    · have h0 : q = 0 := by omega
      subst h0
      have h3 : (p.gcd 0 : Int) = p := by rw [Int.gcd_zero_right]; omega
      have h4 := HG.out
      go_wp2
      go_ret
      exact ⟨ret_u64 (by rw [← h4]; exact h3.symm), n, rfl⟩

theorem u64_neg (a : Int) (h : a < 0) (ha : -9223372036854775808 ≤ a) : IntKind.u64.wrap (-IntKind.u64.wrap a) = a.natAbs := by
  simp [IntKind.wrap, IntKind.bits, IntKind.signed]; omega

theorem absolute_any (a : Int) (w : World) (ha : -9223372036854775808 ≤ a) (ha' : a ≤ 9223372036854775807) :
    Calls Try.prog 131 #[.int .i64 a] w fun e w' => e = .returned (.int .u64 (a.natAbs : Int)) ∧ w = w' := by
  by_cases h : a < 0
  · go_enter Try.func131, Try.ntmps131
    go_wp2
    go_ret
    exact ⟨ret_u64 (u64_neg a h ha), rfl⟩
  · go_enter Try.func131, Try.ntmps131
    go_wp2
    go_ret
    exact ⟨ret_u64 (by omega), rfl⟩

theorem l16In_any (x a b : Int) (w : World) :
    Calls Try.prog 68 #[.int .i64 x, .int .i64 a, .int .i64 b] w fun e w' => e = .returned (.bool (inB x a b)) ∧ w = w' := by
  go_enter Try.func68, Try.ntmps68
  go_wp2
  all_goals (go_ret; exact ⟨ret_bool (by simp [inB, *]; try omega), rfl⟩)
theorem within_any (x a b : Int) (w : World) :
    Calls Try.prog 73 #[.int .i64 x, .int .i64 a, .int .i64 b] w fun e w' => e = .returned (.bool (inB x a b)) ∧ w = w' := by
  go_enter Try.func73, Try.ntmps73
  go_wp2
  all_goals (go_ret; exact ⟨ret_bool (by simp [inB, *]; try omega), rfl⟩)

theorem l26Gcd_as (a b : Int) (g : Nat) (w : World) (hg : Int.gcd a b = g) (ha : 0 ≤ a) (ha' : a ≤ 9223372036854775807) (hb : 0 ≤ b) (hb' : b ≤ 9223372036854775807) :
    Calls Try.prog 110 #[.int .i64 a, .int .i64 b] w fun e w' => e = .returned (.int .i64 (g : Nat)) ∧ ∃ n, w' = w.drewN n := by
  subst hg; exact l26Gcd_any a b w ha ha' hb hb'
theorem divisor_as (a b : Int) (g : Nat) (w : World) (hg : Int.gcd a b = g) (ha : 0 ≤ a) (ha' : a ≤ 18446744073709551615) (hb : 0 ≤ b) (hb' : b ≤ 18446744073709551615) :
    Calls Try.prog 130 #[.int .u64 a, .int .u64 b] w fun e w' => e = .returned (.int .u64 (g : Nat)) ∧ ∃ n, w' = w.drewN n := by
  subst hg; exact divisor_any a b w ha ha' hb hb'

set_option maxHeartbeats 1000000 in
theorem validRatio_any (n d : Int) (w : World) (hn : -9223372036854775808 ≤ n) (hn' : n ≤ 9223372036854775807) (hd : -9223372036854775808 ≤ d) (hd' : d ≤ 9223372036854775807) :
    Calls Try.prog 115 #[.agg #[.int .i64 n, .int .i64 d]] w fun e w' => e = .returned (.bool (vrB n d)) ∧ Below w.heap.size w w' := by
  by_cases h0 : 0 < d
  · rw [vrB_of n h0]
    have e1 := Lib.hid (show Int.gcd (n.natAbs : Int) d = n.gcd d from by simp [gcd_abs])
    go_enter Try.func115, Try.ntmps115
    go_wp2
    go_quiet ((first | (go_at_call 131; exact Calls.quiet_of_same ((absolute_any n _ hn hn').mono fun _ _ h => ⟨h.1, h.2.symm⟩)) | (go_at_call 130; exact Calls.quiet_of (divisor_as _ _ (n.gcd d) _ e1.out (by omega) (by omega) (by omega) (by omega)))))
    go_wp2
    go_ret
    exact ⟨ret_bool (by rw [Bool.eq_iff_iff]; simp; omega), (by ((repeat (first | (with_reducible exact Below.refl _ _) | (with_reducible refine below_drewN ?_ _) | (with_reducible refine Below.drew ?_) | (with_reducible refine below_al ?_ _) | (with_reducible refine below_on (by assumption) ?_) | ((with_reducible refine Below.setCell ?_ ?_ _); rotate_left; focus (first | omega | (simp; done) | (simp; omega))) | (with_reducible assumption))); done))⟩
  · rw [vrB_neg n (by omega)]
    have hx : decide (d > 0) = false := by simp; omega
    go_enter Try.func115, Try.ntmps115
    go_wp2
    go_quiet (fail)
    go_wp2
    go_ret
    exact ⟨rfl, (by ((repeat (first | (with_reducible exact Below.refl _ _) | (with_reducible refine below_drewN ?_ _) | (with_reducible refine Below.drew ?_) | (with_reducible refine below_al ?_ _) | (with_reducible refine below_on (by assumption) ?_) | ((with_reducible refine Below.setCell ?_ ?_ _); rotate_left; focus (first | omega | (simp; done) | (simp; omega))) | (with_reducible assumption))); done))⟩

theorem validRatio_is (n d : Int) (b : Bool) (w : World) (h : vrB n d = b) (hn : -9223372036854775808 ≤ n) (hn' : n ≤ 9223372036854775807) (hd : -9223372036854775808 ≤ d) (hd' : d ≤ 9223372036854775807) :
    Calls Try.prog 115 #[.agg #[.int .i64 n, .int .i64 d]] w fun e w' => e = .returned (.bool b) ∧ Below w.heap.size w w' := h ▸ validRatio_any n d w hn hn' hd hd'
end Go.Proofs.Ythcaipohdeigeaa
