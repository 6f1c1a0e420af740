/- Contracts of the two validity tests of a ratio, of the two size tests, and of the sums and products. -/
import Derived.Test.YtjolkdckhmmenaaValid0
import Derived.Test.YtjolkdckhmmenaaMake
import Derived.Deep.RegionHeld3
namespace Go.Proofs.Ytjolkdckhmmenaa
open Go.RowKit

theorem tmod_bd (p q : Int) (h : q ≠ 0) : (p.tmod q).natAbs < q.natAbs ∧ (p.tmod q).natAbs ≤ p.natAbs := by
  rw [Int.natAbs_tmod]
  exact ⟨Nat.mod_lt _ (by omega), Nat.mod_le _ _⟩

set_option maxHeartbeats 1000000 in
theorem l26Valid_any (n d : Int) (w : World) (hn : -9223372036854775808 ≤ n) (hn' : n ≤ 9223372036854775807) (hd : -9223372036854775808 ≤ d) (hd' : d ≤ 9223372036854775807) :
    Calls Try.prog 23 #[.agg #[.int .i64 n, .int .i64 d]] w fun e w' => e = .returned (.bool (vrB n d)) ∧ Below w.heap.size w w' := by
  by_cases h0 : 0 < d
  · rw [vrB_of n h0]
    go_enter Try.func23, Try.ntmps23
    go_wp2
    go_quiet (fail)
    go_wp2
    go_loopw [3, 4] (fun x y wr => ∃ p q : Int, x = .int .i64 p ∧ y = .int .i64 q ∧ -9223372036854775808 ≤ p ∧ p ≤ 9223372036854775807 ∧ -9223372036854775808 ≤ q ∧ q ≤ 9223372036854775807 ∧ Int.gcd p q = Int.gcd n d ∧ Below w.heap.size w wr) (fun _ y _ => (intOf y).natAbs)
    case atStart => exact ⟨n, d, rfl, rfl, hn, hn', hd, hd', rfl, (by ((repeat (first | (with_reducible exact Below.refl _ _) | (with_reducible refine below_drewN ?_ _) | (with_reducible refine Below.drew ?_) | (with_reducible refine below_al ?_ _) | (with_reducible refine below_on (by assumption) ?_) | ((with_reducible refine Below.setCell ?_ ?_ _); rotate_left; focus (first | omega | (simp; done) | (simp; omega))) | (with_reducible assumption))); done))⟩
    case round =>
      obtain ⟨p, q, rfl, rfl, hp, hp', hq, hq', hg, hbw⟩ := hrel
      have HG := Lib.hid hg
      clear hg
      by_cases hz : q = 0
      · subst hz
        have h3 : p.gcd 0 = p.natAbs := Int.gcd_zero_right p
        have h4 := Lib.hid (h3.symm.trans HG.out)
        clear h3
        go_wp2
        all_goals go_ret
        all_goals exact ⟨ret_bool (by rw [Bool.eq_iff_iff]; have := h4.out; simp; omega), hbw⟩
      · have hz' : (q == 0) = false := by simpa using hz
        have h1 := tmod_bd p q hz
        go_wp2
        go_quiet (fail)
        go_wp2
        exact ⟨⟨q, p.tmod q, rfl, rfl, hq, hq', by omega, by omega, by rw [gcd_tstep]; exact HG.out, (by ((repeat (first | (with_reducible exact Below.refl _ _) | (with_reducible refine below_drewN ?_ _) | (with_reducible refine Below.drew ?_) | (with_reducible refine below_al ?_ _) | (with_reducible refine below_on (by assumption) ?_) | ((with_reducible refine Below.setCell ?_ ?_ _); rotate_left; focus (first | omega | (simp; done) | (simp; omega))) | (with_reducible assumption))); done))⟩, by have := h1.1; simp [intOf] at this ⊢; exact this⟩
  · rw [vrB_neg n (by omega)]
    go_enter Try.func23, Try.ntmps23
    go_wp2
    go_ret
    exact ⟨rfl, (by ((repeat (first | (with_reducible exact Below.refl _ _) | (with_reducible refine below_drewN ?_ _) | (with_reducible refine Below.drew ?_) | (with_reducible refine below_al ?_ _) | (with_reducible refine below_on (by assumption) ?_) | ((with_reducible refine Below.setCell ?_ ?_ _); rotate_left; focus (first | omega | (simp; done) | (simp; omega))) | (with_reducible assumption))); done))⟩
theorem l26Valid_is (n d : Int) (b : Bool) (w : World) (h : vrB n d = b) (hn : -9223372036854775808 ≤ n) (hn' : n ≤ 9223372036854775807) (hd : -9223372036854775808 ≤ d) (hd' : d ≤ 9223372036854775807) :
    Calls Try.prog 23 #[.agg #[.int .i64 n, .int .i64 d]] w fun e w' => e = .returned (.bool b) ∧ Below w.heap.size w w' := h ▸ l26Valid_any n d w hn hn' hd hd'
end Go.Proofs.Ytjolkdckhmmenaa
