/- Plain arithmetic for the proofs of this seat: the loop of the greatest common divisor. -/
import Derived.WalkKit
namespace Go.Proofs.Ythcaipohdeigeaa
open Go.RowKit

/-- One step of Euclid's loop over Int. -/
theorem gcd_tstep (a b : Int) : Int.gcd b (a.tmod b) = Int.gcd a b := by
  unfold Int.gcd
  rw [Int.natAbs_tmod, Nat.gcd_comm a.natAbs b.natAbs, Nat.gcd_rec b.natAbs a.natAbs, Nat.gcd_comm]
theorem gcd_step (a b : Int) (ha : 0 ≤ a) : Int.gcd b (a % b) = Int.gcd a b := by
  rw [← Int.tmod_eq_emod_of_nonneg ha]; exact gcd_tstep a b

/-- The interval test. -/
def inB (x a b : Int) : Bool := decide (a ≤ x ∧ x ≤ b)
theorem inB_iff {x a b : Int} : inB x a b = true ↔ a ≤ x ∧ x ≤ b := by simp [inB]
theorem inB_not {x a b : Int} : inB x a b = false ↔ ¬ (a ≤ x ∧ x ≤ b) := by simp [inB]

/-- The numerator and the denominator of n / d in lowest terms. -/
def redN (n d : Int) : Int := (if d < 0 then -n else n).tdiv (Int.gcd n d : Nat)
def redD (n d : Int) : Int := (if d < 0 then -d else d).tdiv (Int.gcd n d : Nat)

theorem redN_lt (n : Int) {d : Int} (h : d < 0) : redN n d = -n.tdiv (Int.gcd n d : Nat) := by unfold redN; rw [if_pos h, Int.neg_tdiv]
theorem redD_lt (n : Int) {d : Int} (h : d < 0) : redD n d = -d.tdiv (Int.gcd n d : Nat) := by unfold redD; rw [if_pos h, Int.neg_tdiv]
theorem redN_ge (n : Int) {d : Int} (h : 0 ≤ d) : redN n d = n.tdiv (Int.gcd n d : Nat) := by unfold redN; rw [if_neg (by omega)]
theorem redD_ge (n : Int) {d : Int} (h : 0 ≤ d) : redD n d = d.tdiv (Int.gcd n d : Nat) := by unfold redD; rw [if_neg (by omega)]
theorem gcd_pos_of (n d : Int) (h : d ≠ 0) : 0 < Int.gcd n d := by
  rcases Nat.eq_zero_or_pos (Int.gcd n d) with h0 | h0
  · exact absurd (Int.gcd_eq_zero_iff.1 h0).2 h
  · exact h0
theorem gcd_le_of (n d : Int) (h : d ≠ 0) : (Int.gcd n d : Int) ≤ d.natAbs := by
  have := Nat.le_of_dvd (by omega) (Int.gcd_dvd_natAbs_right n d)
  omega
theorem abs_max (n : Int) : max n (-n) = (n.natAbs : Int) := by omega
theorem gcd_abs (n d : Int) : Int.gcd (n.natAbs : Int) d = Int.gcd n d := by
  unfold Int.gcd; simp
theorem gcd_nn (n d : Int) : Int.gcd (-n) (-d) = Int.gcd n d := by rw [Int.neg_gcd, Int.gcd_neg]

theorem tdiv_bd (n g : Int) (h : 0 < g) (M : Int) (h1 : -M ≤ n) (h2 : n ≤ M) : -M ≤ n.tdiv g ∧ n.tdiv g ≤ M := by
  rcases Int.le_total 0 n with hn | hn
  · rw [Int.tdiv_eq_ediv_of_nonneg hn]
    have := Int.ediv_nonneg hn (by omega : 0 ≤ g)
    have := Int.ediv_le_self g hn
    omega
  · have e : n = -(-n) := by omega
    rw [e, Int.neg_tdiv, Int.tdiv_eq_ediv_of_nonneg (by omega)]
    have := Int.ediv_nonneg (by omega : 0 ≤ -n) (by omega : 0 ≤ g)
    have := Int.ediv_le_self g (by omega : 0 ≤ -n)
    omega

/-- What MakeRatio comes to: numerator, denominator, code. -/
def mkOk (n d : Int) : Bool := decide (d ≠ 0) && (inB n (-1000000000000000000) 1000000000000000000 && inB d (-1000000000000000000) 1000000000000000000)
def mkN (n d : Int) : Int := if mkOk n d = true then redN n d else 0
def mkD (n d : Int) : Int := if mkOk n d = true then redD n d else 0
def mkC (n d : Int) : Int := if d = 0 then 1 else if mkOk n d = true then 0 else 2
theorem mk_zero (n : Int) : mkN n 0 = 0 ∧ mkD n 0 = 0 ∧ mkC n 0 = 1 := by simp [mkN, mkD, mkC, mkOk]
theorem mk_out {n d : Int} (h : d ≠ 0) (h1 : ¬ (inB n (-1000000000000000000) 1000000000000000000 = true ∧ inB d (-1000000000000000000) 1000000000000000000 = true)) : mkN n d = 0 ∧ mkD n d = 0 ∧ mkC n d = 2 := by
  have e : mkOk n d = false := by
    simp only [mkOk, Bool.and_eq_false_iff]
    rcases Bool.eq_false_or_eq_true (inB n (-1000000000000000000) 1000000000000000000) with a | a <;> rcases Bool.eq_false_or_eq_true (inB d (-1000000000000000000) 1000000000000000000) with b | b <;> simp_all
  simp [mkN, mkD, mkC, e, h]
theorem mk_in {n d : Int} (h : d ≠ 0) (h1 : inB n (-1000000000000000000) 1000000000000000000 = true) (h2 : inB d (-1000000000000000000) 1000000000000000000 = true) : mkN n d = redN n d ∧ mkD n d = redD n d ∧ mkC n d = 0 := by
  have e : mkOk n d = true := by simp [mkOk, h1, h2, h]
  simp [mkN, mkD, mkC, e, h]

/-- A ratio is valid. -/
def vrB (n d : Int) : Bool := decide (0 < d) && decide (Int.gcd n d = 1)
/-- The parts of a ratio are small enough for arithmetic. -/
def fcB (n d : Int) : Bool := inB n (-1000000000) 1000000000 && decide (d ≤ 1000000000)
theorem vrB_pos {n d : Int} (h : vrB n d = true) : 0 < d := by simp [vrB] at h; exact h.1
theorem fcB_bd {n d : Int} (h : fcB n d = true) : -1000000000 ≤ n ∧ n ≤ 1000000000 ∧ d ≤ 1000000000 := by
  simp [fcB] at h; have := inB_iff.1 h.1; omega
theorem vrB_neg (n : Int) {d : Int} (h : d ≤ 0) : vrB n d = false := by simp [vrB]; intro h'; omega
theorem vrB_of (n : Int) {d : Int} (h : 0 < d) : vrB n d = decide (Int.gcd n d = 1) := by simp [vrB, h]

end Go.Proofs.Ythcaipohdeigeaa
