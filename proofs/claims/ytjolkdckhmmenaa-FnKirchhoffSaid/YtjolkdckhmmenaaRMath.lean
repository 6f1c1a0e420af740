/- Plain arithmetic of sums and products of ratios. -/
import Derived.Test.YtjolkdckhmmenaaValid0
namespace Go.Proofs.Ytjolkdckhmmenaa

theorem mul_bd {a b : Int} (A B : Int) (h1 : -A ≤ a) (h2 : a ≤ A) (h3 : -B ≤ b) (h4 : b ≤ B) : -(A * B) ≤ a * b ∧ a * b ≤ A * B := by
  have hA : a.natAbs ≤ A.natAbs := by omega
  have hB : b.natAbs ≤ B.natAbs := by omega
  have h := Nat.mul_le_mul hA hB
  rw [← Int.natAbs_mul, ← Int.natAbs_mul] at h
  have hp : 0 ≤ A * B := Int.mul_nonneg (by omega) (by omega)
  omega

/-- The code of an operation on two ratios, and what the operation hands back. -/
def arC (n1 d1 n2 d2 : Int) : Int := if (vrB n1 d1 && vrB n2 d2) = true then (if (fcB n1 d1 && fcB n2 d2) = true then 0 else 2) else 1
def whenN (c n d : Int) : Int := if c = 0 then redN n d else 0
def whenD (c n d : Int) : Int := if c = 0 then redD n d else 0
theorem arC_1 {n1 d1 : Int} (n2 d2 : Int) (h : vrB n1 d1 = false) : arC n1 d1 n2 d2 = 1 := by simp [arC, h]
theorem arC_2 {n1 d1 n2 d2 : Int} (h' : vrB n2 d2 = false) : arC n1 d1 n2 d2 = 1 := by simp [arC, h']
theorem arC_3 {n1 d1 n2 d2 : Int} (a : vrB n1 d1 = true) (b : vrB n2 d2 = true) (h : fcB n1 d1 = false) : arC n1 d1 n2 d2 = 2 := by simp [arC, a, b, h]
theorem arC_4 {n1 d1 n2 d2 : Int} (a : vrB n1 d1 = true) (b : vrB n2 d2 = true) (h : fcB n2 d2 = false) : arC n1 d1 n2 d2 = 2 := by simp [arC, a, b, h]
theorem arC_5 {n1 d1 n2 d2 : Int} (a : vrB n1 d1 = true) (b : vrB n2 d2 = true) (c : fcB n1 d1 = true) (d : fcB n2 d2 = true) : arC n1 d1 n2 d2 = 0 := by simp [arC, a, b, c, d]
theorem when_1 (n d : Int) : whenN 1 n d = 0 ∧ whenD 1 n d = 0 := by simp [whenN, whenD]
theorem when_2 (n d : Int) : whenN 2 n d = 0 ∧ whenD 2 n d = 0 := by simp [whenN, whenD]
theorem when_0 (n d : Int) : whenN 0 n d = redN n d ∧ whenD 0 n d = redD n d := by simp [whenN, whenD]
/-- The bounds of every product that the two operations make. -/
theorem ops_bd {n1 d1 n2 d2 : Int} (a : vrB n1 d1 = true) (b : vrB n2 d2 = true) (c : fcB n1 d1 = true) (d : fcB n2 d2 = true) :
    (-1000000000000000000 ≤ n1 * d2 ∧ n1 * d2 ≤ 1000000000000000000) ∧ (-1000000000000000000 ≤ n2 * d1 ∧ n2 * d1 ≤ 1000000000000000000) ∧ (-1000000000000000000 ≤ n1 * n2 ∧ n1 * n2 ≤ 1000000000000000000) ∧
    (0 < d1 * d2 ∧ d1 * d2 ≤ 1000000000000000000) := by
  have p1 := vrB_pos a
  have p2 := vrB_pos b
  have q1 := fcB_bd c
  have q2 := fcB_bd d
  have r1 := mul_bd (a := n1) (b := d2) 1000000000 1000000000 (by omega) (by omega) (by omega) (by omega)
  have r2 := mul_bd (a := n2) (b := d1) 1000000000 1000000000 (by omega) (by omega) (by omega) (by omega)
  have r3 := mul_bd (a := n1) (b := n2) 1000000000 1000000000 (by omega) (by omega) (by omega) (by omega)
  have r4 := mul_bd (a := d1) (b := d2) 1000000000 1000000000 (by omega) (by omega) (by omega) (by omega)
  have r5 := Int.mul_pos p1 p2
  omega
end Go.Proofs.Ytjolkdckhmmenaa
