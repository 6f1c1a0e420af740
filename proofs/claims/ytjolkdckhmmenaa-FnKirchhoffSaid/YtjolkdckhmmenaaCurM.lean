/- The current through a resistor in lowest terms: plain. -/
import Derived.Test.YtjolkdckhmmenaaRLaw
import Derived.Test.YtjolkdckhmmenaaLabs
namespace Go.Proofs.Ytjolkdckhmmenaa
open Go.RowKit
set_option linter.unusedVariables false
set_option linter.unusedSimpArgs false

theorem red_dvd (n : Int) {d : Int} (h : 0 < d) : redN n d ∣ n ∧ redD n d ∣ d := by
  obtain ⟨a, b, _⟩ := red_exact n h
  exact ⟨⟨_, a.symm⟩, ⟨_, b.symm⟩⟩
theorem cop_of {a b c d : Int} (h1 : a ∣ b) (h2 : c ∣ d) (h : Int.gcd b d = 1) : Nat.Coprime a.natAbs c.natAbs := by
  have e : Nat.Coprime b.natAbs d.natAbs := h
  exact (e.coprime_dvd_left (Int.natAbs_dvd_natAbs.2 h1)).coprime_dvd_right (Int.natAbs_dvd_natAbs.2 h2)
theorem red_self {n d : Int} (h : 0 < d) (hg : Int.gcd n d = 1) : redN n d = n ∧ redD n d = d := by
  obtain ⟨a, b, _⟩ := red_exact n h
  rw [hg] at a b
  have e : ((1 : Nat) : Int) = 1 := rfl
  rw [e, Int.mul_one] at a b
  exact ⟨a, b⟩
/-- The program's own reckoning of a current comes to the quotient, and stays small. -/
theorem cur_red {q num den T : Int} (hn : 1 ≤ num) (hd : 1 ≤ den) (hT : 0 < T) (hv : vrB num den = true) :
    let dn := redN (num * q) T; let dd := redD (num * q) T
    let on := redN dn num; let od := redD dn num; let tn := redN den dd; let td := redD den dd
    (redN (on * tn) (od * td) = redN (q * den) T ∧ redD (on * tn) (od * td) = redD (q * den) T) ∧ (0 < dd ∧ dd ≤ T) ∧ dn.natAbs ≤ (num * q).natAbs ∧ (on.natAbs ≤ dn.natAbs ∧ 0 < od ∧ od ≤ num) ∧ (tn.natAbs ≤ den.natAbs ∧ 0 < td ∧ td ≤ dd) ∧ (on * tn).natAbs ≤ (q * den).natAbs ∧ (0 < od * td ∧ od * td ≤ T) := by
  intro dn dd on od tn td
  have p1 : 0 < dd := redD_pos _ hT
  have p2 : 0 < od := redD_pos _ (by omega)
  have p3 : 0 < td := redD_pos _ p1
  have c1 : dn * T = num * q * dd := red_cross _ hT
  have c2 : on * num = dn * od := red_cross _ (by omega)
  have c3 : tn * dd = den * td := red_cross _ p1
  have b1 := red_bd (num * q) hT
  have b2 := red_bd dn (d := num) (by omega)
  have b3 := red_bd den p1
  have g0 : Int.gcd dn dd = 1 := red_gcd _ hT
  have g1 : Int.gcd on od = 1 := red_gcd _ (by omega)
  have g2 : Int.gcd tn td = 1 := red_gcd _ p1
  have d1 := red_dvd dn (d := num) (by omega)
  have d2 := red_dvd den p1
  have gv : Int.gcd num den = 1 := by
    simp only [vrB, Bool.and_eq_true, decide_eq_true_eq] at hv; exact hv.2
  have pp : 0 < od * td := Int.mul_pos p2 p3
  have cross : (on * tn) * T = (q * den) * (od * td) := by
    have hz : num * dd ≠ 0 := by have := Int.mul_pos (show 0 < num by omega) p1; omega
    apply Int.eq_of_mul_eq_mul_right hz
    have e1 : (on * tn) * T * (num * dd) = (on * num) * (tn * dd) * T := by grind
    have e2 : dn * od * (den * td) * T = (dn * T) * (od * (den * td)) := by grind
    rw [e1, c2, c3, e2, c1]
    grind
  have gg : Int.gcd (on * tn) (od * td) = 1 := by
    have k1 : Nat.Coprime on.natAbs od.natAbs := g1
    have k2 : Nat.Coprime tn.natAbs td.natAbs := g2
    have k3 : Nat.Coprime on.natAbs td.natAbs := cop_of d1.1 d2.2 g0
    have k4 : Nat.Coprime tn.natAbs od.natAbs := cop_of d2.1 d1.2 (by rw [Int.gcd_comm]; exact gv)
    show Nat.gcd _ _ = 1
    rw [Int.natAbs_mul, Int.natAbs_mul]
    exact Nat.Coprime.mul_left (Nat.Coprime.mul_right k1 k3) (Nat.Coprime.mul_right k4 k2)
  have e := red_eq pp hT cross
  have s := red_self pp gg
  have f := red_bd (q * den) hT
  rw [← e.1, ← e.2, s.1, s.2] at f
  exact ⟨e, ⟨p1, b1.2⟩, b1.1, ⟨b2.1, p2, b2.2⟩, ⟨b3.1, p3, b3.2⟩, f.1, pp, f.2⟩
end Go.Proofs.Ytjolkdckhmmenaa
