/- What the law of the currents wants of them: plain. -/
import Derived.Test.YtjolkdckhmmenaaResM
namespace Go.Proofs.Ytjolkdckhmmenaa
open Go.RowKit
set_option linter.unusedVariables false
set_option linter.unusedSimpArgs false

theorem red_neg (n : Int) {d : Int} (h : 0 < d) : redN (-n) d = -redN n d ∧ redD (-n) d = redD n d := by
  rw [redN_ge (-n) (by omega), redN_ge n (by omega), redD_ge (-n) (by omega), redD_ge n (by omega), Int.neg_gcd, Int.neg_tdiv]
  exact ⟨rfl, rfl⟩
theorem red_int (k : Int) {T : Int} (h : 0 < T) : rtOf (T * k) T = ⟨k, 1⟩ := by
  have m := red_mul k (d := 1) (g := T) (by omega) h
  have e1 : k * T = T * k := Int.mul_comm _ _
  have e2 : (1 : Int) * T = T := Int.one_mul _
  rw [e1, e2] at m
  have a1 : redN k 1 = k := by rw [redN_ge k (by omega)]; simp
  have a2 : redD k 1 = 1 := by rw [redD_ge k (by omega)]; simp
  unfold rtOf
  rw [m.1, m.2, a1, a2]
/-- What flows into a node. -/
def flow (G : Res → Int) (rs : List Res) (u : Nat) : Int := lsum (fun r => (if r.b.toNat = u then G r else 0) - (if r.a.toNat = u then G r else 0)) rs
theorem flow_snoc (G : Res → Int) (rs : List Res) (r : Res) (u : Nat) : flow G (rs ++ [r]) u = flow G rs u + ((if r.b.toNat = u then G r else 0) - (if r.a.toNat = u then G r else 0)) := by
  unfold flow
  rw [lsum_append]; simp [lsum]
def dueK (a b u : Nat) : Int := if u = b ∧ a ≠ b then 1 else if u = a ∧ a ≠ b then -1 else 0
theorem NetAB.flow_all (X : NetAB) (u : Nat) : flow (fun r => X.cur r * r.den) X.rs u = X.T * dueK X.a X.b u := by
  have h := X.law (fun v => if v = u then 1 else 0)
  have e : flow (fun r => X.cur r * r.den) X.rs u = (-1) * lsum (fun r => r.den * ((if r.a.toNat = u then (1 : Int) else 0) - (if r.b.toNat = u then 1 else 0)) * X.cur r) X.rs := by
    rw [lsum_mul]
    unfold flow
    refine lsum_congr (fun r _ => ?_)
    by_cases h1 : r.a.toNat = u <;> by_cases h2 : r.b.toNat = u <;> simp only [h1, h2, if_true, if_false] <;> grind
  rw [e, h]
  unfold dueK
  by_cases h1 : X.a = u <;> by_cases h2 : X.b = u
  · have h3 : X.a = X.b := h1.trans h2.symm
    simp [h1, h2]
  · have h3 : ¬ u = X.b := fun e => h2 e.symm
    have h4 : ¬ X.a = X.b := fun e => h3 (h1.symm.trans e)
    subst h1
    simp only [if_true, if_neg h2, h3, false_and, if_false, h4, ne_eq, not_false_eq_true, and_self]; grind
  · have h3 : ¬ u = X.a := fun e => h1 e.symm
    have h4 : ¬ X.a = X.b := fun e => h1 (e.trans h2)
    subst h2
    simp only [if_true, if_neg h1, h4, ne_eq, not_false_eq_true, and_self]; grind
  · have h3 : ¬ u = X.a := fun e => h1 e.symm
    have h4 : ¬ u = X.b := fun e => h2 e.symm
    simp [h1, h2, h3, h4]

/-- One resistor's part: its voltage, and what it carries out of and into its ends. -/
theorem arC_two {n1 d1 n2 d2 : Int} (h1 : vrB n1 d1 = true) (h2 : vrB n2 d2 = true) : arC n1 d1 n2 d2 = 0 ∨ arC n1 d1 n2 d2 = 2 := by
  unfold arC
  rw [h1, h2]
  simp only [Bool.and_self, if_true]
  split
  · exact .inl rfl
  · exact .inr rfl
theorem add_rt {n1 n2 T : Int} (hT : 0 < T) (h : arC (redN n1 T) (redD n1 T) (redN n2 T) (redD n2 T) = 0) :
    whenN (arC (redN n1 T) (redD n1 T) (redN n2 T) (redD n2 T)) (redN n1 T * redD n2 T + redN n2 T * redD n1 T) (redD n1 T * redD n2 T) = redN (n1 + n2) T ∧
    whenD (arC (redN n1 T) (redD n1 T) (redN n2 T) (redD n2 T)) (redN n1 T * redD n2 T + redN n2 T * redD n1 T) (redD n1 T * redD n2 T) = redD (n1 + n2) T := by
  rw [h]
  obtain ⟨e1, e2⟩ := when_0 (redN n1 T * redD n2 T + redN n2 T * redD n1 T) (redD n1 T * redD n2 T)
  rw [e1, e2]
  exact red_add hT
theorem mul_rt {n T p q m : Int} (hT : 0 < T) (hq : 0 < q) (hm : n * p = m * q) (h : arC (redN n T) (redD n T) p q = 0) :
    whenN (arC (redN n T) (redD n T) p q) (redN n T * p) (redD n T * q) = redN m T ∧ whenD (arC (redN n T) (redD n T) p q) (redN n T * p) (redD n T * q) = redD m T := by
  rw [h]
  obtain ⟨e1, e2⟩ := when_0 (redN n T * p) (redD n T * q)
  rw [e1, e2]
  have c := red_cross n hT
  have pd := redD_pos n hT
  refine red_eq (Int.mul_pos pd hq) hT ?_
  generalize redN n T = x at *
  generalize redD n T = y at *
  have : x * T * p = m * q * y := by rw [c, ← hm]; grind
  grind
theorem opsK {n1 d1 n2 d2 : Int} (h : arC n1 d1 n2 d2 = 0) :
    (-1000000000000000000 ≤ n1 * d2 ∧ n1 * d2 ≤ 1000000000000000000) ∧ (-1000000000000000000 ≤ n2 * d1 ∧ n2 * d1 ≤ 1000000000000000000) ∧ (-1000000000000000000 ≤ n1 * n2 ∧ n1 * n2 ≤ 1000000000000000000) ∧
    (0 < d1 * d2 ∧ d1 * d2 ≤ 1000000000000000000) := by
  rcases Bool.eq_false_or_eq_true (vrB n1 d1) with a | a
  · rcases Bool.eq_false_or_eq_true (vrB n2 d2) with b | b
    · rcases Bool.eq_false_or_eq_true (fcB n1 d1) with c | c
      · rcases Bool.eq_false_or_eq_true (fcB n2 d2) with d | d
        · exact ops_bd a b c d
        · rw [arC_4 a b d] at h; cases h
      · rw [arC_3 a b c] at h; cases h
    · rw [arC_2 b] at h; cases h
  · rw [arC_1 n2 d2 a] at h; cases h
theorem when_add_bd {n1 d1 n2 d2 : Int} : (-2000000000000000000 ≤ whenN (arC n1 d1 n2 d2) (n1 * d2 + n2 * d1) (d1 * d2) ∧ whenN (arC n1 d1 n2 d2) (n1 * d2 + n2 * d1) (d1 * d2) ≤ 2000000000000000000) ∧ (0 ≤ whenD (arC n1 d1 n2 d2) (n1 * d2 + n2 * d1) (d1 * d2) ∧ whenD (arC n1 d1 n2 d2) (n1 * d2 + n2 * d1) (d1 * d2) ≤ 1000000000000000000) := by
  by_cases h : arC n1 d1 n2 d2 = 0
  · have o := opsK h
    rw [h]
    obtain ⟨e1, e2⟩ := when_0 (n1 * d2 + n2 * d1) (d1 * d2)
    rw [e1, e2]
    have := red_abs (n1 * d2 + n2 * d1) o.2.2.2.1 2000000000000000000 (by omega) (by omega)
    omega
  · unfold whenN whenD
    rw [if_neg h, if_neg h]; omega
theorem when_mul_bd {n1 d1 n2 d2 : Int} : (-2000000000000000000 ≤ whenN (arC n1 d1 n2 d2) (n1 * n2) (d1 * d2) ∧ whenN (arC n1 d1 n2 d2) (n1 * n2) (d1 * d2) ≤ 2000000000000000000) ∧ (0 ≤ whenD (arC n1 d1 n2 d2) (n1 * n2) (d1 * d2) ∧ whenD (arC n1 d1 n2 d2) (n1 * n2) (d1 * d2) ≤ 1000000000000000000) := by
  by_cases h : arC n1 d1 n2 d2 = 0
  · have o := opsK h
    rw [h]
    obtain ⟨e1, e2⟩ := when_0 (n1 * n2) (d1 * d2)
    rw [e1, e2]
    have := red_abs (n1 * n2) o.2.2.2.1 2000000000000000000 (by omega) (by omega)
    omega
  · unfold whenN whenD
    rw [if_neg h, if_neg h]; omega
/-- What one round of the law finds. -/
theorem kir_step {T K num den Sa Sb Q Fs Ft R1 DN DD R2 LN LD R3 ON OD R4 IN ID cN cD : Int} (hT : 0 < T) (hv : vrB num den = true) (hd : 0 < den) (hK : K = Q * den) (hS : Sa - Sb = num * Q)
    (ec1 : redN K T = cN) (ec2 : redD K T = cD) (e1 : arC cN cD num den = R1) (e2 : whenN R1 (cN * num) (cD * den) = DN) (e3 : whenD R1 (cN * num) (cD * den) = DD)
    (e4 : arC (redN Sb T) (redD Sb T) DN DD = R2) (e5 : whenN R2 (redN Sb T * DD + DN * redD Sb T) (redD Sb T * DD) = LN) (e6 : whenD R2 (redN Sb T * DD + DN * redD Sb T) (redD Sb T * DD) = LD)
    (e7 : arC (redN Fs T) (redD Fs T) (-cN) cD = R3) (e8 : whenN R3 (redN Fs T * cD + -cN * redD Fs T) (redD Fs T * cD) = ON) (e9 : whenD R3 (redN Fs T * cD + -cN * redD Fs T) (redD Fs T * cD) = OD)
    (e10 : arC (redN Ft T) (redD Ft T) cN cD = R4) (e11 : whenN R4 (redN Ft T * cD + cN * redD Ft T) (redD Ft T * cD) = IN) (e12 : whenD R4 (redN Ft T * cD + cN * redD Ft T) (redD Ft T * cD) = ID) :
    (R1 = 2 ∨ (R1 = 0 ∧ (R2 = 2 ∨ (R2 = 0 ∧ LN = redN Sa T ∧ LD = redD Sa T)))) ∧ (R3 = 2 ∨ (R3 = 0 ∧ ON = redN (Fs - K) T ∧ OD = redD (Fs - K) T)) ∧ (R4 = 2 ∨ (R4 = 0 ∧ IN = redN (Ft + K) T ∧ ID = redD (Ft + K) T)) := by
  subst ec1 ec2
  obtain ⟨n1, n2⟩ := red_neg K hT
  rw [← n1, ← n2] at e7 e8 e9
  refine ⟨?_, ?_, ?_⟩
  · rcases arC_two (vr_red K hT) hv with h | h
    · right
      have hm := mul_rt (n := K) (T := T) (p := num) (q := den) (m := Q * num) hT hd (by rw [hK]; grind) h
      rw [e1] at h hm
      rw [e2, e3] at hm
      refine ⟨h, ?_⟩
      rw [hm.1, hm.2] at e4 e5 e6
      rcases arC_two (vr_red Sb hT) (vr_red (Q * num) hT) with q | q
      · right
        have ha := add_rt (n1 := Sb) (n2 := Q * num) hT q
        rw [e4] at q ha
        rw [e5, e6, show Sb + Q * num = Sa by grind] at ha
        exact ⟨q, ha⟩
      · left; rw [← e4]; exact q
    · left; rw [← e1]; exact h
  · rcases arC_two (vr_red Fs hT) (vr_red (-K) hT) with q | q
    · right
      have ha := add_rt (n1 := Fs) (n2 := -K) hT q
      rw [e7] at q ha
      rw [e8, e9, show Fs + -K = Fs - K by omega] at ha
      exact ⟨q, ha⟩
    · left; rw [← e7]; exact q
  · rcases arC_two (vr_red Ft hT) (vr_red K hT) with q | q
    · right
      have ha := add_rt (n1 := Ft) (n2 := K) hT q
      rw [e10] at q ha
      rw [e11, e12] at ha
      exact ⟨q, ha⟩
    · left; rw [← e10]; exact q
end Go.Proofs.Ytjolkdckhmmenaa
