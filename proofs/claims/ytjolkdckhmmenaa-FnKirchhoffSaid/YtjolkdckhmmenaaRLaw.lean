/- The plain law of ratios: sums and products of small valid ratios are valid, commute, and the product distributes over the sum. -/
import Derived.Test.YtjolkdckhmmenaaRMath
namespace Go.Proofs.Ytjolkdckhmmenaa

theorem pos_of_mul {g k : Int} (hg : 0 < g) (h : 0 < k * g) : 0 < k := by
  rcases Int.lt_or_le 0 k with h' | h'
  · exact h'
  · have := Int.mul_nonneg (show 0 ≤ -k by omega) (show 0 ≤ g by omega)
    have e : -k * g = -(k * g) := Int.neg_mul k g
    omega

theorem red_exact (n : Int) {d : Int} (h : 0 < d) : redN n d * (Int.gcd n d : Nat) = n ∧ redD n d * (Int.gcd n d : Nat) = d ∧ (0 : Int) < (Int.gcd n d : Nat) := by
  rw [redN_ge n (by omega), redD_ge n (by omega)]
  have g1 := gcd_pos_of n d (by omega)
  exact ⟨Int.tdiv_mul_cancel (Int.gcd_dvd_left n d), Int.tdiv_mul_cancel (Int.gcd_dvd_right n d), by omega⟩
theorem redD_pos (n : Int) {d : Int} (h : 0 < d) : 0 < redD n d := by
  obtain ⟨_, h2, h3⟩ := red_exact n h
  exact pos_of_mul h3 (by omega)
theorem red_cross (n : Int) {d : Int} (h : 0 < d) : redN n d * d = n * redD n d := by
  obtain ⟨h1, h2, _⟩ := red_exact n h
  generalize redN n d = N at *
  generalize redD n d = D at *
  generalize ((Int.gcd n d : Nat) : Int) = g at *
  grind
theorem red_gcd (n : Int) {d : Int} (h : 0 < d) : Int.gcd (redN n d) (redD n d) = 1 := by
  obtain ⟨h1, h2, h3⟩ := red_exact n h
  have e : Int.gcd (redN n d * (Int.gcd n d : Nat)) (redD n d * (Int.gcd n d : Nat)) = Int.gcd n d := by rw [h1, h2]
  rw [Int.gcd_mul_right] at e
  have hg : 0 < Int.gcd n d := by omega
  have e2 : Int.gcd (redN n d) (redD n d) * Int.gcd n d = 1 * Int.gcd n d := by simpa using e
  exact Nat.eq_of_mul_eq_mul_right hg e2
theorem red_bd (n : Int) {d : Int} (h : 0 < d) : (redN n d).natAbs ≤ n.natAbs ∧ redD n d ≤ d := by
  obtain ⟨h1, h2, h3⟩ := red_exact n h
  have hD := redD_pos n h
  constructor
  · have e : (redN n d * (Int.gcd n d : Nat)).natAbs = n.natAbs := by rw [h1]
    rw [Int.natAbs_mul] at e
    rw [← e]
    exact Nat.le_mul_of_pos_right _ (by omega)
  · have := Int.mul_le_mul_of_nonneg_left (show (1 : Int) ≤ (Int.gcd n d : Nat) by omega) (show 0 ≤ redD n d by omega)
    omega
theorem vr_red (n : Int) {d : Int} (h : 0 < d) : vrB (redN n d) (redD n d) = true := by
  rw [vrB_of _ (redD_pos n h), red_gcd n h]; rfl
theorem red_mul (n : Int) {d g : Int} (h : 0 < d) (hg : 0 < g) : redN (n * g) (d * g) = redN n d ∧ redD (n * g) (d * g) = redD n d := by
  have hdg : 0 < d * g := Int.mul_pos h hg
  have e : Int.gcd (n * g) (d * g) = Int.gcd n d * g.natAbs := by rw [Int.gcd_mul_right]
  have e' : ((Int.gcd (n * g) (d * g) : Nat) : Int) = (Int.gcd n d : Nat) * g := by rw [e, Int.natCast_mul, Int.natAbs_of_nonneg (by omega)]
  obtain ⟨h1, h2, h3⟩ := red_exact n h
  obtain ⟨k1, k2, k3⟩ := red_exact (n * g) hdg
  rw [e'] at k1 k2 k3
  have hne : ((Int.gcd n d : Nat) : Int) * g ≠ 0 := by omega
  refine ⟨Int.eq_of_mul_eq_mul_right hne ?_, Int.eq_of_mul_eq_mul_right hne ?_⟩
  · rw [k1, ← Int.mul_assoc, h1]
  · rw [k2, ← Int.mul_assoc, h2]
theorem red_eq {N1 D1 N2 D2 : Int} (h1 : 0 < D1) (h2 : 0 < D2) (h : N1 * D2 = N2 * D1) : redN N1 D1 = redN N2 D2 ∧ redD N1 D1 = redD N2 D2 := by
  have a := red_mul N1 h1 h2
  have b := red_mul N2 h2 h1
  rw [h, Int.mul_comm D1 D2] at a
  exact ⟨a.1.symm.trans b.1, a.2.symm.trans b.2⟩

theorem distrib {an ad bn bd cn cd abN abD pN pD qN qD : Int} (ha : 0 < ad) (hb : 0 < bd) (hc : 0 < cd) (h1 : abN * (ad * bd) = (an * bd + bn * ad) * abD) (h2 : pN * (cd * ad) = cn * an * pD) (h3 : qN * (bd * cd) = bn * cn * qD) :
    (cn * abN) * (pD * qD) = (pN * qD + qN * pD) * (cd * abD) := by
  have e : ((cn * abN) * (pD * qD) - (pN * qD + qN * pD) * (cd * abD)) * (ad * bd * cd) = 0 := by grind
  have hne : ad * bd * cd ≠ 0 := by have := Int.mul_pos (Int.mul_pos ha hb) hc; omega
  rcases Int.mul_eq_zero.1 e with h | h
  · omega
  · exact absurd h hne

/-- A ratio whose parts are at most so great. -/
theorem fc_of {n d : Int} (h : n.natAbs ≤ 1000000000) (h' : d ≤ 1000000000) : fcB n d = true := by
  simp only [fcB, Bool.and_eq_true, decide_eq_true_eq, inB_iff]; omega

/-- The whole law, at three reduced ratios with small parts. -/
theorem ratios_law {an ad bn bd cn cd : Int} (va : vrB an ad = true) (vb : vrB bn bd = true) (vc : vrB cn cd = true) (ha : an.natAbs ≤ 99 ∧ ad ≤ 30) (hb : bn.natAbs ≤ 99 ∧ bd ≤ 30) (hc : cn.natAbs ≤ 20 ∧ cd ≤ 7) :
    ∃ abN abD pN pD qN qD xN xD : Int, redN (an * bd + bn * ad) (ad * bd) = abN ∧ redD (an * bd + bn * ad) (ad * bd) = abD ∧ redN (bn * ad + an * bd) (bd * ad) = abN ∧ redD (bn * ad + an * bd) (bd * ad) = abD ∧ 0 < abD ∧
      redN (cn * abN) (cd * abD) = xN ∧ redD (cn * abN) (cd * abD) = xD ∧ redN (cn * an) (cd * ad) = pN ∧ redD (cn * an) (cd * ad) = pD ∧ redN (bn * cn) (bd * cd) = qN ∧ redD (bn * cn) (bd * cd) = qD ∧
      redN (pN * qD + qN * pD) (pD * qD) = xN ∧ redD (pN * qD + qN * pD) (pD * qD) = xD ∧
      arC an ad bn bd = 0 ∧ arC bn bd an ad = 0 ∧ arC cn cd abN abD = 0 ∧ arC cn cd an ad = 0 ∧ arC bn bd cn cd = 0 ∧ arC pN pD qN qD = 0 := by
  have pa := vrB_pos va
  have pb := vrB_pos vb
  have pc := vrB_pos vc
  have fa : fcB an ad = true := fc_of (by omega) (by omega)
  have fb : fcB bn bd = true := fc_of (by omega) (by omega)
  have fc : fcB cn cd = true := fc_of (by omega) (by omega)
  have dab := Int.mul_pos pa pb
  have dca := Int.mul_pos pc pa
  have dbc := Int.mul_pos pb pc
  have m1 := mul_bd (a := an) (b := bd) 99 30 (by omega) (by omega) (by omega) (by omega)
  have m2 := mul_bd (a := bn) (b := ad) 99 30 (by omega) (by omega) (by omega) (by omega)
  have m3 := mul_bd (a := ad) (b := bd) 30 30 (by omega) (by omega) (by omega) (by omega)
  have m4 := mul_bd (a := cn) (b := an) 20 99 (by omega) (by omega) (by omega) (by omega)
  have m5 := mul_bd (a := cd) (b := ad) 7 30 (by omega) (by omega) (by omega) (by omega)
  have m6 := mul_bd (a := bn) (b := cn) 99 20 (by omega) (by omega) (by omega) (by omega)
  have m7 := mul_bd (a := bd) (b := cd) 30 7 (by omega) (by omega) (by omega) (by omega)
  have b1 := red_bd (an * bd + bn * ad) dab
  have b2 := red_bd (cn * an) dca
  have b3 := red_bd (bn * cn) dbc
  have d1 := redD_pos (an * bd + bn * ad) dab
  have d2 := redD_pos (cn * an) dca
  have d3 := redD_pos (bn * cn) dbc
  have v1 := vr_red (an * bd + bn * ad) dab
  have v2 := vr_red (cn * an) dca
  have v3 := vr_red (bn * cn) dbc
  have c1 := red_cross (an * bd + bn * ad) dab
  have c2 := red_cross (cn * an) dca
  have c3 := red_cross (bn * cn) dbc
  have hsym : bn * ad + an * bd = an * bd + bn * ad := Int.add_comm _ _
  have hden : bd * ad = ad * bd := Int.mul_comm _ _
  refine ⟨_, _, _, _, _, _, _, _, rfl, rfl, by rw [hsym, hden], by rw [hsym, hden], d1, rfl, rfl, rfl, rfl, rfl, rfl, ?_, ?_, arC_5 va vb fa fb, arC_5 vb va fb fa, ?_, arC_5 vc va fc fa, arC_5 vb vc fb fc, ?_⟩
  · exact (red_eq (Int.mul_pos pc d1) (Int.mul_pos d2 d3) (distrib pa pb pc c1 c2 c3)).1.symm
  · exact (red_eq (Int.mul_pos pc d1) (Int.mul_pos d2 d3) (distrib pa pb pc c1 c2 c3)).2.symm
  · exact arC_5 vc v1 fc (fc_of (by omega) (by omega))
  · exact arC_5 v2 v3 (fc_of (by omega) (by omega)) (fc_of (by omega) (by omega))

theorem vals_of_arC {n1 d1 n2 d2 : Int} (h : arC n1 d1 n2 d2 = 0) :
    (-9223372036854775808 ≤ n1 ∧ n1 ≤ 9223372036854775807) ∧ (-9223372036854775808 ≤ d1 ∧ d1 ≤ 9223372036854775807) ∧ (-9223372036854775808 ≤ n2 ∧ n2 ≤ 9223372036854775807) ∧ (-9223372036854775808 ≤ d2 ∧ d2 ≤ 9223372036854775807) := by
  rcases Bool.eq_false_or_eq_true (vrB n1 d1) with a | a
  · rcases Bool.eq_false_or_eq_true (vrB n2 d2) with b | b
    · rcases Bool.eq_false_or_eq_true (fcB n1 d1) with c | c
      · rcases Bool.eq_false_or_eq_true (fcB n2 d2) with d | d
        · have a1 := vrB_pos a
          have a2 := vrB_pos b
          have a3 := fcB_bd c
          have a4 := fcB_bd d
          omega
        · rw [arC_4 a b d] at h; cases h
      · rw [arC_3 a b c] at h; cases h
    · rw [arC_2 b] at h; cases h
  · rw [arC_1 n2 d2 a] at h; cases h
theorem redN_neg (n : Int) {d : Int} (h : 0 < d) : redN n (-d) = redN (-n) d := by
  rw [redN_lt n (by omega), redN_ge (-n) (by omega), Int.gcd_neg, Int.neg_gcd, Int.neg_tdiv]
theorem redD_neg (n : Int) {d : Int} (h : 0 < d) : redD n (-d) = redD (-n) d := by
  rw [redD_lt n (by omega), redD_ge (-n) (by omega), Int.gcd_neg, Int.neg_gcd, Int.neg_tdiv, Int.neg_neg]

/-- The law at what the dice has drawn. -/
theorem drawn_law {v1 v2 v3 v4 v5 an ad bn bd cn cd : Int} (p1 : 0 ≤ v1) (q1 : v1 < 199) (p2 : 0 ≤ v2) (q2 : v2 < 30) (p3 : 0 ≤ v3) (q3 : v3 < 199) (p4 : 0 ≤ v4) (q4 : v4 < 30) (p5 : 0 ≤ v5) (q5 : v5 < 41)
    (hA1 : redN (v1 - 99) (1 + v2) = an) (hA2 : redD (v1 - 99) (1 + v2) = ad) (hB1 : redN (v3 - 99) (-(1 + v4)) = bn) (hB2 : redD (v3 - 99) (-(1 + v4)) = bd) (hC1 : redN (v5 - 20) 7 = cn) (hC2 : redD (v5 - 20) 7 = cd) :
    ∃ abN abD pN pD qN qD xN xD : Int, redN (an * bd + bn * ad) (ad * bd) = abN ∧ redD (an * bd + bn * ad) (ad * bd) = abD ∧ redN (bn * ad + an * bd) (bd * ad) = abN ∧ redD (bn * ad + an * bd) (bd * ad) = abD ∧ 0 < abD ∧
      redN (cn * abN) (cd * abD) = xN ∧ redD (cn * abN) (cd * abD) = xD ∧ redN (cn * an) (cd * ad) = pN ∧ redD (cn * an) (cd * ad) = pD ∧ redN (bn * cn) (bd * cd) = qN ∧ redD (bn * cn) (bd * cd) = qD ∧
      redN (pN * qD + qN * pD) (pD * qD) = xN ∧ redD (pN * qD + qN * pD) (pD * qD) = xD ∧
      arC an ad bn bd = 0 ∧ arC bn bd an ad = 0 ∧ arC cn cd abN abD = 0 ∧ arC cn cd an ad = 0 ∧ arC bn bd cn cd = 0 ∧ arC pN pD qN qD = 0 := by
  rw [redN_neg _ (by omega)] at hB1
  rw [redD_neg _ (by omega)] at hB2
  subst hA1 hA2 hB1 hB2 hC1 hC2
  have b1 := red_bd (v1 - 99) (d := 1 + v2) (by omega)
  have b2 := red_bd (-(v3 - 99)) (d := 1 + v4) (by omega)
  have b3 := red_bd (v5 - 20) (d := 7) (by omega)
  exact ratios_law (vr_red _ (by omega)) (vr_red _ (by omega)) (vr_red _ (by omega)) (by omega) (by omega) (by omega)
end Go.Proofs.Ytjolkdckhmmenaa
