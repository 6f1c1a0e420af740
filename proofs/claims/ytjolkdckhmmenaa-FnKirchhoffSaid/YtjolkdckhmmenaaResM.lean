/- What the laws over networks say of the resistances: plain. -/
import Derived.Test.YtjolkdckhmmenaaCheckM
import Derived.Test.YtjolkdckhmmenaaRLaw
namespace Go.Proofs.Ytjolkdckhmmenaa
open Go.RowKit
set_option linter.unusedVariables false
set_option linter.unusedSimpArgs false

theorem red_nn {n d : Int} (hn : 0 ≤ n) (h : 0 < d) : 0 ≤ redN n d := by
  have c := red_cross n h
  have p := redD_pos n h
  rcases Int.lt_or_le (redN n d) 0 with q | q
  · have h1 : redN n d * d < 0 := Int.mul_neg_of_neg_of_pos q h
    have h2 : 0 ≤ n * redD n d := Int.mul_nonneg hn (by omega)
    omega
  · exact q
theorem red_zero {n d : Int} (h : 0 < d) : redN n d = 0 ↔ n = 0 := by
  have c := red_cross n h
  have p := redD_pos n h
  constructor
  · intro e
    rw [e, Int.zero_mul] at c
    rcases Int.mul_eq_zero.1 c.symm with q | q <;> omega
  · intro e
    rw [e, Int.zero_mul] at c
    rw [e]
    rcases Int.mul_eq_zero.1 c with q | q <;> omega
theorem red_le {N1 D1 N2 D2 : Int} (h1 : 0 < D1) (h2 : 0 < D2) (h : N1 * D2 ≤ N2 * D1) : redN N1 D1 * redD N2 D2 ≤ redN N2 D2 * redD N1 D1 := by
  have c1 := red_cross N1 h1
  have c2 := red_cross N2 h2
  have p1 := redD_pos N1 h1
  have p2 := redD_pos N2 h2
  generalize redN N1 D1 = a at *
  generalize redN N2 D2 = c at *
  generalize redD N1 D1 = b at *
  generalize redD N2 D2 = e at *
  refine Int.le_of_mul_le_mul_right (a := D1 * D2) ?_ (Int.mul_pos h1 h2)
  have l : a * e * (D1 * D2) = N1 * D2 * (b * e) := by grind
  have r : c * b * (D1 * D2) = N2 * D1 * (b * e) := by grind
  rw [l, r]
  exact Int.mul_le_mul_of_nonneg_right h (Int.mul_nonneg (by omega) (by omega))
theorem red_add {n1 n2 T : Int} (hT : 0 < T) : redN (redN n1 T * redD n2 T + redN n2 T * redD n1 T) (redD n1 T * redD n2 T) = redN (n1 + n2) T ∧ redD (redN n1 T * redD n2 T + redN n2 T * redD n1 T) (redD n1 T * redD n2 T) = redD (n1 + n2) T := by
  have c1 := red_cross n1 hT
  have c2 := red_cross n2 hT
  have p1 := redD_pos n1 hT
  have p2 := redD_pos n2 hT
  refine red_eq (Int.mul_pos p1 p2) hT ?_
  generalize redN n1 T = a at *
  generalize redN n2 T = c at *
  generalize redD n1 T = b at *
  generalize redD n2 T = e at *
  grind
theorem red_abs (n : Int) {d : Int} (h : 0 < d) (M : Int) (h1 : -M ≤ n) (h2 : n ≤ M) : -M ≤ redN n d ∧ redN n d ≤ M ∧ 0 < redD n d ∧ redD n d ≤ d := by
  have b := red_bd n h
  have p := redD_pos n h
  omega

theorem nkC_symm (x : Nw) (a b : Int) : nkC x b a = nkC x a b := by
  unfold nkC
  by_cases h : nwB x.nodes x.rs = true
  · rw [if_pos h, if_pos h]
    by_cases h1 : inB a 0 (x.nodes - 1) = true ∧ inB b 0 (x.nodes - 1) = true
    · rw [if_pos h1, if_pos ⟨h1.2, h1.1⟩]
      by_cases h2 : allL x.rs a.toNat = allL x.rs b.toNat
      · rw [if_pos h2, if_pos h2.symm]
      · rw [if_neg h2, if_neg (fun e => h2 e.symm)]
    · rw [if_neg h1, if_neg (fun e => h1 ⟨e.2, e.1⟩)]
  · rw [if_neg h, if_neg h]
theorem er_eq {x : Nw} {a b : Int} (h : nkC x a b = 0) : erS x a b = rtOf (nkX h).N (nkX h).T := by
  unfold erS
  rw [if_pos h]
  rfl
theorem er_no {x : Nw} {a b : Int} (h : ¬ nkC x a b = 0) : erS x a b = ⟨0, 0⟩ := by unfold erS; rw [if_neg h]
theorem er_symm (x : Nw) (a b : Int) : erS x b a = erS x a b := by
  by_cases h : nkC x a b = 0
  · have h' : nkC x b a = 0 := by rw [nkC_symm]; exact h
    rw [er_eq h, er_eq h']
    have e1 : (nkX h').N = (nkX h).N := (nkX h).flip_N
    have e2 : (nkX h').T = (nkX h).T := (nkX h).flip_T
    rw [e1, e2]
  · rw [er_no h, er_no (by rw [nkC_symm]; exact h)]
theorem er_yes {x : Nw} {a b : Int} (h : nkC x a b = 0) : ((erS x a b).n = 0 ↔ a = b) ∧ 0 ≤ (erS x a b).n ∧ 1 ≤ (erS x a b).d ∧ (erS x a b).n ≤ 2560000000000000000 ∧ (erS x a b).d ≤ 2560000000000000000 := by
  obtain ⟨y1, y2, y3, y4⟩ := nk_yes h
  rw [er_eq h]
  have tp := (nkX h).T_pos
  have tl := (nkX h).T_le
  have sb : 0 ≤ (nkX h).N ∧ (nkX h).N ≤ 2560000000000000000 := (nkX h).S_bd _
  have hz := red_zero (n := (nkX h).N) tp
  have hn := red_nn sb.1 tp
  obtain ⟨b1, b2, b3, b4⟩ := red_abs (nkX h).N tp 2560000000000000000 (by omega) sb.2
  have hab : (nkX h).N = 0 ↔ a = b := by
    constructor
    · intro e
      rcases Classical.em (a = b) with q | q
      · exact q
      · have := (nkX h).N_pos (show ¬ a.toNat = b.toNat by omega)
        omega
    · intro e
      exact (nkX h).N_zero (show a.toNat = b.toNat by rw [e])
  refine ⟨?_, hn, by show 1 ≤ redD _ _; omega, b2, by show redD _ _ ≤ _; omega⟩
  show redN _ _ = 0 ↔ _
  rw [hz, hab]
theorem tri_C {x : Nw} {a b c : Int} (h : nkC x a b = 0) (hc : 0 ≤ c) (hc' : c < x.nodes) : nkC x a c = nkC x c b ∧ (nkC x a c = 0 ∨ nkC x a c = 5) := by
  obtain ⟨y1, y2, y3, y4⟩ := nk_yes h
  have ia : inB a 0 (x.nodes - 1) = true := inB_iff.2 (by omega)
  have ib : inB b 0 (x.nodes - 1) = true := inB_iff.2 (by omega)
  have ic : inB c 0 (x.nodes - 1) = true := inB_iff.2 (by omega)
  by_cases hq : allL x.rs a.toNat = allL x.rs c.toNat
  · have e1 := nkC_0 y1 ia ic hq
    have e2 := nkC_0 y1 ic ib (hq.symm.trans y4)
    exact ⟨e1.trans e2.symm, .inl e1⟩
  · have e1 := nkC_5 y1 ia ic hq
    have e2 := nkC_5 y1 ic ib (fun e => hq (y4.trans e.symm))
    exact ⟨e1.trans e2.symm, .inr e1⟩
theorem tri_le {x : Nw} {a b c : Int} (h : nkC x a b = 0) (h1 : nkC x a c = 0) (h2 : nkC x c b = 0) (har : arC (erS x a c).n (erS x a c).d (erS x c b).n (erS x c b).d = 0) :
    let s := (erS x a c).n * (erS x c b).d + (erS x c b).n * (erS x a c).d
    let t := (erS x a c).d * (erS x c b).d
    (erS x a b).n * redD s t ≤ redN s t * (erS x a b).d ∧ 0 ≤ redN s t ∧ 1 ≤ redD s t := by
  obtain ⟨y1, y2, y3, y4⟩ := nk_yes h
  obtain ⟨z1, z2, z3, z4⟩ := nk_yes h1
  have tp := (nkX h).T_pos
  have e1 : (nkX h1).T = (nkX h).T := ((nkX h).tri_T c.toNat (by show c.toNat < x.nodes.toNat; omega) z4).1
  have e2 : (nkX h2).T = (nkX h).T := ((nkX h).tri_T c.toNat (by show c.toNat < x.nodes.toNat; omega) z4).2
  have ht : (nkX h).N ≤ (nkX h1).N + (nkX h2).N := (nkX h).N_tri c.toNat (by show c.toNat < x.nodes.toNat; omega) z4
  have s1 : 0 ≤ (nkX h1).N := ((nkX h1).S_bd _).1
  have s2 : 0 ≤ (nkX h2).N := ((nkX h2).S_bd _).1
  rw [er_eq h, er_eq h1, er_eq h2, e1, e2]
  generalize (nkX h).T = T at *
  generalize (nkX h1).N = N1 at *
  generalize (nkX h2).N = N2 at *
  generalize (nkX h).N = N at *
  obtain ⟨r1, r2⟩ := red_add (n1 := N1) (n2 := N2) tp
  dsimp only [rtOf]
  rw [r1, r2]
  refine ⟨red_le tp tp (Int.mul_le_mul_of_nonneg_right ht (by omega)), red_nn (by omega) tp, ?_⟩
  have := redD_pos (N1 + N2) tp
  omega

/-- Another resistor. -/
theorem allL_more (rs : List Res) (x : Res) {u v : Nat} (h : allL rs u = allL rs v) : allL (rs ++ [x]) u = allL (rs ++ [x]) v :=
  selF_min (E := edg rs) (on := fun _ => true) (m := rs.length) (allL (rs ++ [x])) (fun i hi _ => by
    have e : rs[i]? = some rs[i] := List.getElem?_eq_getElem hi
    rw [edg_at e]
    exact all_edge (List.mem_append_left _ (List.getElem_mem hi))) u v h
theorem more_law {x : Nw} {a b : Int} (h : nkC x a b = 0) (r : Res) (hv : nwB x.nodes (x.rs ++ [r]) = true) :
    nkC ⟨x.nodes, x.rs ++ [r]⟩ a b = 0 ∧ (erS ⟨x.nodes, x.rs ++ [r]⟩ a b).n * (erS x a b).d ≤ (erS x a b).n * (erS ⟨x.nodes, x.rs ++ [r]⟩ a b).d := by
  obtain ⟨y1, y2, y3, y4⟩ := nk_yes h
  have h' : nkC ⟨x.nodes, x.rs ++ [r]⟩ a b = 0 := nkC_0 hv (inB_iff.2 (by dsimp only; omega)) (inB_iff.2 (by dsimp only; omega)) (allL_more x.rs r y4)
  refine ⟨h', ?_⟩
  rw [er_eq h, er_eq h']
  exact red_le (nkX h').T_pos (nkX h).T_pos (more_less (nkX h) (nkX h') r rfl rfl rfl)
end Go.Proofs.Ytjolkdckhmmenaa
