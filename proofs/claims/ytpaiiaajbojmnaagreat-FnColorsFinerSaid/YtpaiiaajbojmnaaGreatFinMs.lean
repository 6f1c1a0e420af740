/- A refinement step is finer, and what the refinement ends at is stable: plain. -/
import Derived.Test.YtpaiiaajbojmnaaGreatInvMs
import Derived.Test.YtpaiiaajbojmnaaGreatStab
import Derived.Test.YtpaiiaajbojmnaaGreatClss
namespace Go.Proofs.YtpaiiaajbojmnaaGreat
open Go.RowKit
set_option linter.unusedVariables false
set_option linter.unusedSimpArgs false

theorem rank_lt {ls : List (List Int)} {a b : List Int} (ha : a ∈ ls) (h : lcmp a b < 0) : rankOf ls a < rankOf ls b := by
  rw [rankOf_fsts, rankOf_fsts]
  have hp := List.perm_cons_erase (mem_fsts.2 ha)
  rw [hp.countP_eq, hp.countP_eq, List.countP_cons, List.countP_cons]
  have h1 : decide (lcmp a a < 0) = false := by simp [lcmp_self]
  have h2 : decide (lcmp a b < 0) = true := by simpa using h
  have := List.countP_mono_left (l := (fsts ls).erase a) (p := fun y => decide (lcmp y a < 0)) (q := fun y => decide (lcmp y b < 0)) (fun y _ hy => by
    simp only [decide_eq_true_eq] at hy ⊢
    exact lcmp_trans y a b hy h)
  rw [h1, h2]
  simp only [Bool.false_eq_true, if_false, if_true]
  omega
theorem rank_same {ls : List (List Int)} {a b : List Int} (ha : a ∈ ls) (hb : b ∈ ls) (h : rankOf ls a = rankOf ls b) : a = b := by
  by_cases e : lcmp a b = 0
  · exact (lcmp_zero a b).1 e
  · exfalso
    by_cases q : lcmp a b < 0
    · have := rank_lt ha q; omega
    · have f := lcmp_flip a b
      have := rank_lt hb (show lcmp b a < 0 by omega); omega
theorem rank_less {ls : List (List Int)} {a b : List Int} (ha : a ∈ ls) (hb : b ∈ ls) (h : rankOf ls a < rankOf ls b) : lcmp a b < 0 := by
  by_cases q : lcmp a b < 0
  · exact q
  · exfalso
    by_cases e : lcmp a b = 0
    · have := (lcmp_zero a b).1 e
      subst this; omega
    · have f := lcmp_flip a b
      have := rank_lt hb (show lcmp b a < 0 by omega); omega
theorem head_le {a b : Int} {r s : List Int} (h : lcmp (a :: r) (b :: s) < 0) : a ≤ b := by
  rw [lcmp_cc] at h
  rcases sgn_cases a b with ⟨q, e⟩ | ⟨q, e⟩ | ⟨q, e⟩
  · omega
  · omega
  · rw [e] at h; simp at h
theorem rank_head {n : Nat} {f : Nat → List Int} {c : List Int} (hf : ∀ i, i < n → ∃ r, f i = nmOf c (i : Int) :: r) (i k : Nat) (hi : i < n) (hk : k < n) :
    (nmOf (rankS ((List.range n).map f)) (i : Int) = nmOf (rankS ((List.range n).map f)) (k : Int) → nmOf c (i : Int) = nmOf c (k : Int)) ∧
    (nmOf (rankS ((List.range n).map f)) (i : Int) < nmOf (rankS ((List.range n).map f)) (k : Int) → nmOf c (i : Int) ≤ nmOf c (k : Int)) := by
  have mi : f i ∈ (List.range n).map f := List.mem_map.2 ⟨i, List.mem_range.2 hi, rfl⟩
  have mk : f k ∈ (List.range n).map f := List.mem_map.2 ⟨k, List.mem_range.2 hk, rfl⟩
  have e : ∀ j, j < n → nmOf (rankS ((List.range n).map f)) (j : Int) = ((rankOf ((List.range n).map f) (f j) : Nat) : Int) := fun j hj => by
    generalize hls : (List.range n).map f = ls
    unfold rankS
    conv => lhs; rw [← hls]
    rw [List.map_map, nm_range hj]
    rw [hls]; rfl
  rw [e i hi, e k hk]
  obtain ⟨r, hr⟩ := hf i hi
  obtain ⟨s, hs⟩ := hf k hk
  constructor
  · intro h
    have := rank_same mi mk (by omega)
    rw [hr, hs] at this
    injection this
  · intro h
    have := rank_less mi mk (by omega)
    rw [hr, hs] at this
    exact head_le this
theorem fin_nets (x : Nl) (c : List Int × List Int) (i k : Nat) (hi : i < c.1.length) (hk : k < c.1.length) :
    (nmOf (refS x c).1 (i : Int) = nmOf (refS x c).1 (k : Int) → nmOf c.1 (i : Int) = nmOf c.1 (k : Int)) ∧ (nmOf (refS x c).1 (i : Int) < nmOf (refS x c).1 (k : Int) → nmOf c.1 (i : Int) ≤ nmOf c.1 (k : Int)) :=
  rank_head (n := c.1.length) (c := c.1) (f := fun j => netL' x c (j : Int)) (fun j _ => ⟨_, rfl⟩) i k hi hk
theorem fin_devs (x : Nl) (c : List Int × List Int) (i k : Nat) (hi : i < x.ds.length) (hk : k < x.ds.length) (h : nmOf (refS x c).2 (i : Int) = nmOf (refS x c).2 (k : Int)) : nmOf c.2 (i : Int) = nmOf c.2 (k : Int) :=
  (rank_head (n := x.ds.length) (c := c.2) (f := fun j => dsgL (dAt x.ds j) (nmOf c.2 (j : Int)) c.1) (fun j _ => by
    unfold dsgL
    split
    · exact ⟨_, rfl⟩
    · exact ⟨_, rfl⟩) i k hi hk).1 h
theorem refN_stops {x : Nl} : ∀ (f : Nat) (c : List Int × List Int) (s : Int), coB x c = true → 48 - cntC c < (f : Int) → cntC (refS x (refN x f c s).1) ≤ cntC (refN x f c s).1
  | 0, c, s, h, hf => by
    have := coB_cnt h
    omega
  | f + 1, c, s, h, hf => by
    by_cases e : cntC (refS x c) ≤ cntC c
    · rw [refN_stop e]; exact e
    · rw [refN_go e]
      exact refN_stops f _ _ (coB_ref h) (by omega)
theorem ref_stable {x : Nl} (hx : nlB x = true) : stB x (refNet x).1 = true := by
  unfold refNet stB
  rw [if_pos hx]
  have hc := coB_ini hx
  have := coB_cnt hc
  rw [coB_refN 64 (iniS x) 0 hc, decide_eq_true (refN_stops 64 (iniS x) 0 hc (by omega))]
  rfl
/-- The lengths of the classes add up. -/
theorem sum_count : ∀ (zs D : List Int), D.Nodup → (∀ z ∈ zs, z ∈ D) → (D.map fun x => zs.count x).sum = zs.length
  | [], D, _, _ => by
    have z : ∀ D : List Int, (D.map fun x => ([] : List Int).count x).sum = 0 := by
      intro D
      induction D with
      | nil => rfl
      | cons d D ih => rw [List.map_cons, List.sum_cons, ih, List.count_nil]
    exact z D
  | z :: zs, D, hn, h => by
    have ih := sum_count zs D hn (fun y hy => h y (by simp [hy]))
    have one : ∀ D : List Int, D.Nodup → (D.map fun x => (z :: zs).count x).sum = (D.map fun x => zs.count x).sum + (if z ∈ D then 1 else 0) := by
      intro D hn
      induction D with
      | nil => simp
      | cons d D ih2 =>
        rw [List.nodup_cons] at hn
        have q := ih2 hn.2
        simp only [List.map_cons, List.sum_cons, q]
        by_cases e : z = d
        · subst e
          rw [if_neg hn.1, if_pos (by simp), List.count_cons_self]; omega
        · rw [List.count_cons_of_ne e]
          by_cases m : z ∈ D
          · rw [if_pos m, if_pos (by simp [m])]; omega
          · rw [if_neg m, if_neg (by simp [m, e])]; omega
    rw [one D hn, ih, if_pos (h z (by simp))]
    simp
theorem clsTo_cnt (zs : List Int) (x : Int) : (clsTo zs x zs.length).length = zs.count x := by
  unfold clsTo
  rw [List.length_map, ← List.countP_eq_length_filter]
  have h : ∀ k, k ≤ zs.length → (List.range k).countP (fun i : Nat => match zs[i]? with | some z => decide (z = x) | none => false) = (zs.take k).count x := by
    intro k hk
    induction k with
    | zero => simp
    | succ k ih =>
      have e : zs[k]? = some zs[k] := List.getElem?_eq_getElem (by omega)
      rw [List.range_succ, List.countP_append, ih (by omega), List.take_add_one, List.count_append, e]
      simp [e, List.count_cons]
  exact (h _ (Nat.le_refl _)).trans (by rw [List.take_length])
theorem cls_total {zs : List Int} (h : zs.length ≤ 24) : ((clsS zs).map List.length).sum = zs.length := by
  unfold clsS clsL
  rw [if_pos h, List.map_map]
  have hn : (colA zs).Nodup := (colA_lt zs).imp (fun {a b} h => by omega)
  refine Eq.trans ?_ (sum_count zs (colA zs) hn (fun z hz => mem_colA.2 hz))
  congr 1
  exact List.map_congr_left (fun x _ => clsTo_cnt zs x)
end Go.Proofs.YtpaiiaajbojmnaaGreat

/- What the law of the finer colors wants to know. -/
namespace Go.Proofs.YtpaiiaajbojmnaaGreat
open Go.RowKit
set_option linter.unusedVariables false
set_option linter.unusedSimpArgs false

theorem refN_pos {x : Nl} : ∀ (f : Nat) (c : List Int × List Int) (s : Int), 0 ≤ s → 0 ≤ (refN x f c s).2
  | 0, c, s, h => h
  | f + 1, c, s, h => by
    by_cases e : cntC (refS x c) ≤ cntC c
    · rw [refN_stop e]; exact h
    · rw [refN_go e]; exact refN_pos f _ _ (by omega)
/-- The sum of the lengths of the first classes. -/
def lenTo (ls : List (List Int)) (k : Nat) : Nat := ((ls.take k).map List.length).sum
theorem lenTo_step (ls : List (List Int)) (k : Nat) (xs : List Int) (h : ls[k]? = some xs) : lenTo ls (k + 1) = lenTo ls k + xs.length := by
  unfold lenTo
  rw [take_snoc_of ls k xs h, List.map_append, List.sum_append]
  simp
theorem lenTo_all (ls : List (List Int)) : lenTo ls ls.length = (ls.map List.length).sum := by unfold lenTo; rw [List.take_length]
theorem lenTo_le (ls : List (List Int)) (k : Nat) : lenTo ls k ≤ (ls.map List.length).sum := by
  unfold lenTo
  conv => rhs; rw [← List.take_append_drop k ls]
  rw [List.map_append, List.sum_append]; omega
structure FinOk (x : Nl) (z : List Int × List Int) : Prop where
  y : coB x (refS x z) = true
  l1 : (refS x z).1.length = z.1.length
  l2 : (refS x z).2.length = z.2.length
  b1 : z.1.length ≤ 24
  b2 : z.2.length ≤ 24
  nets : ∀ i k : Nat, i < z.1.length → k < z.1.length → (nmOf (refS x z).1 (i : Int) = nmOf (refS x z).1 (k : Int) → nmOf z.1 (i : Int) = nmOf z.1 (k : Int)) ∧ (nmOf (refS x z).1 (i : Int) < nmOf (refS x z).1 (k : Int) → ¬ nmOf z.1 (k : Int) < nmOf z.1 (i : Int))
  devs : ∀ i k : Nat, i < z.2.length → k < z.2.length → nmOf (refS x z).2 (i : Int) = nmOf (refS x z).2 (k : Int) → nmOf z.2 (i : Int) = nmOf z.2 (k : Int)
  pos : 0 ≤ (refNet x).2
  stable : stB x (refNet x).1 = true
  last : (refNet x).1.1.length = z.1.length
  total : lenTo (clsS (refNet x).1.1) (clsS (refNet x).1.1).length = z.1.length
theorem fin_ok {x : Nl} {z : List Int × List Int} (h : coB x z = true) : FinOk x z := by
  obtain ⟨f1, f2, f3, f4⟩ := coB_lens h
  have hy := coB_ref h
  obtain ⟨g1, g2, g3, g4⟩ := coB_lens hy
  obtain ⟨d1, d2, d3, _⟩ := coB_facts h
  have hx : nlB x = true := by
    simp only [coB, Bool.and_eq_true] at h
    exact h.1
  have hr : refNet x = refN x 64 (iniS x) 0 := by unfold refNet; rw [if_pos hx]
  have hl := coB_refN 64 (iniS x) 0 (coB_ini hx)
  obtain ⟨e1, e2, e3, e4⟩ := coB_lens hl
  rw [← hr] at e1
  refine ⟨hy, by omega, by omega, d2, by omega, fun i k hi hk => ?_, fun i k hi hk e => ?_, by rw [hr]; exact refN_pos _ _ _ (Int.le_refl _), ref_stable hx, by omega, ?_⟩
  · obtain ⟨a, b⟩ := fin_nets x z i k hi hk
    exact ⟨a, fun q => by have := b q; omega⟩
  · exact fin_devs x z i k (by omega) (by omega) e
  · rw [lenTo_all, cls_total (by omega)]; omega
end Go.Proofs.YtpaiiaajbojmnaaGreat
