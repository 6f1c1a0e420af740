/- The signature of a net: the reference's grouped pairs are the sorted pairs. -/
import Derived.Test.YtjldkejegdljiaaNetM
import Derived.Test.YtjldkejegdljiaaRankM
namespace Go.Proofs.Ytjldkejegdljiaa
open Go.RowKit
set_option linter.unusedVariables false
set_option linter.unusedSimpArgs false

/-- What one device adds to a net: its first k pins. -/
def occD (ci kind : Int) (pins : List Int) (net : Int) (k : Nat) : List (List Int) := (List.range k).flatMap fun j => if pins.getD j 0 = net then [[ci, roleOf kind j]] else []
/-- What the first i devices add to a net. -/
def occs (ds : List Dv) (cs : List Int) (net : Int) (i : Nat) : List (List Int) := (List.range i).flatMap fun j : Nat => occD (nmOf cs (j : Int)) (dAt ds j).kind (dAt ds j).pins net (dAt ds j).pins.length
theorem occD_succ (ci kind : Int) (pins : List Int) (net : Int) (k : Nat) : occD ci kind pins net (k + 1) = occD ci kind pins net k ++ (if pins.getD k 0 = net then [[ci, roleOf kind k]] else []) := flat_succ _ k
theorem occs_succ (ds : List Dv) (cs : List Int) (net : Int) (i : Nat) (d : Dv) (h : ds[i]? = some d) : occs ds cs net (i + 1) = occs ds cs net i ++ occD (nmOf cs (i : Int)) d.kind d.pins net d.pins.length := by
  unfold occs
  rw [flat_succ]
  simp [dAt, List.getD_eq_getElem?_getD, h]
theorem occD_len (ci kind : Int) (pins : List Int) (net : Int) (k : Nat) : (occD ci kind pins net k).length ≤ k * 1 := flat_len _ 1 k (fun j _ => by split <;> simp)
theorem occs_len {ds : List Dv} (hp : ∀ d ∈ ds, d.pins.length ≤ 3) (cs : List Int) (net : Int) (i : Nat) : (occs ds cs net i).length ≤ i * 3 := flat_len _ 3 i (fun (j : Nat) _ => by
  have h := occD_len (nmOf cs (j : Int)) (dAt ds j).kind (dAt ds j).pins net (dAt ds j).pins.length
  have h3 : (dAt ds j).pins.length ≤ 3 := by
    unfold dAt
    rw [List.getD_eq_getElem?_getD]
    cases e : ds[j]? with
    | none => simp
    | some d => exact hp d (List.mem_of_getElem? e)
  omega)
theorem flat_filter (f : Nat → List (List Int)) (p : List Int → Bool) (n : Nat) : (((List.range n).flatMap f).filter p).flatten = (List.range n).flatMap fun j => ((f j).filter p).flatten := by
  induction n with
  | zero => simp
  | succ n ih => rw [flat_succ, flat_succ, List.filter_append, List.flatten_append, ih]
theorem flat_flat (f : Nat → List (List Int)) (n : Nat) : ((List.range n).flatMap f).flatten = (List.range n).flatMap fun j => (f j).flatten := by
  induction n with
  | zero => simp
  | succ n ih => rw [flat_succ, flat_succ, List.flatten_append, ih]
theorem pTo_occ (ci kind : Int) (pins : List Int) (net q r : Int) (k : Nat) : pTo ci kind pins net q r k = ((occD ci kind pins net k).filter fun o => decide (o = [q, r])).flatten := by
  unfold pTo occD
  rw [flat_filter]
  congr 1
  funext j
  unfold pHit
  by_cases h1 : pins.getD j 0 = net
  · by_cases h2 : ci = q <;> by_cases h3 : roleOf kind j = r <;> simp only [h1, h2, h3, if_true, decide_true, decide_false, Bool.and_true, Bool.and_false, Bool.false_eq_true, if_false, List.filter_cons, List.filter_nil] <;> simp [h2, h3]
  · simp only [h1, decide_false, Bool.false_and, Bool.and_false, Bool.false_eq_true, if_false, List.filter_nil, List.flatten_nil]
theorem dTo_occ (ds : List Dv) (cs : List Int) (net q r : Int) (i : Nat) : dTo ds cs net q r i = ((occs ds cs net i).filter fun o => decide (o = [q, r])).flatten := by
  unfold dTo occs
  rw [flat_filter]
  congr 1
  funext j
  exact pTo_occ _ _ _ _ _ _ _
/-- The pairs, grouped. -/
def grp (O : List (List Int)) (a b : Nat) : List (List Int) := (List.range a).flatMap fun q : Nat => (List.range b).flatMap fun r : Nat => O.filter fun o => decide (o = [(q : Int), (r : Int)])
theorem cTo_occ (ds : List Dv) (cs : List Int) (net : Int) (c : Nat) : cTo ds cs net c = (grp (occs ds cs net ds.length) c 3).flatten := by
  unfold cTo grp rTo
  rw [flat_flat]
  congr 1
  funext q
  rw [flat_flat]
  congr 1
  funext r
  exact dTo_occ _ _ _ _ _ _
theorem count_flat (f : Nat → List (List Int)) (a : List Int) (k c : Nat) (h1 : ∀ j, j ≠ k → (f j).count a = 0) (h2 : (f k).count a = c) (n : Nat) : ((List.range n).flatMap f).count a = if k < n then c else 0 := by
  induction n with
  | zero => simp
  | succ n ih =>
    rw [flat_succ, List.count_append, ih]
    by_cases e : n = k
    · subst e; simp [h2]
    · rw [h1 n e]
      by_cases h : k < n
      · rw [if_pos h, if_pos (by omega)]; simp
      · rw [if_neg h, if_neg (by omega)]
theorem mem_grp {O : List (List Int)} {a b : Nat} {o : List Int} (h : o ∈ grp O a b) : o ∈ O := by
  simp only [grp, List.mem_flatMap, List.mem_filter] at h
  obtain ⟨_, _, _, _, h, _⟩ := h
  exact h
theorem grp_perm (O : List (List Int)) (a b : Nat) (h : ∀ o ∈ O, ∃ q r : Nat, q < a ∧ r < b ∧ o = [(q : Int), (r : Int)]) : (grp O a b).Perm O := by
  rw [List.perm_iff_count]
  intro o
  by_cases ho : o ∈ O
  · obtain ⟨q, r, hq, hr, rfl⟩ := h o ho
    have hc : ∀ q' r' : Nat, (O.filter fun o => decide (o = [(q' : Int), (r' : Int)])).count [(q : Int), (r : Int)] = if q' = q ∧ r' = r then O.count [(q : Int), (r : Int)] else 0 := by
      intro q' r'
      by_cases e : q' = q ∧ r' = r
      · rw [if_pos e, e.1, e.2]
        exact List.count_filter (by simp)
      · rw [if_neg e]
        apply List.count_eq_zero.2
        intro hm
        have := (List.mem_filter.1 hm).2
        simp at this
        omega
    unfold grp
    rw [count_flat _ _ q (O.count [(q : Int), (r : Int)]) (fun j hj => ?_) ?_, if_pos hq]
    · rw [count_flat _ _ r (O.count [(q : Int), (r : Int)]) (fun i hi => by rw [hc, if_neg (by omega)]) (by rw [hc, if_pos ⟨rfl, rfl⟩]), if_pos hr]
    · rw [count_flat _ _ r 0 (fun i hi => by rw [hc, if_neg (by omega)]) (by rw [hc, if_neg (by omega)])]
      simp
  · rw [List.count_eq_zero.2 ho, List.count_eq_zero.2 (fun hm => ho (mem_grp hm))]
theorem lcmp_pair (a b c d : Int) (h : a < c ∨ a = c ∧ b ≤ d) : lcmp [a, b] [c, d] ≤ 0 := by
  rw [lcmp_cc, lcmp_cc, lcmp_nn]
  rcases sgn_cases a c with ⟨_, e⟩ | ⟨_, e⟩ | ⟨_, e⟩ <;> rcases sgn_cases b d with ⟨_, e'⟩ | ⟨_, e'⟩ | ⟨_, e'⟩ <;> rw [e, e'] <;> simp <;> omega
theorem grp_sorted (O : List (List Int)) (a b : Nat) : (grp O a b).Pairwise fun x y => lcmp x y ≤ 0 := by
  unfold grp
  rw [List.pairwise_flatMap]
  refine ⟨fun q _ => ?_, List.pairwise_lt_range.imp ?_⟩
  · rw [List.pairwise_flatMap]
    refine ⟨fun r _ => ?_, List.pairwise_lt_range.imp ?_⟩
    · refine List.pairwise_of_forall_mem_list fun x hx y hy => ?_
      have h1 := (List.mem_filter.1 hx).2
      have h2 := (List.mem_filter.1 hy).2
      simp at h1 h2
      subst h1
      subst h2
      rw [lcmp_self]
      simp
    · intro r r' hr x hx y hy
      have h1 := (List.mem_filter.1 hx).2
      have h2 := (List.mem_filter.1 hy).2
      simp at h1 h2
      subst h1
      subst h2
      exact lcmp_pair _ _ _ _ (.inr ⟨rfl, by omega⟩)
  · intro q q' hq x hx y hy
    simp only [List.mem_flatMap, List.mem_filter, decide_eq_true_eq] at hx hy
    obtain ⟨_, _, _, rfl⟩ := hx
    obtain ⟨_, _, _, rfl⟩ := hy
    exact lcmp_pair _ _ _ _ (.inl (by omega))
/-- The law: any sorted permutation of the pairs gives the signature. -/
theorem netL_sorted (x : Nl) (c : List Int × List Int) (net : Int) (S : List (List Int)) (hS : S.Perm (occs x.ds c.2 net x.ds.length)) (hP : S.Pairwise fun a b => lcmp a b ≤ 0)
    (hO : ∀ o ∈ occs x.ds c.2 net x.ds.length, ∃ q r : Nat, q < 24 ∧ r < 3 ∧ o = [(q : Int), (r : Int)]) : [nmOf c.1 net] ++ S.flatten = netL' x c net := by
  have e : S = grp (occs x.ds c.2 net x.ds.length) 24 3 :=
    List.Perm.eq_of_pairwise (fun a b _ _ h1 h2 => (lcmp_zero a b).1 (by have := lcmp_flip a b; omega)) hP (grp_sorted _ _ _) (hS.trans (grp_perm _ _ _ hO).symm)
  rw [e]
  unfold netL'
  rw [cTo_occ]
end Go.Proofs.Ytjldkejegdljiaa
