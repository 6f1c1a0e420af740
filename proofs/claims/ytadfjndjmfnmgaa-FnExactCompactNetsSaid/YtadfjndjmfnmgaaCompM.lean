/- Netlists without the nets that nothing refers to: the plain part. -/
import Derived.Test.YtadfjndjmfnmgaaRenM
import Derived.Test.YtadfjndjmfnmgaaRename
import Derived.Test.YtadfjndjmfnmgaaDegB
import Derived.Test.YtadfjndjmfnmgaaSerB
namespace Go.Proofs.Ytadfjndjmfnmgaa
open Go.RowKit
set_option linter.unusedVariables false
set_option linter.unusedSimpArgs false

def usedB (x : Nl) (net : Int) : Bool := decide (0 < degN x.ds net) || portB x.ps net
/-- How many of the first k nets something refers to. -/
def cnt (x : Nl) : Nat → Nat
  | 0 => 0
  | k + 1 => cnt x k + if usedB x k = true then 1 else 0
theorem cnt_succ (x : Nl) (k : Nat) : cnt x (k + 1) = cnt x k + if usedB x k = true then 1 else 0 := rfl
theorem usedB_def (x : Nl) (k : Nat) : usedB x k = (decide (0 < degN x.ds k) || portB x.ps k) := rfl
theorem cnt_le (x : Nl) (k : Nat) : cnt x k ≤ k := by
  induction k with
  | zero => exact Nat.le_refl _
  | succ k ih => simp only [cnt]; split <;> omega
def nmC (x : Nl) (n : Nat) : List Int := (List.range n).map fun i => (cnt x i : Int)
theorem length_nmC (x : Nl) (n : Nat) : (nmC x n).length = n := by simp [nmC]
theorem nmC_succ (x : Nl) (n : Nat) : nmC x (n + 1) = nmC x n ++ [(cnt x n : Int)] := by simp [nmC, List.range_succ]
/-- The first k names laid, noughts behind. -/
def nmTo (x : Nl) (n k : Nat) : List Int := (List.range n).map fun i => if i < k then (cnt x i : Int) else 0
theorem length_nmTo (x : Nl) (n k : Nat) : (nmTo x n k).length = n := by simp [nmTo]
theorem nmTo_all (x : Nl) (n : Nat) : nmTo x n n = nmC x n := by
  apply List.ext_getElem?
  intro i
  by_cases hi : i < n
  · simp [nmTo, nmC, hi]
  · rw [List.getElem?_eq_none (by rw [length_nmTo]; omega), List.getElem?_eq_none (by rw [length_nmC]; omega)]
theorem nmTo_step (x : Nl) (n k : Nat) (hk : k < n) : (nmTo x n k).set k (cnt x k : Int) = nmTo x n (k + 1) := by
  apply List.ext_getElem?
  intro i
  by_cases e : k = i
  · subst e
    rw [List.getElem?_set_self (by rw [length_nmTo]; exact hk)]
    simp [nmTo, hk]
  · rw [List.getElem?_set_ne e]
    by_cases hi : i < n
    · simp only [nmTo, List.getElem?_map, List.getElem?_range hi, Option.map_some]
      congr 1
      by_cases h : i < k
      · rw [if_pos h, if_pos (by omega)]
      · rw [if_neg h, if_neg (by omega)]
    · rw [List.getElem?_eq_none (by rw [length_nmTo]; omega), List.getElem?_eq_none (by rw [length_nmTo]; omega)]
/-- How often something refers to each net: the pins, and the first j ports. -/
def usN (x : Nl) (j i : Nat) : Nat := degN x.ds i + ((x.ps.take j).map Pt.net).count (i : Int)
def usT (x : Nl) (n j : Nat) : List Int := (List.range n).map fun i => (usN x j i : Int)
theorem length_usT (x : Nl) (n j : Nat) : (usT x n j).length = n := by simp [usT]
theorem usT_get (x : Nl) (n j i : Nat) (h : i < n) : (usT x n j)[i]? = some (usN x j i : Int) := by simp [usT, h]
theorem usN_step (x : Nl) (j i q : Nat) (p : Pt) (hp : x.ps[j]? = some p) (hq : p.net = (q : Int)) : usN x (j + 1) i = usN x j i + if q = i then 1 else 0 := by
  unfold usN
  rw [take_snoc_of x.ps j p hp, List.map_append, List.count_append]
  simp only [List.map_cons, List.map_nil, hq, List.count_cons, List.count_nil]
  by_cases e : q = i
  · subst e; simp; omega
  · rw [if_neg e]; simp; omega
theorem usT_step (x : Nl) (n j q : Nat) (p : Pt) (hp : x.ps[j]? = some p) (hq : p.net = (q : Int)) (hqn : q < n) : (usT x n j).set q ((usN x j q : Int) + 1) = usT x n (j + 1) := by
  apply List.ext_getElem?
  intro i
  by_cases e : q = i
  · subst e
    rw [List.getElem?_set_self (by rw [length_usT]; exact hqn), usT_get _ _ _ _ hqn, usN_step x j q q p hp hq, if_pos rfl]
    simp
  · rw [List.getElem?_set_ne e]
    by_cases hi : i < n
    · rw [usT_get _ _ _ _ hi, usT_get _ _ _ _ hi, usN_step x j i q p hp hq, if_neg e]; simp
    · rw [List.getElem?_eq_none (by rw [length_usT]; omega), List.getElem?_eq_none (by rw [length_usT]; omega)]
theorem usN_used (x : Nl) (i : Nat) : decide (0 < usN x x.ps.length i) = usedB x i := by
  unfold usN usedB
  rw [List.take_length]
  have h : portB x.ps (i : Int) = decide (0 < (x.ps.map Pt.net).count (i : Int)) := by
    rw [Bool.eq_iff_iff]
    simp [portB, List.count_pos_iff]
  rw [h, Bool.eq_iff_iff, Bool.or_eq_true, decide_eq_true_iff, decide_eq_true_iff, decide_eq_true_iff]
  omega
theorem usN_le (x : Nl) (j i : Nat) (h1 : x.ds.length ≤ 24) (h2 : ∀ d ∈ x.ds, d.pins.length ≤ 3) (h3 : x.ps.length ≤ 8) : usN x j i ≤ 80 := by
  have a := degN_le x.ds i h2
  have b := List.count_le_length (a := (i : Int)) (l := (x.ps.take j).map Pt.net)
  have c := List.length_take (i := j) (l := x.ps)
  rw [List.length_map] at b
  unfold usN
  omega
def cmS (x : Nl) : Nl := if nlB x = true then renS x (nmC x x.nets.toNat) (cnt x x.nets.toNat) else ⟨0, [], []⟩
theorem cmS_bounds {x : Nl} (h1 : ∀ d ∈ x.ds, d.pins.length ≤ 1048576) (h2 : nsum x ≤ 4000000) : (∀ d ∈ (cmS x).ds, d.pins.length ≤ 1048576) ∧ nsum (cmS x) ≤ 4000000 := by
  unfold cmS
  split
  · refine ⟨fun d hd => ?_, by rw [nsum_renS]; exact h2⟩
    obtain ⟨y, hy, rfl⟩ := List.mem_map.1 hd
    simpa [renD] using h1 y hy
  · simp [nsum, dsum]
theorem IBlk.set {w : World} {g : Nat} {zs : List Int} (h : IBlk w g zs) (k : Nat) (y : Int) : IBlk (w.setCell ⟨g, k, none⟩ (.int .i64 y)) g (zs.set k y) := by
  obtain ⟨cs, h1, h2, h3⟩ := h
  exact ⟨_, h1.set k _, by simp [h2], ICs.set (cs := cs) h3 k y⟩
end Go.Proofs.Ytadfjndjmfnmgaa
