/- The classes of colours: the plain part. -/
import Derived.Test.YtjldkejegdljiaaDifs
namespace Go.Proofs.Ytjldkejegdljiaa
open Go.RowKit
set_option linter.unusedVariables false
set_option linter.unusedSimpArgs false

/-- The places below k at which x stands. -/
def clsTo (zs : List Int) (x : Int) (k : Nat) : List Int := ((List.range k).filter fun i : Nat => match zs[i]? with | some z => decide (z = x) | none => false).map fun i : Nat => (i : Int)
theorem clsTo_step (zs : List Int) (x : Int) (k : Nat) (z : Int) (h : zs[k]? = some z) : clsTo zs x (k + 1) = clsTo zs x k ++ (if z = x then [(k : Int)] else []) := by
  unfold clsTo
  rw [List.range_succ, List.filter_append, List.map_append]
  congr 1
  by_cases e : z = x <;> simp [h, e]
theorem clsTo_len (zs : List Int) (x : Int) (k : Nat) : (clsTo zs x k).length ≤ k := by
  unfold clsTo
  rw [List.length_map]
  have := List.length_filter_le (fun i : Nat => match zs[i]? with | some z => decide (z = x) | none => false) (List.range k)
  simpa using this
/-- The different colours, ascending. -/
def colA (zs : List Int) : List Int := ddp (srt zs)
def clsL (zs : List Int) : List (List Int) := (colA zs).map fun x => clsTo zs x zs.length
/-- What ColorClasses answers. -/
def clsS (zs : List Int) : List (List Int) := if zs.length ≤ 24 then clsL zs else []
theorem length_colA (zs : List Int) : (colA zs).length = difI zs := difI_srt zs
theorem colA_lt (zs : List Int) : (colA zs).Pairwise (fun a b => a < b) := ddp_lt (srt_le zs)
theorem mem_colA {zs : List Int} {z : Int} : z ∈ colA zs ↔ z ∈ zs := by
  unfold colA
  rw [mem_ddp]
  exact (srt_perm zs).mem_iff
theorem colA_inj {zs : List Int} {i j : Nat} {x : Int} (hi : (colA zs)[i]? = some x) (hj : (colA zs)[j]? = some x) : i = j := by
  obtain ⟨hi', ei⟩ := List.getElem?_eq_some_iff.1 hi
  obtain ⟨hj', ej⟩ := List.getElem?_eq_some_iff.1 hj
  have h := colA_lt zs
  rw [List.pairwise_iff_getElem] at h
  rcases Nat.lt_trichotomy i j with hlt | e | hlt
  · have := h i j hi' hj' hlt; omega
  · exact e
  · have := h j i hj' hi' hlt; omega
/-- A colour's rank is its place. -/
theorem rank_col {zs : List Int} {r : Nat} {x : Int} (hr : (colA zs)[r]? = some x) : ((rankOf (zs.map fun z => [z]) [x] : Nat) : Int) = (r : Int) := by
  have hD : ((colA zs).map fun z => [z])[r]? = some [x] := by simp [hr]
  have hs : ((colA zs).map fun z => [z]).Pairwise (fun a b => lcmp a b < 0) := by
    rw [List.pairwise_map]
    refine (colA_lt zs).imp ?_
    intro a b hab
    rw [lcmp_cc, lcmp_nn]
    rcases sgn_cases a b with ⟨_, e⟩ | ⟨_, e⟩ | ⟨_, e⟩ <;> rw [e] <;> simp <;> omega
  have hm : ∀ z, z ∈ ((colA zs).map fun z => [z]) ↔ z ∈ (zs.map fun z => [z]) := by
    intro z
    simp only [List.mem_map, mem_colA]
  have h := place_rank hs hm (x := [x]) ((hm _).1 (List.mem_of_getElem? hD))
  rw [← h]
  refine fidx_hit hD (by simp) (fun j y hj hy => ?_)
  rw [List.getElem?_map, Option.map_eq_some_iff] at hy
  obtain ⟨y', hy', rfl⟩ := hy
  refine decide_eq_false (fun e => ?_)
  have e' : y' = x := by simpa using e
  subst e'
  have := colA_inj hy' hr
  omega
theorem rank_is {zs : List Int} {i r : Nat} {z x v : Int} (hz : zs[i]? = some z) (hx : (colA zs)[r]? = some x) (hv : (rankS (zs.map fun z => [z]))[i]? = some v) : v = (r : Int) ↔ z = x := by
  obtain ⟨s, hs⟩ : ∃ s, (colA zs)[s]? = some z := by
    obtain ⟨s, hs, e⟩ := List.mem_iff_getElem.1 (mem_colA.2 (List.mem_of_getElem? hz))
    exact ⟨s, by rw [List.getElem?_eq_getElem hs, e]⟩
  have hv' : v = (s : Int) := by
    unfold rankS at hv
    rw [List.getElem?_map, List.getElem?_map, hz] at hv
    simp only [Option.map_some, Option.some.injEq] at hv
    rw [← hv]
    exact rank_col hs
  rw [hv']
  constructor
  · intro e
    have : s = r := by omega
    subst this
    rw [hs] at hx
    exact Option.some.inj hx
  · intro e
    subst e
    rw [colA_inj hs hx]
end Go.Proofs.Ytjldkejegdljiaa
