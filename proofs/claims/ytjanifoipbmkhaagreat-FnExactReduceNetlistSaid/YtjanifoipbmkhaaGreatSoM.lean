/- FnSorted's plain part: a compacted netlist is valid, and each of its nets is used. -/
import Derived.Test.YtjanifoipbmkhaaGreatRens
import Derived.Test.YtjanifoipbmkhaaGreatSrtA
namespace Go.Proofs.YtjanifoipbmkhaaGreat
open Go.RowKit
set_option linter.unusedVariables false
set_option linter.unusedSimpArgs false

theorem degN_pos {ds : List Dv} {net : Int} : 0 < degN ds net ↔ ∃ d ∈ ds, net ∈ d.pins := by
  induction ds with
  | nil => simp [degN]
  | cons y ys ih =>
    simp only [degN, List.mem_cons]
    constructor
    · intro h
      by_cases hc : 0 < y.pins.count net
      · exact ⟨y, .inl rfl, List.count_pos_iff.1 hc⟩
      · obtain ⟨d, h1, h2⟩ := ih.1 (by omega)
        exact ⟨d, .inr h1, h2⟩
    · rintro ⟨d, rfl | h, h2⟩
      · have := List.count_pos_iff.2 h2; omega
      · have := ih.2 ⟨d, h, h2⟩; omega
theorem portB_iff {ps : List Pt} {net : Int} : portB ps net = true ↔ ∃ p ∈ ps, p.net = net := by
  simp [portB]
theorem usedB_iff {x : Nl} {net : Int} : usedB x net = true ↔ (∃ d ∈ x.ds, net ∈ d.pins) ∨ ∃ p ∈ x.ps, p.net = net := by
  unfold usedB
  rw [Bool.or_eq_true, portB_iff, decide_eq_true_eq, degN_pos]
theorem cnt_mono (x : Nl) {a b : Nat} (h : a ≤ b) : cnt x a ≤ cnt x b := by
  induction h with
  | refl => exact Nat.le_refl _
  | step _ ih => rw [cnt_succ]; omega
theorem cnt_lt {x : Nl} {a b : Nat} (h : a < b) (hu : usedB x a = true) : cnt x a < cnt x b := by
  have h1 := cnt_mono x (show a + 1 ≤ b from h)
  rw [cnt_succ, if_pos hu] at h1
  omega
theorem cnt_hit (x : Nl) : ∀ (n k : Nat), k < cnt x n → ∃ i, i < n ∧ usedB x i = true ∧ cnt x i = k
  | 0, k, h => by simp [cnt] at h
  | n + 1, k, h => by
    rw [cnt_succ] at h
    by_cases hk : k < cnt x n
    · obtain ⟨i, a, b⟩ := cnt_hit x n k hk
      exact ⟨i, by omega, b⟩
    · by_cases hu : usedB x n = true
      · rw [if_pos hu] at h
        exact ⟨n, by omega, hu, by omega⟩
      · rw [if_neg hu] at h; omega
theorem nmOf_nmC {x : Nl} {n p : Nat} (h : p < n) : nmOf (nmC x n) (p : Int) = (cnt x p : Int) := by
  simp [nmOf, nmC, h]

/-- Each net that a valid netlist refers to gets a name below the number of names. -/
theorem name_bd {x : Nl} {p : Int} (h0 : 0 ≤ p) (h1 : p < x.nets) (hu : usedB x p = true) : 0 ≤ nmOf (nmC x x.nets.toNat) p ∧ nmOf (nmC x x.nets.toNat) p < (cnt x x.nets.toNat : Int) := by
  obtain ⟨q, rfl⟩ := Int.eq_ofNat_of_zero_le h0
  rw [nmOf_nmC (by omega)]
  have := cnt_lt (x := x) (a := q) (b := x.nets.toNat) (by omega) hu
  omega
theorem cmS_yes {x : Nl} (h : nlB x = true) : cmS x = renS x (nmC x x.nets.toNat) (cnt x x.nets.toNat) := by simp [cmS, h]
theorem cmS_no {x : Nl} (h : nlB x = false) : cmS x = ⟨0, [], []⟩ := by simp [cmS, h]
theorem ptOk_map {x : Nl} {names : List Int} {nets : Int} (i : Nat) (hi : i < x.ps.length) (h : ptOk x.nets x.ps i = true) (hb : ∀ p ∈ x.ps, inB (nmOf names p.net) 0 (nets - 1) = true) : ptOk nets (x.ps.map (renP names)) i = true := by
  have hp := List.getElem?_eq_getElem hi
  have hbi := hb x.ps[i] (List.getElem_mem hi)
  unfold ptOk at *
  rw [List.getElem?_map, hp]
  rw [hp] at h
  simp only [Option.map_some, Bool.and_eq_true] at h ⊢
  refine ⟨h.1, hbi, ?_⟩
  have h3 := h.2.2
  cases i with
  | zero => rfl
  | succ j =>
    simp only [List.getElem?_map] at h3 ⊢
    cases hj : x.ps[j]? with
    | none => rfl
    | some y => rw [hj] at h3; exact h3
theorem cmS_valid {x : Nl} (h : nlB x = true) : nlB (cmS x) = true := by
  rw [cmS_yes h]
  obtain ⟨⟨n0, n1⟩, hl, hp, hd, hpt⟩ := nlB_facts h
  have hcl := cnt_le x x.nets.toNat
  have hpn : ∀ p ∈ x.ps, inB (nmOf (nmC x x.nets.toNat) p.net) 0 ((cnt x x.nets.toNat : Int) - 1) = true := by
    intro p hpm
    obtain ⟨i, hi, e⟩ := List.getElem_of_mem hpm
    have h1 := hpt i hi
    have hin : inB p.net 0 (x.nets - 1) = true := by
      unfold ptOk at h1
      rw [List.getElem?_eq_getElem hi, e] at h1
      simp only [Bool.and_eq_true] at h1
      exact h1.2.1
    have h2 := inB_iff.1 hin
    have h3 := name_bd (x := x) (p := p.net) h2.1 (by omega) (usedB_iff.2 (.inr ⟨p, hpm, rfl⟩))
    exact inB_iff.2 ⟨h3.1, by omega⟩
  simp only [nlB, renS, Bool.and_eq_true, decide_eq_true_eq, List.all_eq_true, List.length_map, ptsB, List.mem_range]
  refine ⟨inB_iff.2 ⟨by omega, by omega⟩, hl, hp, fun d hdm => ?_, fun i hi => ptOk_map i hi (hpt i hi) hpn⟩
  obtain ⟨e, he, rfl⟩ := List.mem_map.1 hdm
  obtain ⟨a1, a2, a3, a4, a5, a6⟩ := dvB_all (hd e he)
  unfold dvB renD
  simp only [Bool.and_eq_true, decide_eq_true_eq, List.all_eq_true, List.length_map]
  refine ⟨a1, a2, a3, a4, fun p hpm => ?_, ?_⟩
  · obtain ⟨q, hq, rfl⟩ := List.mem_map.1 hpm
    have h2 := inB_iff.1 (a5 q hq)
    have h3 := name_bd (x := x) (p := q) h2.1 (by omega) (usedB_iff.2 (.inl ⟨e, he, hq⟩))
    exact inB_iff.2 ⟨h3.1, by omega⟩
  · simpa using a6
theorem cmS_used {x : Nl} (h : nlB x = true) {net : Int} (h0 : 0 ≤ net) (h1 : net < (cmS x).nets) : usedB (cmS x) net = true := by
  obtain ⟨k, rfl⟩ := Int.eq_ofNat_of_zero_le h0
  rw [cmS_yes h] at h1 ⊢
  obtain ⟨i, hi, hu, hk⟩ := cnt_hit x x.nets.toNat k (by simp only [renS] at h1; omega)
  have hn : nmOf (nmC x x.nets.toNat) (i : Int) = (k : Int) := by rw [nmOf_nmC hi, hk]
  rw [usedB_iff]
  rcases usedB_iff.1 hu with ⟨d, hd, hp⟩ | ⟨p, hp, he⟩
  · exact .inl ⟨renD _ d, List.mem_map_of_mem hd, by rw [← hn]; exact List.mem_map_of_mem hp⟩
  · exact .inr ⟨renP _ p, List.mem_map_of_mem hp, by show nmOf _ p.net = _; rw [he, hn]⟩
theorem cmS_sizes {x : Nl} (h : nlB x = true) : (cmS x).ds.length = x.ds.length ∧ (cmS x).nets ≤ x.nets ∧ 0 ≤ (cmS x).nets := by
  rw [cmS_yes h]
  have := cnt_le x x.nets.toNat
  obtain ⟨⟨n0, n1⟩, _⟩ := nlB_facts h
  refine ⟨by simp [renS], ?_, ?_⟩ <;> simp only [renS] <;> omega
/-- How many of the first k devices equal a device. -/
def eqN (ds : List Dv) (y : Dv) (k : Nat) : Nat := (ds.take k).countP fun x => decide (dcf x y = 0)
theorem eqN_step {ds : List Dv} {k : Nat} {x : Dv} (y : Dv) (h : ds[k]? = some x) : eqN ds y (k + 1) = eqN ds y k + if dcf x y = 0 then 1 else 0 := by
  unfold eqN
  rw [take_snoc_of ds k x h, List.countP_append, List.countP_singleton]
  simp
theorem eqN_le (ds : List Dv) (y : Dv) (k : Nat) : eqN ds y k ≤ k := by
  have := List.countP_le_length (l := ds.take k) (p := fun x => decide (dcf x y = 0))
  rw [List.length_take] at this
  unfold eqN; omega
theorem eqN_srt (ds : List Dv) (y : Dv) : eqN (srtD ds) y ds.length = eqN ds y ds.length := by
  unfold eqN
  have e : (srtD ds).take ds.length = srtD ds := List.take_of_length_le (by rw [length_srtD]; exact Nat.le_refl _)
  rw [e, List.take_length]
  exact (srtD_perm ds).countP_eq _
theorem srtD_asc {ds : List Dv} {i j : Nat} {x y : Dv} (hij : i < j) (hx : (srtD ds)[i]? = some x) (hy : (srtD ds)[j]? = some y) : dcf x y ≤ 0 := by
  have h := List.pairwise_iff_getElem.1 (srtD_pairwise ds) i j (List.getElem?_eq_some_iff.1 hx).1 (List.getElem?_eq_some_iff.1 hy).1 hij
  obtain ⟨_, e1⟩ := List.getElem?_eq_some_iff.1 hx
  obtain ⟨_, e2⟩ := List.getElem?_eq_some_iff.1 hy
  rw [e1, e2, dlt_false] at h
  have := dcf_flip x y
  omega
end Go.Proofs.YtjanifoipbmkhaaGreat
