/- Degrees of nets: plain. -/
import Derived.Test.YthcaipohdeigeaaVNlM
namespace Go.Proofs.Ythcaipohdeigeaa
open Go.RowKit

/-- The number of pins on a net. -/
def degN : List Dv → Int → Nat
  | [], _ => 0
  | d :: ds, net => d.pins.count net + degN ds net
theorem degN_snoc (ds : List Dv) (d : Dv) (net : Int) : degN (ds ++ [d]) net = degN ds net + d.pins.count net := by
  induction ds with
  | nil => simp [degN]
  | cons y ys ih => simp only [List.cons_append, degN, ih]; omega
theorem take_snoc_of {α : Type} (xs : List α) (k : Nat) (x : α) (h : xs[k]? = some x) : xs.take (k + 1) = xs.take k ++ [x] := by
  rw [List.take_add_one, h]; rfl
theorem degN_take (ds : List Dv) (k : Nat) (d : Dv) (h : ds[k]? = some d) (net : Int) : degN (ds.take (k + 1)) net = degN (ds.take k) net + d.pins.count net := by
  rw [take_snoc_of ds k d h, degN_snoc]
theorem count_take (zs : List Int) (j : Nat) (z : Int) (h : zs[j]? = some z) (net : Int) : (zs.take (j + 1)).count net = (zs.take j).count net + if z = net then 1 else 0 := by
  rw [take_snoc_of zs j z h, List.count_append, List.count_singleton]; simp
theorem degN_le (ds : List Dv) (net : Int) (h : ∀ d ∈ ds, d.pins.length ≤ 3) : degN ds net ≤ 3 * ds.length := by
  induction ds with
  | nil => simp [degN]
  | cons y ys ih =>
    have h1 := ih (fun d hd => h d (List.mem_cons_of_mem _ hd))
    have h2 := h y List.mem_cons_self
    have h3 := List.count_le_length (a := net) (l := y.pins)
    simp only [degN, List.length_cons]; omega
theorem degN_take_le (ds : List Dv) (k : Nat) (net : Int) (hl : ds.length ≤ 24) (h : ∀ d ∈ ds, d.pins.length ≤ 3) : degN (ds.take k) net ≤ 72 := by
  have := degN_le (ds.take k) net (fun d hd => h d (List.mem_of_mem_take hd))
  have := List.length_take_le k ds
  have : (ds.take k).length ≤ ds.length := by rw [List.length_take]; omega
  omega
theorem count_take_le (zs : List Int) (j : Nat) (net : Int) (h : zs.length ≤ 3) : (zs.take j).count net ≤ 3 := by
  have := List.count_le_length (a := net) (l := zs.take j)
  have : (zs.take j).length ≤ zs.length := by rw [List.length_take]; omega
  omega
/-- The degrees of all nets. -/
def degs (n : Nat) (ds : List Dv) : List Int := (List.range n).map fun (i : Nat) => (degN ds (i : Int) : Int)
theorem length_degs (n : Nat) (ds : List Dv) : (degs n ds).length = n := by simp [degs]
theorem degs_get (n : Nat) (ds : List Dv) (i : Nat) (h : i < n) : (degs n ds)[i]? = some ((degN ds (i : Int) : Nat) : Int) := by simp [degs, h]

/-- What a valid netlist is worth to a walk. -/
theorem nlB_facts {x : Nl} (h : nlB x = true) : (0 ≤ x.nets ∧ x.nets ≤ 24) ∧ x.ds.length ≤ 24 ∧ x.ps.length ≤ 8 ∧ (∀ d ∈ x.ds, dvB x.nets d = true) ∧ ∀ i, i < x.ps.length → ptOk x.nets x.ps i = true := by
  simp only [nlB, Bool.and_eq_true, decide_eq_true_eq, List.all_eq_true, ptsB, List.mem_range] at h
  exact ⟨inB_iff.1 h.1, h.2.1, h.2.2.1, h.2.2.2.1, h.2.2.2.2⟩
theorem dvB_pins {nets : Int} {d : Dv} (h : dvB nets d = true) : d.pins.length ≤ 3 ∧ 2 ≤ d.pins.length ∧ ∀ p ∈ d.pins, 0 ≤ p ∧ p < nets := by
  obtain ⟨h1, h2, h3, h4, h5, h6⟩ := dvB_all h
  refine ⟨by rw [h2]; unfold pinsOf; split <;> omega, by rw [h2]; unfold pinsOf; split <;> omega, fun p hp => ?_⟩
  have := inB_iff.1 (h5 p hp); omega
end Go.Proofs.Ythcaipohdeigeaa
