/- When a netlist is valid: plain. -/
import Derived.Test.YthcaipohdeigeaaVDevM
import Derived.Test.YthcaipohdeigeaaName
import Derived.Test.YthcaipohdeigeaaNl3
namespace Go.Proofs.Ythcaipohdeigeaa
open Go.RowKit

/-- A string lies ahead of another one. -/
def ltS (a b : ByteArray) : Bool := Op.bytesLess a.toList b.toList
/-- Port i of the ports is in order. -/
def ptOk (nets : Int) (ps : List Pt) (i : Nat) : Bool :=
  match ps[i]? with
  | none => true
  | some x => nameB x.name && (inB x.net 0 (nets - 1) && (match i with | 0 => true | j + 1 => match ps[j]? with | some y => ltS y.name x.name | none => true))
def ptsB (nets : Int) (ps : List Pt) : Bool := (List.range ps.length).all (ptOk nets ps)
/-- The netlist is valid. -/
def nlB (x : Nl) : Bool := inB x.nets 0 24 && (decide (x.ds.length ≤ 24) && (decide (x.ps.length ≤ 8) && (x.ds.all (dvB x.nets) && ptsB x.nets x.ps)))

section
variable {nets : Int} {ps : List Pt} {x y : Pt} {i : Nat}
theorem ptOk_name (h : ps[i]? = some x) (hn : nameB x.name = false) : ptOk nets ps i = false := by unfold ptOk; rw [h]; simp [hn]
theorem ptOk_net (h : ps[i]? = some x) (hn : inB x.net 0 (nets - 1) = false) : ptOk nets ps i = false := by unfold ptOk; rw [h]; simp [hn]
theorem ptOk_lt (h : ps[i + 1]? = some x) (h' : ps[i]? = some y) (hn : Op.bytesLess y.name.toList x.name.toList = false) : ptOk nets ps (i + 1) = false := by unfold ptOk; rw [h]; simp [h', ltS, hn]
theorem ptOk_zero (h : ps[0]? = some x) (h1 : nameB x.name = true) (h2 : inB x.net 0 (nets - 1) = true) : ptOk nets ps 0 = true := by unfold ptOk; rw [h]; simp [h1, h2]
theorem ptOk_succ (h : ps[i + 1]? = some x) (h' : ps[i]? = some y) (h1 : nameB x.name = true) (h2 : inB x.net 0 (nets - 1) = true) (h3 : Op.bytesLess y.name.toList x.name.toList = true) : ptOk nets ps (i + 1) = true := by unfold ptOk; rw [h]; simp [h', ltS, h1, h2, h3]
variable {n : Nl}
theorem nlB_nets (h : inB n.nets 0 24 = false) : nlB n = false := by simp [nlB, h]
theorem nlB_ds (h : ¬ n.ds.length ≤ 24) : nlB n = false := by simp [nlB]; omega
theorem nlB_ps (h : ¬ n.ps.length ≤ 8) : nlB n = false := by simp [nlB]; omega
theorem nlB_any (h : (n.ds.all (dvB n.nets)) = false) : nlB n = false := by simp [nlB, h]
theorem nlB_dv {k : Nat} {d : Dv} (hk : n.ds[k]? = some d) (h : dvB n.nets d = false) : nlB n = false := by
  apply nlB_any
  rw [List.all_eq_false]; exact ⟨d, List.mem_of_getElem? hk, by simp [h]⟩
theorem nlB_pt (hi : i < n.ps.length) (h : ptOk n.nets n.ps i = false) : nlB n = false := by
  have : ptsB n.nets n.ps = false := by
    unfold ptsB; rw [List.all_eq_false]; exact ⟨i, List.mem_range.2 hi, by simp [h]⟩
  simp [nlB, this]
theorem all_dv {nets : Int} {ds : List Dv} (h : ∀ (j : Nat) d, j < ds.length → ds[j]? = some d → dvB nets d = true) : ds.all (dvB nets) = true := by
  rw [List.all_eq_true]; intro d hd
  obtain ⟨j, hj, e⟩ := List.mem_iff_getElem.1 hd
  exact h j d hj (by rw [List.getElem?_eq_getElem hj, e])
theorem nlB_pts (h1 : inB n.nets 0 24 = true) (h2 : n.ds.length ≤ 24) (h3 : n.ps.length ≤ 8) (h5 : ∀ i, i < n.ps.length → ptOk n.nets n.ps i = true) : nlB n = n.ds.all (dvB n.nets) := by
  have : ptsB n.nets n.ps = true := by unfold ptsB; rw [List.all_eq_true]; intro i hi; exact h5 i (List.mem_range.1 hi)
  simp [nlB, h1, h2, h3, this]
end
end Go.Proofs.Ythcaipohdeigeaa
