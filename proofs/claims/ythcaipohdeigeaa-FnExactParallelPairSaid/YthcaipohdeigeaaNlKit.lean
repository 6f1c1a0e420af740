/- Small laws on netlists for the walks of the statements. -/
import Derived.Test.YthcaipohdeigeaaNlOpen
namespace Go.Proofs.Ythcaipohdeigeaa
open Go.RowKit
theorem mem_pinsAll (xs : List Dv) (d : Dv) (h : d ∈ xs) : (d.pins.length : Int) ≤ pinsAll xs := by
  induction xs with
  | nil => simp at h
  | cons y ys ih =>
    have h0 := pinsAll_nonneg ys
    rcases List.mem_cons.1 h with rfl | h
    · simp only [pinsAll]; omega
    · have := ih h; simp only [pinsAll]; omega
theorem nlSize_bounds {x : Nl} (h : ¬ (1048576 : Int) < nlSize x.ds x.ps) : x.ds.length ≤ 1048576 ∧ (∀ d ∈ x.ds, d.pins.length ≤ 1048576) ∧ x.ps.length ≤ 1048576 := by
  unfold nlSize at h
  have h1 := pinsAll_nonneg x.ds
  have h2 := namesAll_nonneg x.ps
  refine ⟨by omega, fun d hd => ?_, by omega⟩
  have := mem_pinsAll x.ds d hd
  omega
theorem nlSize_nonneg (x : Nl) : 0 ≤ nlSize x.ds x.ps := by
  unfold nlSize
  have h1 := pinsAll_nonneg x.ds
  have h2 := namesAll_nonneg x.ps
  omega
theorem NlV.sized {w : World} {v : Value} {x : Nl} (h : NlV w v x) : ∃ a c a' c', v = .agg #[.int .i64 x.nets, .slice a x.ds.length c, .slice a' x.ps.length c'] := by
  obtain ⟨s1, s2, rfl, hd, hp⟩ := h
  obtain ⟨a, c, rfl⟩ := hd.sized
  obtain ⟨a', c', rfl⟩ := hp.sized
  exact ⟨a, c, a', c', rfl⟩
/-- szNetlist of a netlist as it came in. -/
theorem szNl_any (v : Value) (x : Nl) (l : Int) (w : World) (h : NlV w v x) (hok : ∀ p ∈ x.ps, p.ok) (hl : 0 ≤ l) (hl' : l ≤ 1048576) :
    Calls Try.prog 24 #[v, .int .i64 l] w fun e w' => e = .returned (.int .i64 (if l < nlSize x.ds x.ps then -1 else l - nlSize x.ds x.ps)) ∧ Below w.heap.size w w' := by
  obtain ⟨s1, s2, rfl, hd, hp⟩ := h
  exact szNetlist_any x.nets s1 s2 x.ds x.ps l w hd hp hok hl hl'
end Go.Proofs.Ythcaipohdeigeaa
