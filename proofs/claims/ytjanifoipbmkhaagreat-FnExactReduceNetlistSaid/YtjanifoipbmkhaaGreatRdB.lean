/- Both ReduceNetlist; bounds of what they answer. -/
import Derived.Test.YtjanifoipbmkhaaGreatImplRd
import Derived.Test.YtjanifoipbmkhaaGreatSpecRd
import Derived.Test.YtjanifoipbmkhaaGreatNls
import Derived.Test.YtjanifoipbmkhaaGreatNlOwns
import Derived.Test.YtjanifoipbmkhaaGreatSoM
namespace Go.Proofs.YtjanifoipbmkhaaGreat
open Go.RowKit
set_option linter.unusedVariables false
theorem dsum_le3 {ds : List Dv} (h : ∀ d ∈ ds, d.pins.length ≤ 3) : dsum ds ≤ 6 * ds.length := by
  induction ds with
  | nil => simp [dsum]
  | cons d ds ih =>
    have h1 := ih (fun e he => h e (List.mem_cons_of_mem _ he))
    have h2 := h d List.mem_cons_self
    simp only [dsum, List.length_cons]
    omega
theorem valid_bounds {z : Nl} (h : nlB z = true) : (∀ d ∈ z.ds, d.pins.length ≤ 1048576) ∧ nsum z ≤ 4000000 := by
  obtain ⟨_, h1, h2, h3, _⟩ := nlB_facts h
  have h4 : ∀ d ∈ z.ds, d.pins.length ≤ 3 := fun d hd => (dvB_pins (h3 d hd)).1
  refine ⟨fun d hd => by have := h4 d hd; omega, ?_⟩
  have := dsum_le3 h4
  unfold nsum
  omega
theorem redk_valid : ∀ (k : Nat) (x : Nl), nlB x = true → (redk k x).2 = 0 → nlB (redk k x).1 = true
  | 0, x, h, _ => h
  | k + 1, x, h, h' => by
    unfold redk at h' ⊢
    split
    · rename_i h1
      rw [if_pos h1] at h'
      split
      · rename_i h2
        rw [if_pos h2] at h'
        exact redk_valid k _ (mgR_facts h2).1 h'
      · rename_i h2
        rw [if_neg h2] at h'
        exact absurd h' h2
    · exact rmS_valid h
theorem rdS_valid {x : Nl} (h : nlB x = true) (h' : rdC x = 0) : nlB (rdS x) = true := by
  have hc : (redF x).2 = 0 := by unfold rdC at h'; rw [if_pos h] at h'; exact h'
  have e : rdS x = cmS (sortS (nrmS (redF x).1)) := (rd_yes (y := (redF x).1) h (by rw [← hc])).1
  rw [e]
  exact cmS_valid (sortS_valid (nrmS_valid (redk_valid _ _ h hc)))
theorem rdS_bounds (x : Nl) : (∀ d ∈ (rdS x).ds, d.pins.length ≤ 1048576) ∧ nsum (rdS x) ≤ 4000000 := by
  have hz : (∀ d ∈ (⟨0, [], []⟩ : Nl).ds, d.pins.length ≤ 1048576) ∧ nsum ⟨0, [], []⟩ ≤ 4000000 := ⟨fun d hd => by simp at hd, by simp [nsum, dsum]⟩
  cases hv : nlB x with
  | false => rw [(rd_no hv).1]; exact hz
  | true =>
    by_cases hc : (redF x).2 = 0
    · exact valid_bounds (rdS_valid hv (by unfold rdC; rw [if_pos hv]; exact hc))
    · rw [(rd_err hv hc).1]; exact hz
theorem implRd_any (x : Nl) (v : Value) (w : World) (h : NlV w v x) (hok : ∀ p ∈ x.ps, p.ok) (hnn : Fits x.nets) :
    Calls Tryz.prog 7 #[v] w fun e w' => ∃ v', e = .returned (.tuple #[v', .int .i64 (rdC x)]) ∧ OwnNl w' w.heap.size w'.heap.size v' (rdS x) ∧ Below w.heap.size w w' := by
  cases hv : nlB x with
  | false => exact implRd_no x v w h hok hnn hv
  | true => exact implRd_yes x v w h hok hnn hv
theorem specRd_any (x : Nl) (v : Value) (w : World) (h : NlV w v x) (hok : ∀ p ∈ x.ps, p.ok) (hnn : Fits x.nets) :
    Calls Tryz.prog 5 #[v] w fun e w' => ∃ v', e = .returned (.tuple #[v', .int .i64 (rdC x)]) ∧ OwnNl w' w.heap.size w'.heap.size v' (rdS x) ∧ Below w.heap.size w w' := by
  cases hv : nlB x with
  | false => exact specRd_no x v w h hok hnn hv
  | true => exact specRd_yes x v w h hok hnn hv
end Go.Proofs.YtjanifoipbmkhaaGreat
