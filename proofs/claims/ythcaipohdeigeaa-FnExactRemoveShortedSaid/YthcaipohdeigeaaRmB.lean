/- Bounds of what RemoveShorted answers; both contracts. -/
import Derived.Test.YthcaipohdeigeaaImplRm
import Derived.Test.YthcaipohdeigeaaNls
namespace Go.Proofs.Ythcaipohdeigeaa
open Go.RowKit
set_option linter.unusedVariables false
theorem namesAll_nn (ps : List Pt) : 0 ≤ namesAll ps := namesAll_nonneg ps
theorem dsum_pins (ds : List Dv) : dsum ds = 3 * (ds.length : Int) + pinsAll ds := by
  induction ds with
  | nil => simp [dsum, pinsAll]
  | cons d ds ih => simp only [dsum, pinsAll, ih, List.length_cons]; omega
theorem nsum_le {x : Nl} (h : nlSize x.ds x.ps ≤ 1048576) : nsum x ≤ 4000000 := by
  unfold nlSize at h
  have h1 := pinsAll_nonneg x.ds
  have h2 := namesAll_nonneg x.ps
  have h3 := dsum_pins x.ds
  unfold nsum
  omega
theorem dsum_filter (p : Dv → Bool) (ds : List Dv) : dsum (ds.filter p) ≤ dsum ds := by
  induction ds with
  | nil => simp [dsum]
  | cons d ds ih =>
    have := dsum_nonneg ds
    cases hp : p d with
    | true => simp only [List.filter_cons, hp, dsum, if_true]; omega
    | false => simp only [List.filter_cons, hp, dsum, Bool.false_eq_true, if_false]; omega
theorem rmS_bounds {x : Nl} (h : ∀ d ∈ x.ds, d.pins.length ≤ 1048576) (hb : nlSize x.ds x.ps ≤ 1048576) : (∀ d ∈ (rmS x).ds, d.pins.length ≤ 1048576) ∧ nsum (rmS x) ≤ 4000000 := by
  have hx := nsum_le hb
  cases hv : nlB x with
  | false => rw [rmS_no hv]; exact ⟨fun d hd => by simp at hd, by simp [nsum, dsum]⟩
  | true =>
    rw [rmS_yes hv]
    refine ⟨fun d hd => h d (List.mem_filter.1 hd).1, ?_⟩
    have := dsum_filter okD x.ds
    unfold nsum at hx ⊢
    dsimp only
    omega
theorem implRm_any (x : Nl) (v : Value) (w : World) (h : NlV w v x) (hok : ∀ p ∈ x.ps, p.ok) (hnn : Fits x.nets) :
    Calls Try.prog 46 #[v] w fun e w' => ∃ v', e = .returned v' ∧ OwnNl w' w.heap.size w'.heap.size v' (rmS x) ∧ Below w.heap.size w w' := by
  cases hv : nlB x with
  | false => exact implRm_no x v w h hok hnn hv
  | true => exact implRm_yes x v w h hok hnn hv
theorem specRmS_any (x : Nl) (v : Value) (w : World) (h : NlV w v x) (hok : ∀ p ∈ x.ps, p.ok) (hnn : Fits x.nets) :
    Calls Try.prog 45 #[v] w fun e w' => ∃ v', e = .returned v' ∧ OwnNl w' w.heap.size w'.heap.size v' (rmS x) ∧ Below w.heap.size w w' := by
  cases hv : nlB x with
  | false => exact specRm_no x v w h hok hnn hv
  | true => exact specRm_yes x v w h hok hnn hv
end Go.Proofs.Ythcaipohdeigeaa
