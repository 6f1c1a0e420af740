/- Bounds of what SortDevices answers. -/
import Derived.Test.YtpiiccfjkgimfaaSpecSo
import Derived.Test.YtpiiccfjkgimfaaNls
import Derived.Test.YtpiiccfjkgimfaaNlOwns
namespace Go.Proofs.Ytpiiccfjkgimfaa
open Go.RowKit
set_option linter.unusedVariables false
theorem dsum_perm {ds es : List Dv} (h : ds.Perm es) : dsum ds = dsum es := by
  induction h with
  | nil => rfl
  | cons x _ ih => simp [dsum, ih]
  | swap x y l => simp [dsum]; omega
  | trans _ _ ih1 ih2 => exact ih1.trans ih2
theorem soS_bounds {x : Nl} (h : ∀ d ∈ x.ds, d.pins.length ≤ 1048576) (hb : nlSize x.ds x.ps ≤ 1048576) : (∀ d ∈ (soS x).ds, d.pins.length ≤ 1048576) ∧ nsum (soS x) ≤ 4000000 := by
  have hx := nsum_le hb
  cases hv : nlB x with
  | false => rw [soS_no hv]; exact ⟨fun d hd => by simp at hd, by simp [nsum, dsum]⟩
  | true =>
    rw [soS_yes hv]
    refine ⟨fun d hd => h d ((srtD_perm x.ds).mem_iff.1 hd), ?_⟩
    have := dsum_perm (srtD_perm x.ds)
    unfold nsum sortS at *
    dsimp only
    rw [this]
    omega
end Go.Proofs.Ytpiiccfjkgimfaa
