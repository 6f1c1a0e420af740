/- The reference's l30Ports. -/
import Derived.Test.YtpaiiaajbojmnaaGreatIsoM
import Derived.Test.YtpaiiaajbojmnaaGreatNls
import Derived.Test.YtpaiiaajbojmnaaGreatValid0
import Derived.BigRegion
import Derived.BigQuiet
namespace Go.Proofs.YtpaiiaajbojmnaaGreat
open Go.RowKit
set_option linter.unusedVariables false
set_option linter.unusedSimpArgs false

theorem nlV_parts {w : World} {nets : Int} {s1 s2 : Value} {x : Nl} (h : NlV w (.agg #[.int .i64 nets, s1, s2]) x) : DvSl w s1 x.ds ∧ PtSl w s2 x.ps := by
  obtain ⟨t1, t2, e, h1, h2⟩ := h
  simp at e
  obtain ⟨_, rfl, rfl⟩ := e
  exact ⟨h1, h2⟩
theorem nl_netsI {x : Nl} (h : nlB x = true) : ∀ p ∈ x.ps, 0 ≤ p.net ∧ p.net < x.nets := by
  intro p hp
  obtain ⟨i, hi, e⟩ := List.mem_iff_getElem.1 hp
  have := (nlB_facts h).2.2.2.2 i hi
  have hg : x.ps[i]? = some p := by rw [List.getElem?_eq_getElem hi, e]
  simp only [ptOk, hg, Bool.and_eq_true] at this
  have h2 := inB_iff.1 this.2.1
  omega

end Go.Proofs.YtpaiiaajbojmnaaGreat
