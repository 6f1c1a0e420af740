/- A slice of int64 that came in as an argument. -/
import Derived.Test.YtadfjndjmfnmgaaInts
import Derived.Test.YtadfjndjmfnmgaaDevs
import Derived.ProofKit
import Derived.OpenShut
namespace Go.Proofs.Ytadfjndjmfnmgaa
open Go.ChangeShapes Go.WideShapes Go.ChangeAt Go.RowKit Go.Joins
set_option linter.unusedVariables false
set_option maxRecDepth 100000 in
theorem opened_ints {H : Type} {enc : TypeId × Value → H} {W : World} {base b0 : Nat} {r : Reach} {spare : Nat → Bool} {held : Bool} {v : Value} {d : DataW H} {p : List MemPlace}
    (hv : Value.okWide Try.prog W r b0 26 v) (h : DataW.Trod enc Try.prog W base spare held 26 v d p) : ∃ x, IsIntSl W v x := by
  obtain ⟨a, n, c, rfl⟩ := okWide_slice Try.underlying26 hv
  obtain ⟨m, hm⟩ := h
  obtain ⟨zs, h1, h2⟩ := ints_of_cell (c := .slice a n c) hm
  exact ⟨zs, h1, h2⟩
end Go.Proofs.Ytadfjndjmfnmgaa
