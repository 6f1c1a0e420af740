/- A string that came in. -/
import Derived.Test.YtglddnkpccgchaaDoorNls
import Derived.ProofKit
import Derived.OpenShut
import Derived.ShutString
import Derived.ChangeMaps5
namespace Go.Proofs.YtglddnkpccgchaaDoor
open Go.RowKit Go.ChangeShapes Go.WideShapes Go.ChangeAt
open Go.ChangeMaps (open_string)
set_option linter.unusedVariables false
def IsStr (v : Value) (s : ByteArray) : Prop := v = .string s ∧ s.size ≤ 9223372036854775807
set_option maxRecDepth 100000 in
theorem opened_str {H : Type} {enc : TypeId × Value → H} {W : World} {base b0 : Nat} {r : Reach} {spare : Nat → Bool} {held : Bool} {v : Value} {d : DataW H} {p : List MemPlace}
    (hv : Value.okWide Tryd.prog W r b0 9 v) (h : DataW.Trod enc Tryd.prog W base spare held 9 v d p) : ∃ x, IsStr v x := by
  obtain ⟨s, rfl, _, _, hs⟩ := open_string Tryd.underlying9 hv h
  exact ⟨s, rfl, by unfold maxLen at hs; omega⟩
end Go.Proofs.YtglddnkpccgchaaDoor
