/- What the arguments' readings give: one opener a shape. -/
import Derived.Test.YthcaipohdeigeaaRows
import Derived.WalkKit
import Derived.ProofKit
import Derived.OpenShut
import Derived.Lib.SmallJoins
namespace Go.Proofs.Ythcaipohdeigeaa
open Go.ChangeShapes Go.WideShapes Go.ChangeAt Go.RowKit Go.Joins

/-- An int64 that came in. -/
def IsI64 (v : Value) (x : Int) : Prop := v = .int .i64 x ∧ -9223372036854775808 ≤ x ∧ x ≤ 9223372036854775807
def IsBool (v : Value) (x : Bool) : Prop := v = .bool x

theorem wf_i64 {x : Int} (h : (Lit.int .i64 x).wf = true) : -9223372036854775808 ≤ x ∧ x ≤ 9223372036854775807 := by
  exact bounds_i64 h

theorem opened_int {H : Type} {enc : TypeId × Value → H} {P : Program} {W : World} {base b0 : Nat} {r : Reach} {spare : Nat → Bool} {held : Bool} {t : TypeId} {v : Value} {d : DataW H} {p : List MemPlace} (hu : P.underlying t = some (.int .i64))
    (hv : Value.okWide P W r b0 t v) (h : DataW.Trod enc P W base spare held t v d p) : ∃ x, IsI64 v x := by
  obtain ⟨x, rfl, _, _, wx⟩ := open_int hu hv h
  exact ⟨x, rfl, wf_i64 wx⟩
theorem opened_bool {H : Type} {enc : TypeId × Value → H} {P : Program} {W : World} {base b0 : Nat} {r : Reach} {spare : Nat → Bool} {held : Bool} {t : TypeId} {v : Value} {d : DataW H} {p : List MemPlace} (hu : P.underlying t = some .bool)
    (hv : Value.okWide P W r b0 t v) (h : DataW.Trod enc P W base spare held t v d p) : ∃ x, IsBool v x := by
  obtain ⟨x, rfl, _, _⟩ := open_bool hu hv h
  exact ⟨x, rfl⟩

end Go.Proofs.Ythcaipohdeigeaa
