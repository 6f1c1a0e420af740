/- What the arguments' readings give: one opener a shape. -/
import Derived.Test.YtdlnmpkjpdhhpaaRows
import Derived.WalkKit
import Derived.ProofKit
import Derived.OpenShut
import Derived.Lib.SmallJoins
namespace Go.Proofs.Ytdlnmpkjpdhhpaa
open Go.ChangeShapes Go.WideShapes Go.ChangeAt Go.RowKit Go.Joins

/-- An int64 that came in. -/
def IsI64 (v : Value) (x : Int) : Prop := v = .int .i64 x ∧ -9223372036854775808 ≤ x ∧ x ≤ 9223372036854775807
def IsBool (v : Value) (x : Bool) : Prop := v = .bool x

theorem wf_i64 {x : Int} (h : (Lit.int .i64 x).wf = true) : -9223372036854775808 ≤ x ∧ x ≤ 9223372036854775807 := by
  exact bounds_i64 h

theorem opened_int {H : Type} {enc : TypeId × Value → H} {P : Program} {W : World} {base b0 : Nat} {r : Reach} {spare : Nat → Bool} {held : Bool} {t : TypeId} {v : Value} {d : DataW H} {p : List MemPlace} (hu : P.underlying t = some (.int .i64))
    (hv : Value.okWide P W r b0 t v) (h : DataW.Trod enc P W base spare held t v d p) : ∃ x, IsI64 v x := by
  obtain ⟨x, rfl, _, _, wx⟩ := open_int hu hv h
  exact ⟨x, rfl, wf_i64 wx⟩
theorem opened_bool {H : Type} {enc : TypeId × Value → H} {P : Program} {W : World} {base b0 : Nat} {r : Reach} {spare : Nat → Bool} {held : Bool} {t : TypeId} {v : Value} {d : DataW H} {p : List MemPlace} (hu : P.underlying t = some .bool)
    (hv : Value.okWide P W r b0 t v) (h : DataW.Trod enc P W base spare held t v d p) : ∃ x, IsBool v x := by
  obtain ⟨x, rfl, _, _⟩ := open_bool hu hv h
  exact ⟨x, rfl⟩

/-- A ratio of package laws that came in, by value. -/
def IsRatioV (v : Value) (x : Int × Int) : Prop := v = .agg #[.int .i64 x.1, .int .i64 x.2] ∧ (-9223372036854775808 ≤ x.1 ∧ x.1 ≤ 9223372036854775807) ∧ (-9223372036854775808 ≤ x.2 ∧ x.2 ≤ 9223372036854775807)
theorem cellsRatio : Try.prog.cellsOf 41 = 2 := by kernel_rfl
set_option maxRecDepth 100000 in
theorem opened_ratio {H : Type} {enc : TypeId × Value → H} {W : World} {base b0 : Nat} {r : Reach} {spare : Nat → Bool} {held : Bool} {v : Value} {d : DataW H} {p : List MemPlace}
    (hv : Value.okWide Try.prog W r b0 41 v) (h : DataW.Trod enc Try.prog W base spare held 41 v d p) : ∃ x, IsRatioV v x := by
  obtain ⟨c0, c1, y0, y1, m, rfl, rfl, rfl, hy0, hy1⟩ := open_agg2 Try.underlying41 (by kernel_rfl) cellsRatio hv h
  obtain ⟨a, e0, rfl, wa⟩ := DataW.trod_int Try.underlying2 hy0
  obtain ⟨b, e1, rfl, wb⟩ := DataW.trod_int Try.underlying2 hy1
  simp at e0 e1
  subst e0 e1
  exact ⟨(a, b), rfl, wf_i64 wa, wf_i64 wb⟩

/-- A rectangle of package laws that came in, by value. -/
def IsRectV (v : Value) (x : Int × Int × Int × Int) : Prop := v = .agg #[.int .i64 x.1, .int .i64 x.2.1, .int .i64 x.2.2.1, .int .i64 x.2.2.2]
theorem cellsRect : Try.prog.cellsOf 36 = 4 := by kernel_rfl
set_option maxRecDepth 100000 in
theorem opened_rect {H : Type} {enc : TypeId × Value → H} {W : World} {base b0 : Nat} {r : Reach} {spare : Nat → Bool} {held : Bool} {v : Value} {d : DataW H} {p : List MemPlace}
    (hv : Value.okWide Try.prog W r b0 36 v) (h : DataW.Trod enc Try.prog W base spare held 36 v d p) : ∃ x, IsRectV v x := by
  obtain ⟨c0, c1, c2, c3, y0, y1, y2, y3, m, rfl, rfl, rfl, hy0, hy1, hy2, hy3⟩ := open_agg4 Try.underlying36 (by kernel_rfl) cellsRect hv h
  obtain ⟨a, e0, _, _⟩ := DataW.trod_int Try.underlying2 hy0
  obtain ⟨b, e1, _, _⟩ := DataW.trod_int Try.underlying2 hy1
  obtain ⟨c, e2, _, _⟩ := DataW.trod_int Try.underlying2 hy2
  obtain ⟨d, e3, _, _⟩ := DataW.trod_int Try.underlying2 hy3
  simp at e0 e1 e2 e3
  subst e0 e1 e2 e3
  exact ⟨(a, b, c, d), rfl⟩
end Go.Proofs.Ytdlnmpkjpdhhpaa
