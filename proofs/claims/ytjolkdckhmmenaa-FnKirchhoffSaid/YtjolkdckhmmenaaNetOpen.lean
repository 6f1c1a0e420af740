/- The opener of a network that came in. -/
import Derived.Test.YtjolkdckhmmenaaDevs
import Derived.Test.YtjolkdckhmmenaaRes
namespace Go.Proofs.Ytjolkdckhmmenaa
open Go.ChangeShapes Go.WideShapes Go.ChangeAt Go.RowKit Go.Joins Go.Deep

/-- A network of package laws that came in, by value. -/
def IsNetV (W : World) (v : Value) (x : Int × List Res) : Prop :=
  ∃ sv, v = .agg #[.int .i64 x.1, sv] ∧ (-9223372036854775808 ≤ x.1 ∧ x.1 ≤ 9223372036854775807) ∧ ResSl W sv x.2 ∧ ∀ r ∈ x.2, r.ok
theorem cellsI' : Try.prog.cellsOf 2 = 1 := by kernel_rfl
section
variable {H : Type} {enc : TypeId × Value → H} {W : World} {base : Nat} {spare : Nat → Bool} {held : Bool}
theorem i64_of_cell' {fuel : Nat} {c : Value} {y : Option (DataW H × List MemPlace)} (h : DataW.trod enc Try.prog W base spare held fuel 2 [c] = y) (hy : y.isSome = true) : ∃ n : Int, c = .int .i64 n ∧ (-9223372036854775808 ≤ n ∧ n ≤ 9223372036854775807) := by
  obtain ⟨z, rfl⟩ := Option.isSome_iff_exists.1 hy
  obtain ⟨n, e, _, wn⟩ := DataW.trod_int Try.underlying2 h
  simp at e
  exact ⟨n, e, wf_i64 wn⟩
theorem isSome_of_len' {α : Type} {xs : List α} {n i : Nat} (h : xs.length = n) (hi : i < n) : (xs[i]?).isSome = true := by
  rw [List.getElem?_eq_getElem (by omega)]; rfl

end

end Go.Proofs.Ytjolkdckhmmenaa
