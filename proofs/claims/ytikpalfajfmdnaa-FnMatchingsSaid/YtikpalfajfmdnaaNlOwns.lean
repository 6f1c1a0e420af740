/- Netlists in memory of the call's own; marking them. -/
import Derived.Test.YtikpalfajfmdnaaMarks
import Derived.Test.YtikpalfajfmdnaaNls
namespace Go.Proofs.Ytikpalfajfmdnaa
open Go.RowKit
set_option linter.unusedVariables false
set_option linter.unusedSimpArgs false

section
variable {w w' : World} {lo hi lo' hi' : Nat} {v : Value} {x : Nl}
end
def nsum (x : Nl) : Nat := (dsum x.ds).toNat + 2 * x.ps.length
/-- A marked netlist. -/
def markNl (k : Nat) (x : Nl) : Nl := ⟨x.nets, markDs k x.ds, markPs (k + (dsum x.ds).toNat) x.ps.length⟩

theorem Within.off {g o : Nat} {w : World} (v : Value) : Within g (g + 1) w (w.setCell ⟨g, o, none⟩ v) := Within.set (Within.refl g (g + 1) w) g o v (Nat.le_refl _) (by omega)

end Go.Proofs.Ytikpalfajfmdnaa

/- What a netlist's marks come to. -/
namespace Go.Proofs.Ytikpalfajfmdnaa
open Go.RowKit
set_option linter.unusedVariables false
theorem dsum_pins (ds : List Dv) : dsum ds = 3 * (ds.length : Int) + pinsAll ds := by
  induction ds with
  | nil => simp [dsum, pinsAll]
  | cons d ds ih => simp only [dsum, pinsAll, ih, List.length_cons]; omega
theorem nsum_le {x : Nl} (h : nlSize x.ds x.ps ≤ 1048576) : nsum x ≤ 4000000 := by
  unfold nlSize at h
  have h1 := pinsAll_nonneg x.ds
  have h2 := namesAll_nonneg x.ps
  have h3 := dsum_pins x.ds
  unfold nsum
  omega
theorem dsum_filter (p : Dv → Bool) (ds : List Dv) : dsum (ds.filter p) ≤ dsum ds := by
  induction ds with
  | nil => simp [dsum]
  | cons d ds ih =>
    have := dsum_nonneg ds
    cases hp : p d with
    | true => simp only [List.filter_cons, hp, dsum, if_true]; omega
    | false => simp only [List.filter_cons, hp, dsum, Bool.false_eq_true, if_false]; omega
end Go.Proofs.Ytikpalfajfmdnaa
