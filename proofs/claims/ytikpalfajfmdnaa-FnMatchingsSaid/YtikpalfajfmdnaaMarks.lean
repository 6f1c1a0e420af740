/- Slices of devices and of ports in memory of the call's own. -/
import Derived.Test.YtikpalfajfmdnaaNormB
import Derived.Test.YtikpalfajfmdnaaNls
import Derived.Test.YtikpalfajfmdnaaMText
namespace Go.Proofs.Ytikpalfajfmdnaa
open Go.RowKit
set_option linter.unusedVariables false
set_option linter.unusedSimpArgs false

section
variable {w w' : World} {lo hi lo' hi' : Nat} {sv : Value} {ds : List Dv} {ps : List Pt}
end

/-- What a device, a slice of devices, of ports takes up in marks. -/
def dsum : List Dv → Int
  | [] => 0
  | d :: ds => 3 + d.pins.length + dsum ds
theorem dsum_nonneg : ∀ ds : List Dv, 0 ≤ dsum ds
  | [] => by simp [dsum]
  | d :: ds => by have := dsum_nonneg ds; simp only [dsum]; omega
theorem dsum_take (ds : List Dv) (k : Nat) (d : Dv) (h : ds[k]? = some d) : dsum (ds.take (k + 1)) = dsum (ds.take k) + (3 + d.pins.length) := by
  induction ds generalizing k with
  | nil => simp at h
  | cons y ys ih =>
    cases k with
    | zero => simp at h; subst h; simp [dsum]
    | succ k => simp at h; have := ih k h; simp only [List.take_succ_cons, dsum]; omega
theorem dsum_mono (ds : List Dv) (k : Nat) : dsum (ds.take k) ≤ dsum ds := by
  induction ds generalizing k with
  | nil => simp
  | cons y ys ih =>
    cases k with
    | zero => simp [dsum]; have := dsum_nonneg ys; omega
    | succ k => have := ih k; simp only [List.take_succ_cons, dsum]; omega
/-- A marked device. -/
def mkd (k : Int) (n : Nat) : Dv := ⟨k, marks (k + 1) n, k + 1 + n, k + 2 + n⟩
def markDs (k : Int) : List Dv → List Dv
  | [] => []
  | d :: ds => mkd k d.pins.length :: markDs (k + (3 + d.pins.length)) ds
theorem length_markDs (k : Int) (ds : List Dv) : (markDs k ds).length = ds.length := by
  induction ds generalizing k with
  | nil => rfl
  | cons d ds ih => simp [markDs, ih]
theorem markDs_get (k : Int) (ds : List Dv) (i : Nat) (d : Dv) (h : ds[i]? = some d) : (markDs k ds)[i]? = some (mkd (k + dsum (ds.take i)) d.pins.length) := by
  induction ds generalizing k i with
  | nil => simp at h
  | cons y ys ih =>
    cases i with
    | zero => simp at h; subst h; simp [markDs, dsum]
    | succ i =>
      simp at h
      simp only [markDs, List.getElem?_cons_succ, List.take_succ_cons, dsum]
      rw [ih _ i h]; congr 2; omega
theorem markDs_inv (k : Int) (ds : List Dv) (i : Nat) (y : Dv) (h : (markDs k ds)[i]? = some y) : ∃ d, ds[i]? = some d ∧ y = mkd (k + dsum (ds.take i)) d.pins.length := by
  have hi : i < ds.length := by have := (List.getElem?_eq_some_iff.1 h).1; rwa [length_markDs] at this
  refine ⟨ds[i], List.getElem?_eq_getElem hi, ?_⟩
  rw [markDs_get k ds i ds[i] (List.getElem?_eq_getElem hi)] at h
  exact (Option.some.inj h).symm
end Go.Proofs.Ytikpalfajfmdnaa

/- markDeviceS and heldDeviceS. -/
namespace Go.Proofs.Ytikpalfajfmdnaa
open Go.RowKit
set_option linter.unusedVariables false
set_option linter.unusedSimpArgs false

theorem Within.sub {lo hi lo' hi' : Nat} {w w' : World} (h : Within lo hi w w') (h1 : lo' ≤ lo) (h2 : hi ≤ hi') : Within lo' hi' w w' := ⟨h.os, h.tape, h.output, h.size, fun k hk hk' => h.block k hk (by omega)⟩

def set3 (cs : Array Value) (k : Nat) (u v z : Value) : Array Value := ((cs.setIfInBounds (k * 4) u).setIfInBounds (k * 4 + 2) v).setIfInBounds (k * 4 + 3) z
theorem set3_other {cs : Array Value} {j k : Nat} {a b c d : Value} (u v z : Value) (hne : j ≠ k) (h : Cs4 cs j a b c d) : Cs4 (set3 cs k u v z) j a b c d := by
  obtain ⟨h1, h2, h3, h4⟩ := h
  refine ⟨?_, ?_, ?_, ?_⟩ <;> simp only [set3, Array.getElem?_setIfInBounds, Array.size_setIfInBounds] <;> (repeat rw [if_neg (by omega)]) <;> assumption
theorem set3_same {cs : Array Value} {k : Nat} {b : Value} (u v z : Value) (hb : cs[k * 4 + 1]? = some b) (hs : k * 4 + 3 < cs.size) : Cs4 (set3 cs k u v z) k u b v z := by
  refine ⟨?_, ?_, ?_, ?_⟩ <;> simp only [set3, Array.getElem?_setIfInBounds, Array.size_setIfInBounds] <;> repeat (first | rw [if_pos trivial] | rw [if_pos (by omega)] | rw [if_neg (by omega)] | assumption)

end Go.Proofs.Ytikpalfajfmdnaa

/- markPortS and heldPortS. -/
namespace Go.Proofs.Ytikpalfajfmdnaa
open Go.RowKit
set_option linter.unusedVariables false
set_option linter.unusedSimpArgs false

def markPs (k n : Nat) : List Pt := (List.range n).map fun i => ⟨mtxt (k + 2 * i), ((k + 2 * i + 1 : Nat) : Int)⟩
theorem length_markPs (k n : Nat) : (markPs k n).length = n := by simp [markPs]
theorem markPs_get (k n i : Nat) (h : i < n) : (markPs k n)[i]? = some ⟨mtxt (k + 2 * i), ((k + 2 * i + 1 : Nat) : Int)⟩ := by simp [markPs, h]

end Go.Proofs.Ytikpalfajfmdnaa

/- toDeviceS, toPortS, toNetlist: with the memory of the call's own; marking netlists. -/
namespace Go.Proofs.Ytikpalfajfmdnaa
open Go.RowKit
set_option linter.unusedVariables false
set_option linter.unusedSimpArgs false

end Go.Proofs.Ytikpalfajfmdnaa
