/- Contracts of the functions of package laws over netlists. -/
import Derived.Test.YtikpalfajfmdnaaPorts
import Derived.Test.YtikpalfajfmdnaaDevs
import Derived.Deep.Slices
namespace Go.Proofs.Ytikpalfajfmdnaa
open Go.RowKit
set_option linter.unusedVariables false
set_option linter.unusedSimpArgs false

def nlSize (ds : List Dv) (ps : List Pt) : Int := ds.length + pinsAll ds + ps.length + namesAll ps

end Go.Proofs.Ytikpalfajfmdnaa

/- toNetlist and eqNetlist. -/
namespace Go.Proofs.Ytikpalfajfmdnaa
open Go.RowKit
set_option linter.unusedVariables false
set_option linter.unusedSimpArgs false

end Go.Proofs.Ytikpalfajfmdnaa

/- eqNetlist over two netlists that read alike. -/
namespace Go.Proofs.Ytikpalfajfmdnaa
open Go.RowKit
set_option linter.unusedVariables false
set_option linter.unusedSimpArgs false

/-- A netlist by value. -/
structure Nl where
  nets : Int
  ds : List Dv
  ps : List Pt
/-- A value that reads as this netlist. -/
def NlV (w : World) (v : Value) (x : Nl) : Prop := ∃ s1 s2, v = .agg #[.int .i64 x.nets, s1, s2] ∧ DvSl w s1 x.ds ∧ PtSl w s2 x.ps
theorem NlV.by {w w1 : World} {v : Value} {x : Nl} (hb : Below w.heap.size w w1) (h : NlV w v x) : NlV w1 v x := by
  obtain ⟨s1, s2, h1, h2, h3⟩ := h; exact ⟨s1, s2, h1, h2.by hb, h3.by hb⟩

end Go.Proofs.Ytikpalfajfmdnaa

/- The opener of a netlist that came in. -/
namespace Go.Proofs.Ytikpalfajfmdnaa
open Go.ChangeShapes Go.WideShapes Go.ChangeAt Go.RowKit Go.Joins Go.Deep

theorem pick_list {α : Type} (At : Nat → α → Prop) (ok : α → Prop) (len : Nat) (each : ∀ i, i < len → ∃ x, At i x ∧ ok x) : ∃ xs : List α, xs.length = len ∧ (∀ (i : Nat) x, xs[i]? = some x → At i x) ∧ ∀ r ∈ xs, ok r := by
  induction len with
  | zero => exact ⟨[], rfl, by simp, by simp⟩
  | succ n ih =>
    obtain ⟨xs, h1, h2, h3⟩ := ih (fun i hi => each i (by omega))
    obtain ⟨x, ha, ho⟩ := each n (by omega)
    refine ⟨xs ++ [x], by simp [h1], ?_, ?_⟩
    · intro i y hy
      by_cases hi : i < n
      · rw [List.getElem?_append_left (by omega)] at hy; exact h2 i y hy
      · have : i < (xs ++ [x]).length := (List.getElem?_eq_some_iff.1 hy).1
        simp [h1] at this
        obtain rfl : i = n := by omega
        rw [List.getElem?_append_right (by omega)] at hy
        simp [h1] at hy
        subst hy; exact ha
    · intro r hr
      rcases List.mem_append.1 hr with hr | hr
      · exact h3 r hr
      · simp at hr; subst hr; exact ho

/-- A netlist of package laws that came in, by value. -/
def IsNlV (W : World) (v : Value) (x : Nl) : Prop := NlV W v x ∧ Fits x.nets ∧ (∀ d ∈ x.ds, d.ok) ∧ ∀ p ∈ x.ps, p.ok
theorem cellsIs : Try.prog.cellsOf 24 = 1 := by kernel_rfl
theorem cellsI : Try.prog.cellsOf 2 = 1 := by kernel_rfl
theorem cellsStr : Try.prog.cellsOf 9 = 1 := by kernel_rfl

section
variable {H : Type} {enc : TypeId × Value → H} {W : World} {base : Nat} {spare : Nat → Bool} {held : Bool}
theorem i64_of_cell {fuel : Nat} {c : Value} {y : Option (DataW H × List MemPlace)} (h : DataW.trod enc Try.prog W base spare held fuel 2 [c] = y) (hy : y.isSome = true) : ∃ n : Int, c = .int .i64 n ∧ Fits n := by
  obtain ⟨z, rfl⟩ := Option.isSome_iff_exists.1 hy
  obtain ⟨n, e, _, wn⟩ := DataW.trod_int Try.underlying2 h
  simp at e
  exact ⟨n, e, wf_i64 wn⟩
theorem str_of_cell {fuel : Nat} {c : Value} {y : Option (DataW H × List MemPlace)} (h : DataW.trod enc Try.prog W base spare held fuel 9 [c] = y) (hy : y.isSome = true) : ∃ s : ByteArray, c = .string s ∧ s.size ≤ 9223372036854775807 := by
  obtain ⟨z, rfl⟩ := Option.isSome_iff_exists.1 hy
  obtain ⟨n, e, _, wn⟩ := DataW.trod_string Try.underlying9 h
  simp at e
  exact ⟨n, e, by unfold maxLen at wn; omega⟩
theorem isSome_of_len {α : Type} {xs : List α} {n i : Nat} (h : xs.length = n) (hi : i < n) : (xs[i]?).isSome = true := by
  rw [List.getElem?_eq_getElem (by omega)]; rfl

end

end Go.Proofs.Ytikpalfajfmdnaa

/- Small laws on netlists for the walks of the statements. -/
namespace Go.Proofs.Ytikpalfajfmdnaa
open Go.RowKit
theorem mem_pinsAll (xs : List Dv) (d : Dv) (h : d ∈ xs) : (d.pins.length : Int) ≤ pinsAll xs := by
  induction xs with
  | nil => simp at h
  | cons y ys ih =>
    have h0 := pinsAll_nonneg ys
    rcases List.mem_cons.1 h with rfl | h
    · simp only [pinsAll]; omega
    · have := ih h; simp only [pinsAll]; omega
theorem nlSize_bounds {x : Nl} (h : ¬ (1048576 : Int) < nlSize x.ds x.ps) : x.ds.length ≤ 1048576 ∧ (∀ d ∈ x.ds, d.pins.length ≤ 1048576) ∧ x.ps.length ≤ 1048576 := by
  unfold nlSize at h
  have h1 := pinsAll_nonneg x.ds
  have h2 := namesAll_nonneg x.ps
  refine ⟨by omega, fun d hd => ?_, by omega⟩
  have := mem_pinsAll x.ds d hd
  omega
theorem nlSize_nonneg (x : Nl) : 0 ≤ nlSize x.ds x.ps := by
  unfold nlSize
  have h1 := pinsAll_nonneg x.ds
  have h2 := namesAll_nonneg x.ps
  omega
theorem NlV.sized {w : World} {v : Value} {x : Nl} (h : NlV w v x) : ∃ a c a' c', v = .agg #[.int .i64 x.nets, .slice a x.ds.length c, .slice a' x.ps.length c'] := by
  obtain ⟨s1, s2, rfl, hd, hp⟩ := h
  obtain ⟨a, c, rfl⟩ := hd.sized
  obtain ⟨a', c', rfl⟩ := hp.sized
  exact ⟨a, c, a', c', rfl⟩
end Go.Proofs.Ytikpalfajfmdnaa
