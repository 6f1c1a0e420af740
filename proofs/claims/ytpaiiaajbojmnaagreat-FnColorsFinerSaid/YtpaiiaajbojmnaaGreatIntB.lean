/- Slices of int64 as arguments and results of a statement: one form for all. -/
import Derived.Test.YtpaiiaajbojmnaaGreatNormB
import Derived.Test.YtpaiiaajbojmnaaGreatDevs
import Derived.ProofKit
import Derived.OpenShut
namespace Go.Proofs.YtpaiiaajbojmnaaGreat
open Go.RowKit
set_option linter.unusedVariables false
set_option linter.unusedSimpArgs false

theorem size_drewN (w : World) (n : Nat) : (w.drewN n).heap.size = w.heap.size := rfl
theorem Blk.set3 {w : World} {g : Nat} {T : TypeId} {a b c x y z : Value} (h : Blk w g #[a, b, c] T) : Blk (((w.setCell ⟨g, 0, none⟩ x).setCell ⟨g, 1, none⟩ y).setCell ⟨g, 2, none⟩ z) g #[x, y, z] T := ((h.set 0 x).set 1 y).set 2 z
/-- A slice of int64 that came in. -/
def IsIntSl (w : World) (v : Value) (x : List Int) : Prop := IntSl w v x ∧ ∀ z ∈ x, Fits z
section
variable {w w' : World} {lo hi lo' hi' : Nat} {v : Value} {zs : List Int}
theorem OwnR.wide' (h : OwnR w lo hi v zs) (h1 : lo' ≤ lo) (h2 : hi ≤ hi') : OwnR w lo' hi' v zs := by
  rcases h with h | ⟨g, cap, cs, e1, e2, e2', e3⟩
  · exact .inl h
  · exact .inr ⟨g, cap, cs, e1, by omega, by omega, e3⟩
end
/-- Two slices of int64 in memory of the call's own: the pair of lists that they hold. -/
def OwnPr (w : World) (lo hi : Nat) (v : Value) (x : List Int × List Int) : Prop := ∃ s1 s2 l1 h1 l2 h2, v = .agg #[s1, s2] ∧ OwnR w l1 h1 s1 x.1 ∧ OwnR w l2 h2 s2 x.2 ∧ (lo ≤ l1 ∧ h1 ≤ hi) ∧ (lo ≤ l2 ∧ h2 ≤ hi) ∧ (h1 ≤ l2 ∨ h2 ≤ l1)
section
variable {w w' : World} {lo hi lo' hi' : Nat} {v : Value} {x : List Int × List Int}
theorem OwnPr.by (hb : Below w.heap.size w w') (h : OwnPr w lo hi v x) : OwnPr w' lo hi v x := by
  obtain ⟨s1, s2, l1, h1, l2, h2, e, a, b, c⟩ := h; exact ⟨s1, s2, l1, h1, l2, h2, e, OwnR.by hb a, OwnR.by hb b, c⟩
theorem OwnPr.past (hb : Within lo' hi' w w') (h : OwnPr w lo hi v x) (hd : hi ≤ lo' ∨ hi' ≤ lo) : OwnPr w' lo hi v x := by
  obtain ⟨s1, s2, l1, h1, l2, h2, e, a, b, c, d, f⟩ := h; exact ⟨s1, s2, l1, h1, l2, h2, e, OwnR.past hb a (by omega), OwnR.past hb b (by omega), c, d, f⟩
theorem OwnPr.wide (h : OwnPr w lo hi v x) (h1 : lo' ≤ lo) (h2 : hi ≤ hi') : OwnPr w lo' hi' v x := by
  obtain ⟨s1, s2, l1, h1, l2, h2, e, a, b, c, d, f⟩ := h; exact ⟨s1, s2, l1, h1, l2, h2, e, a, b, by omega, by omega, f⟩
end
def prsum (x : List Int × List Int) : Nat := x.1.length + x.2.length
def markPr (k : Nat) (x : List Int × List Int) : List Int × List Int := (marks k x.1.length, marks ((k + x.1.length : Nat) : Int) x.2.length)
end Go.Proofs.YtpaiiaajbojmnaaGreat

/- A slice of int64 that came in as an argument. -/
namespace Go.Proofs.YtpaiiaajbojmnaaGreat
open Go.ChangeShapes Go.WideShapes Go.ChangeAt Go.RowKit Go.Joins
set_option linter.unusedVariables false
set_option maxRecDepth 100000 in
theorem opened_ints {H : Type} {enc : TypeId × Value → H} {W : World} {base b0 : Nat} {r : Reach} {spare : Nat → Bool} {held : Bool} {v : Value} {d : DataW H} {p : List MemPlace}
    (hv : Value.okWide Tryz.prog W r b0 28 v) (h : DataW.Trod enc Tryz.prog W base spare held 28 v d p) : ∃ x, IsIntSl W v x := by
  obtain ⟨a, n, c, rfl⟩ := okWide_slice Tryz.underlying28 hv
  obtain ⟨m, hm⟩ := h
  obtain ⟨zs, h1, h2⟩ := ints_of_cell (c := .slice a n c) hm
  exact ⟨zs, h1, h2⟩
end Go.Proofs.YtpaiiaajbojmnaaGreat
