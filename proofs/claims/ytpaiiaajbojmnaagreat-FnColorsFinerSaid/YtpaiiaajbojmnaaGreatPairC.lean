/- Contracts of the functions of package laws over a coloring. -/
import Derived.Test.YtpaiiaajbojmnaaGreatBase
import Derived.Test.YtpaiiaajbojmnaaGreatDevs
import Derived.Test.YtpaiiaajbojmnaaGreatIntB
import Derived.Test.YtpaiiaajbojmnaaGreatMarks
namespace Go.Proofs.YtpaiiaajbojmnaaGreat
open Go.RowKit
set_option linter.unusedVariables false
set_option linter.unusedSimpArgs false

/-- A value that reads as these two lists. -/
def CoV (w : World) (v : Value) (x : List Int × List Int) : Prop := ∃ s1 s2, v = .agg #[s1, s2] ∧ IntSl w s1 x.1 ∧ IntSl w s2 x.2
theorem CoV.by {w w1 : World} {v : Value} {x : List Int × List Int} (hb : Below w.heap.size w w1) (h : CoV w v x) : CoV w1 v x := by
  obtain ⟨s1, s2, h1, h2, h3⟩ := h; exact ⟨s1, s2, h1, h2.by hb, h3.by hb⟩
theorem CoV.sized {w : World} {v : Value} {x : List Int × List Int} (h : CoV w v x) : ∃ a c a' c', v = .agg #[.slice a x.1.length c, .slice a' x.2.length c'] := by
  obtain ⟨s1, s2, rfl, hd, hp⟩ := h
  obtain ⟨a, c, rfl⟩ := hd.len
  obtain ⟨a', c', rfl⟩ := hp.len
  exact ⟨a, c, a', c', rfl⟩

end Go.Proofs.YtpaiiaajbojmnaaGreat
namespace Go.Proofs.YtpaiiaajbojmnaaGreat
open Go.ChangeShapes Go.WideShapes Go.ChangeAt Go.RowKit Go.Joins Go.Deep

/-- A coloring of package laws that came in, by value. -/
def IsCoV (W : World) (v : Value) (x : List Int × List Int) : Prop := CoV W v x ∧ (∀ z ∈ x.1, Fits z) ∧ ∀ z ∈ x.2, Fits z
end Go.Proofs.YtpaiiaajbojmnaaGreat

/- A coloring as argument and result in memory. -/
namespace Go.Proofs.YtpaiiaajbojmnaaGreat
open Go.RowKit
set_option linter.unusedVariables false
set_option linter.unusedSimpArgs false

theorem OwnPr.co {w : World} {lo hi : Nat} {v : Value} {x : List Int × List Int} (h : OwnPr w lo hi v x) : CoV w v x := by
  obtain ⟨s1, s2, l1, h1, l2, h2, e, a, b, c⟩ := h; exact ⟨s1, s2, e, a.sl, b.sl⟩
end Go.Proofs.YtpaiiaajbojmnaaGreat

