/- What a coloring of a valid netlist gives. -/
import Derived.Test.YtjldkejegdljiaaIsCol
import Derived.Test.YtjldkejegdljiaaParB
import Derived.Test.YtjldkejegdljiaaValid0
import Derived.Test.YtjldkejegdljiaaNls
namespace Go.Proofs.Ytjldkejegdljiaa
open Go.RowKit
set_option linter.unusedVariables false

/-- What a coloring of a valid netlist gives. -/
theorem coB_facts {x : Nl} {c : List Int × List Int} (h : coB x c = true) : x.ds.length ≤ 24 ∧ c.1.length ≤ 24 ∧ c.2.length = x.ds.length ∧ (∀ d ∈ x.ds, Shp d ∧ ∀ p ∈ d.pins, 0 ≤ p ∧ p < c.1.length) := by
  simp only [coB, colsB, Bool.and_eq_true, decide_eq_true_eq] at h
  obtain ⟨hb, ⟨_, h1⟩, _, h2⟩ := h
  obtain ⟨⟨_, hn1⟩, hd24, _, hdv, _⟩ := nlB_facts hb
  exact ⟨hd24, by omega, by omega, fun d hd => ⟨shp_of (hdv d hd), fun p hp => by have := (dvB_pins (hdv d hd)).2.2 p hp; omega⟩⟩
end Go.Proofs.Ytjldkejegdljiaa
