/- ResistorCurrents: the reference's. -/
import Derived.Test.YtjolkdckhmmenaaCheck
import Derived.Test.YtjolkdckhmmenaaSolve
import Derived.Deep.DeepCutAuto
import Derived.Deep.RegionHeld3
namespace Go.Proofs.Ytjolkdckhmmenaa
open Go.RowKit
set_option linter.unusedVariables false
set_option linter.unusedSimpArgs false

theorem within_cell {lo hi b o : Nat} {w w' : World} {v : Value} (h : Within lo hi w w') (hc : w.cell? ⟨b, o, none⟩ = some v) (hne : b < lo ∨ hi ≤ b) : w'.cell? ⟨b, o, none⟩ = some v := by
  have hlt : b < w.heap.size := by
    rcases Nat.lt_or_ge b w.heap.size with h' | h'
    · exact h'
    · simp [World.cell?, Array.getElem?_eq_none h'] at hc
  have e := h.block b hlt hne
  simp only [World.cell?] at hc ⊢
  rw [e]; exact hc
end Go.Proofs.Ytjolkdckhmmenaa
