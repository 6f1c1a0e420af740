/- Slices of bytes, as the draws read them. -/
import Derived.Test.YtpiiccfjkgimfaaBase
namespace Go.Proofs.Ytpiiccfjkgimfaa
open Go.RowKit
set_option linter.unusedVariables false
set_option linter.unusedSimpArgs false

/-- A slice of bytes, as the dice reads it: each element's cell holds a byte. -/
def Bytes (w : World) (v : Value) (n : Nat) : Prop :=
  (∃ a c, v = .slice a 0 c ∧ n = 0) ∨ ∃ b off cap, v = .slice (some ⟨b, off, none⟩) n cap ∧ n ≤ cap ∧ cap ≤ maxLen ∧ ∀ i, i < n → ∃ x : Int, w.cell? ⟨b, off + i, none⟩ = some (.int .u8 x) ∧ 0 ≤ x ∧ x ≤ 255

theorem Bytes.by {w w1 : World} {v : Value} {n : Nat} (hb : Below w.heap.size w w1) (h : Bytes w v n) : Bytes w1 v n := by
  rcases h with h | ⟨b, off, cap, h1, h2, h3, h4⟩
  · exact .inl h
  · refine .inr ⟨b, off, cap, h1, h2, h3, fun i hi => ?_⟩
    obtain ⟨x, hx, h5⟩ := h4 i hi
    exact ⟨x, cell_by' hb hx, h5⟩

theorem big_any (v : Value) (n : Nat) (w : World) (h : Bytes w v n) :
    Calls Try.prog 23 #[v] w fun e w' => e = .returned (.bool (decide (4096 < n))) ∧ w = w' := by
  rcases h with ⟨a0, c0, rfl, rfl⟩ | ⟨b, off, cap, rfl, h2, h3, h4⟩
  · go_enter Try.func23, Try.ntmps23
    go_wp2
    go_ret
    exact ⟨rfl, rfl⟩
  · go_enter Try.func23, Try.ntmps23
    go_wp2
    go_ret
    exact ⟨ret_bool (by rw [Bool.eq_iff_iff]; simp; try omega), rfl⟩
end Go.Proofs.Ytpiiccfjkgimfaa
