/- Words of a line, as both walks read them. -/
import Derived.Test.YtglddnkpccgchaaDoorPrsC
import Derived.Test.YtglddnkpccgchaaDoorRowM
import Derived.Test.YtglddnkpccgchaaDoorValid0
import Derived.Test.YtglddnkpccgchaaDoorNls
import Derived.Test.YtglddnkpccgchaaDoorTakeL
namespace Go.Proofs.YtglddnkpccgchaaDoor
open Go.RowKit
set_option linter.unusedVariables false
set_option linter.unusedSimpArgs false

theorem str_cell {w : World} {g o n c : Nat} {zs : List ByteArray} (h : StrSl w (.slice (some ⟨g, o, none⟩) n c) zs) (i : Nat) (y : ByteArray) (hy : zs[i]? = some y) : w.cell? ⟨g, o + i, none⟩ = some (.string y) := by
  rcases h with ⟨a, c', h1, h2⟩ | ⟨g', o', c', h1, h2, h3, h4⟩
  · rw [h2] at hy; simp at hy
  · simp only [Value.slice.injEq, Option.some.injEq, Addr.mk.injEq, and_true] at h1
    obtain ⟨⟨rfl, rfl⟩, rfl, rfl⟩ := h1
    exact h4 i y hy
def wPortB : ByteArray := ⟨#[112, 111, 114, 116]⟩
theorem port_word (s : ByteArray) : (s.toList == ([112, 111, 114, 116] : List UInt8)) = decide (s.data.toList = wPortL) := by
  rw [show ([112, 111, 114, 116] : List UInt8) = wPortB.toList by simp [wPortB], toList_eq]
  by_cases h : s = wPortB
  · subst h; rfl
  · rw [decide_eq_false h, decide_eq_false]
    exact fun e => h (ba_ext e)
theorem kind_cases (s : ByteArray) : (kindL s.data.toList = none ∧ kindZ s = -1) ∨ ∃ k, kindL s.data.toList = some k ∧ kindZ s = (k : Int) ∧ (k = 0 ∨ k = 1 ∨ k = 2) := by
  unfold kindZ
  cases h : kindL s.data.toList with
  | none => exact .inl ⟨rfl, rfl⟩
  | some k => exact .inr ⟨k, rfl, rfl, by have := (kindL_word h).2; omega⟩
end Go.Proofs.YtglddnkpccgchaaDoor
