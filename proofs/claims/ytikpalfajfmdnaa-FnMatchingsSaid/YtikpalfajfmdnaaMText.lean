/- markText: what it answers hangs on the number alone. -/
import Derived.Test.YtikpalfajfmdnaaBase
import Derived.Laws.BytesArg
import Derived.WalkLawsBesides
namespace Go.Proofs.Ytikpalfajfmdnaa
open Go.RowKit
set_option linter.unusedVariables false
set_option linter.unusedSimpArgs false

/-- The digits of k ahead of a text. -/
def dgF : Nat → Nat → ByteArray → ByteArray
  | 0, _, s => s
  | f + 1, k, s => if k = 0 then s else dgF f (k / 10) (strOfNums [((48 + k % 10 : Nat) : Int)] ++ s)
def mtxt (k : Nat) : ByteArray := ⟨#[109]⟩ ++ dgF k k ⟨#[]⟩
theorem size_one (v : Int) : (strOfNums [v]).size = 1 := by simp [strOfNums, ByteArray.size]
theorem dgF_end (f : Nat) (s : ByteArray) : dgF f 0 s = s := by cases f <;> simp [dgF]
theorem dgF_step (f k : Nat) (s : ByteArray) (h : 0 < k) (hf : k ≤ f) : ∃ f', k / 10 ≤ f' ∧ dgF f k s = dgF f' (k / 10) (strOfNums [((48 + k % 10 : Nat) : Int)] ++ s) := by
  cases f with
  | zero => omega
  | succ f =>
    refine ⟨f, by omega, ?_⟩
    have : ¬ k = 0 := by omega
    simp [dgF, this]

end Go.Proofs.Ytikpalfajfmdnaa
