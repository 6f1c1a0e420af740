/- Both IsColoring. -/
import Derived.Test.YtahlojnkfppcpaaGreatSpecNl
import Derived.Test.YtahlojnkfppcpaaGreatImplNl
import Derived.Test.YtahlojnkfppcpaaGreatValid0
import Derived.Test.YtahlojnkfppcpaaGreatNls
import Derived.Test.YtahlojnkfppcpaaGreatPairColoring
namespace Go.Proofs.YtahlojnkfppcpaaGreat
open Go.RowKit
set_option linter.unusedVariables false
set_option linter.unusedSimpArgs false

/-- So many colors, all in range. -/
def colsB (zs : List Int) (n : Int) : Bool := zs.all (fun z => inB z 0 23) && decide ((zs.length : Int) = n)
def coB (x : Nl) (c : List Int × List Int) : Bool := nlB x && (colsB c.1 x.nets && colsB c.2 x.ds.length)
theorem colsB_no {zs : List Int} {k : Nat} {z : Int} (n : Int) (h : zs[k]? = some z) (hz : inB z 0 23 = false) : colsB zs n = false := by
  have : zs.all (fun z => inB z 0 23) = false := by rw [List.all_eq_false]; exact ⟨z, List.mem_of_getElem? h, by simp [hz]⟩
  simp [colsB, this]
theorem colsB_end {zs : List Int} (n : Int) (h : ∀ (j : Nat) z, j < zs.length → zs[j]? = some z → inB z 0 23 = true) : colsB zs n = decide ((zs.length : Int) = n) := by
  have : zs.all (fun z => inB z 0 23) = true := by
    rw [List.all_eq_true]; intro z hz
    obtain ⟨j, hj, e⟩ := List.mem_iff_getElem.1 hz
    exact h j z hj (by rw [List.getElem?_eq_getElem hj, e])
  simp [colsB, this]
theorem cols_any (zs : List Int) : (zs.any fun z => !inB z 0 23) = !(zs.all fun z => inB z 0 23) := by
  induction zs with
  | nil => rfl
  | cons x xs ih => simp [ih]

theorem coB_nl {x : Nl} (c : List Int × List Int) (h : nlB x = false) : coB x c = false := by simp [coB, h]
theorem coB_of {x : Nl} (c : List Int × List Int) (h : nlB x = true) : coB x c = (colsB c.1 x.nets && colsB c.2 x.ds.length) := by simp [coB, h]

end Go.Proofs.YtahlojnkfppcpaaGreat
