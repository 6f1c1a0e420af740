/- Contracts of the functions of package laws over networks. -/
import Derived.Test.YtjolkdckhmmenaaResS
namespace Go.Proofs.Ytjolkdckhmmenaa
open Go.RowKit
set_option linter.unusedVariables false
set_option linter.unusedSimpArgs false

theorem ResBlk.alloc {w : World} {g : Nat} {xs : List Res} (h : ResBlk w g xs) (o : Obj) : ResBlk (w.alloc o) g xs := by
  obtain ⟨cs, h1, h2⟩ := h; exact ⟨cs, h1.past o, h2⟩
theorem ResBlk.apart {w : World} {g : Nat} {xs : List Res} (h : ResBlk w g xs) (b o : Nat) (v : Value) (hne : g ≠ b) : ResBlk (w.setCell ⟨b, o, none⟩ v) g xs := by
  obtain ⟨cs, h1, h2⟩ := h; exact ⟨cs, h1.apart b o v hne, h2⟩
theorem ResBlk.lt {w : World} {g : Nat} {xs : List Res} (h : ResBlk w g xs) : g < w.heap.size := by
  obtain ⟨cs, h1, h2⟩ := h; exact h1.lt

end Go.Proofs.Ytjolkdckhmmenaa
