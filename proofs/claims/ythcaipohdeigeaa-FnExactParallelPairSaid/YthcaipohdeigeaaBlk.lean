/- Blocks of memory that a walk knows whole: carried over a callee's contract without any reckoning of sizes. -/
import Derived.Test.YthcaipohdeigeaaKit
namespace Go.Proofs.Ythcaipohdeigeaa
open Go.RowKit

/-- Block g of world w holds just these cells, and may be written. -/
def Blk (w : World) (g : Nat) (cs : Array Value) (T : TypeId) : Prop := w.heap[g]? = some (.cells cs T (0, 0))

section
variable {w w1 : World} {g : Nat} {cs : Array Value} {T : TypeId}
theorem Blk.cell (h : Blk w g cs T) : ∀ o, w.cell? ⟨g, o, none⟩ = cs[o]? := fun o => by unfold Blk at h; simp [World.cell?, h]
theorem Blk.free (h : Blk w g cs T) : ∀ o, w.frozen? ⟨g, o, none⟩ = false := fun o => by unfold Blk at h; simp [World.frozen?, h]
theorem Blk.both (h : Blk w g cs T) : Blk w g cs T ∧ ∀ o, w.cell? ⟨g, o, none⟩ = cs[o]? := ⟨h, h.cell⟩
theorem Blk.lt (h : Blk w g cs T) : g < w.heap.size := by
  unfold Blk at h
  rcases Nat.lt_or_ge g w.heap.size with h' | h'
  · exact h'
  · rw [Array.getElem?_eq_none h'] at h; cases h
theorem Blk.by (hb : Below w.heap.size w w1) (h : Blk w g cs T) : Blk w1 g cs T := (hb.block g h.lt).trans h
theorem Blk.new (n : Nat) (hn : n = w.heap.size) : Blk (w.alloc (.cells cs T)) n cs T := by subst hn; unfold Blk World.alloc; simp
theorem Blk.past (h : Blk w g cs T) (o : Obj) : Blk (w.alloc o) g cs T := (Below.heap_alloc w o g h.lt).trans h
theorem Blk.drew (h : Blk w g cs T) : Blk w.drew g cs T := h
theorem Blk.drewN (h : Blk w g cs T) (n : Nat) : Blk (w.drewN n) g cs T := h
theorem Blk.set (h : Blk w g cs T) (o : Nat) (v : Value) : Blk (w.setCell ⟨g, o, none⟩ v) g (cs.setIfInBounds o v) T := by
  unfold Blk at *
  simp [World.setCell, Array.getElem?_modify, h]
theorem Blk.apart (h : Blk w g cs T) (b o : Nat) (v : Value) (hne : g ≠ b) : Blk (w.setCell ⟨b, o, none⟩ v) g cs T := by
  exact (Below.heap_setCell w ⟨b, o, none⟩ v g hne).trans h
/-- Two stores into a block of two cells. -/
theorem Blk.set2 {a b x y : Value} (h : Blk w g #[a, b] T) : Blk ((w.setCell ⟨g, 0, none⟩ x).setCell ⟨g, 1, none⟩ y) g #[x, y] T := (h.set 0 x).set 1 y
theorem Blk.set1 {a x : Value} (h : Blk w g #[a] T) : Blk (w.setCell ⟨g, 0, none⟩ x) g #[x] T := h.set 0 x
end
end Go.Proofs.Ythcaipohdeigeaa
