/- Slices of resistors: what a walk knows of one that came in, and of one that the call has made. -/
import Derived.Test.YtjolkdckhmmenaaMake
import Derived.Test.YtjolkdckhmmenaaBase
import Derived.Test.YtjolkdckhmmenaaNetV
import Derived.Deep.RegionHeld3
namespace Go.Proofs.Ytjolkdckhmmenaa
open Go.RowKit
set_option linter.unusedVariables false
set_option linter.unusedSimpArgs false

/-- The four cells of a resistor. -/
def ResAt (w : World) (g o : Nat) (x : Res) : Prop :=
  w.cell? ⟨g, o, none⟩ = some (.int .i64 x.a) ∧ w.cell? ⟨g, o + 1, none⟩ = some (.int .i64 x.b) ∧ w.cell? ⟨g, o + 2, none⟩ = some (.int .i64 x.num) ∧ w.cell? ⟨g, o + 3, none⟩ = some (.int .i64 x.den)
/-- A slice that reads as these resistors. -/
def ResSl (w : World) (sv : Value) (xs : List Res) : Prop :=
  (∃ a c, sv = .slice a 0 c ∧ xs = []) ∨ ∃ b off cap, sv = .slice (some ⟨b, off, none⟩) xs.length cap ∧ xs.length ≤ cap ∧ cap ≤ maxLen ∧ ∀ i x, xs[i]? = some x → ResAt w b (off + i * 4) x
theorem ResAt.by {w w1 : World} {g o : Nat} {x : Res} (hb : Below w.heap.size w w1) (h : ResAt w g o x) : ResAt w1 g o x :=
  ⟨cell_by' hb h.1, cell_by' hb h.2.1, cell_by' hb h.2.2.1, cell_by' hb h.2.2.2⟩
theorem ResSl.by {w w1 : World} {sv : Value} {xs : List Res} (hb : Below w.heap.size w w1) (h : ResSl w sv xs) : ResSl w1 sv xs := by
  rcases h with h | ⟨b, off, cap, h1, h2, h3, h4⟩
  · exact .inl h
  · exact .inr ⟨b, off, cap, h1, h2, h3, fun i x hx => (h4 i x hx).by hb⟩
/-- .. from an elder world, over whatever has been made since. -/
theorem ResSl.len {w : World} {sv : Value} {xs : List Res} (h : ResSl w sv xs) : ∃ a c, sv = .slice a xs.length c := by
  rcases h with ⟨a, c, h1, h2⟩ | ⟨b, off, cap, h1, _⟩
  · subst h2; exact ⟨a, c, h1⟩
  · exact ⟨_, _, h1⟩

/-- Element i of an array of cells reads as x. -/
def CsAt (cs : Array Value) (i : Nat) (x : Res) : Prop := cs[i * 4]? = some (.int .i64 x.a) ∧ cs[i * 4 + 1]? = some (.int .i64 x.b) ∧ cs[i * 4 + 2]? = some (.int .i64 x.num) ∧ cs[i * 4 + 3]? = some (.int .i64 x.den)
def putRes (cs : Array Value) (i : Nat) (x : Res) : Array Value := (((cs.setIfInBounds (i * 4) (.int .i64 x.a)).setIfInBounds (i * 4 + 1) (.int .i64 x.b)).setIfInBounds (i * 4 + 2) (.int .i64 x.num)).setIfInBounds (i * 4 + 3) (.int .i64 x.den)
theorem size_putRes (cs : Array Value) (i : Nat) (x : Res) : (putRes cs i x).size = cs.size := by simp [putRes]
theorem putRes_same (cs : Array Value) (i : Nat) (x : Res) (h : i * 4 + 4 ≤ cs.size) : CsAt (putRes cs i x) i x := by
  refine ⟨?_, ?_, ?_, ?_⟩ <;> simp only [putRes, Array.getElem?_setIfInBounds, Array.size_setIfInBounds] <;> repeat (first | rw [if_pos trivial] | rw [if_pos (by omega)] | rw [if_neg (by omega)])
theorem putRes_other (cs : Array Value) (i j : Nat) (x y : Res) (hne : j ≠ i) (h : CsAt cs j y) : CsAt (putRes cs i x) j y := by
  obtain ⟨h1, h2, h3, h4⟩ := h
  refine ⟨?_, ?_, ?_, ?_⟩ <;> simp only [putRes, Array.getElem?_setIfInBounds, Array.size_setIfInBounds] <;> (repeat rw [if_neg (by omega)]) <;> assumption

/-- A block of the call's own that holds these resistors, and no more. -/
def ResBlk (w : World) (g : Nat) (xs : List Res) : Prop := ∃ cs : Array Value, Blk w g cs 39 ∧ cs.size = xs.length * 4 ∧ ∀ i x, xs[i]? = some x → CsAt cs i x
theorem ResBlk.by {w w1 : World} {g : Nat} {xs : List Res} (hb : Below w.heap.size w w1) (h : ResBlk w g xs) : ResBlk w1 g xs := by
  obtain ⟨cs, h1, h2⟩ := h; exact ⟨cs, Blk.by hb h1, h2⟩
theorem ResBlk.sl {w : World} {g : Nat} {xs : List Res} (h : ResBlk w g xs) (hm : xs.length ≤ maxLen) : ResSl w (.slice (some ⟨g, 0, none⟩) xs.length xs.length) xs := by
  obtain ⟨cs, h1, h2, h3⟩ := h
  refine .inr ⟨g, 0, xs.length, rfl, Nat.le_refl _, hm, fun i x hx => ?_⟩
  obtain ⟨e1, e2, e3, e4⟩ := h3 i x hx
  have hc := h1.cell
  simp only [Nat.zero_add]
  exact ⟨by rw [hc]; exact e1, by rw [hc]; exact e2, by rw [hc]; exact e3, by rw [hc]; exact e4⟩

end Go.Proofs.Ytjolkdckhmmenaa
