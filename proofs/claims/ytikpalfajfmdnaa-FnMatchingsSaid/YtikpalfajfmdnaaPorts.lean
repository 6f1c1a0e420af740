/- Slices of ports: what a walk knows of one. -/
import Derived.Test.YtikpalfajfmdnaaDevs
namespace Go.Proofs.Ytikpalfajfmdnaa
open Go.RowKit
set_option linter.unusedVariables false
set_option linter.unusedSimpArgs false

/-- A port. -/
structure Pt where
  name : ByteArray
  net : Int
/-- The two cells of a port. -/
def PtAt (w : World) (g o : Nat) (x : Pt) : Prop :=
  w.cell? ⟨g, o, none⟩ = some (.string x.name) ∧ w.cell? ⟨g, o + 1, none⟩ = some (.int .i64 x.net)
/-- A slice that reads as these ports. -/
def PtSl (w : World) (sv : Value) (xs : List Pt) : Prop :=
  (∃ a c, sv = .slice a 0 c ∧ xs = []) ∨ ∃ b off cap, sv = .slice (some ⟨b, off, none⟩) xs.length cap ∧ xs.length ≤ cap ∧ cap ≤ maxLen ∧ ∀ (i : Nat) (x : Pt), xs[i]? = some x → PtAt w b (off + i * 2) x
theorem PtAt.by {w w1 : World} {g o : Nat} {x : Pt} (hb : Below w.heap.size w w1) (h : PtAt w g o x) : PtAt w1 g o x := ⟨cell_by' hb h.1, cell_by' hb h.2⟩
theorem PtSl.by {w w1 : World} {sv : Value} {xs : List Pt} (hb : Below w.heap.size w w1) (h : PtSl w sv xs) : PtSl w1 sv xs := by
  rcases h with h | ⟨b, off, cap, h1, h2, h3, h4⟩
  · exact .inl h
  · exact .inr ⟨b, off, cap, h1, h2, h3, fun i x hx => (h4 i x hx).by hb⟩
theorem PtSl.sized {w : World} {sv : Value} {xs : List Pt} (h : PtSl w sv xs) : ∃ a c, sv = .slice a xs.length c := by
  rcases h with ⟨a, c, h1, h2⟩ | ⟨b, off, cap, h1, _⟩
  · subst h2; exact ⟨a, c, h1⟩
  · exact ⟨_, _, h1⟩
end Go.Proofs.Ytikpalfajfmdnaa

/- Contracts of the functions of package laws over a port. -/
namespace Go.Proofs.Ytikpalfajfmdnaa
open Go.RowKit
set_option linter.unusedVariables false
set_option linter.unusedSimpArgs false

end Go.Proofs.Ytikpalfajfmdnaa

/- The size of a slice of ports. -/
namespace Go.Proofs.Ytikpalfajfmdnaa
open Go.RowKit
set_option linter.unusedVariables false
set_option linter.unusedSimpArgs false

/-- What the names of the ports take up. -/
def namesAll : List Pt → Int
  | [] => 0
  | x :: xs => x.name.size + namesAll xs
theorem namesAll_nonneg : ∀ xs : List Pt, 0 ≤ namesAll xs
  | [] => by simp [namesAll]
  | x :: xs => by have := namesAll_nonneg xs; simp only [namesAll]; omega
theorem namesAll_take (xs : List Pt) (k : Nat) (x : Pt) (h : xs[k]? = some x) : namesAll (xs.take (k + 1)) = namesAll (xs.take k) + x.name.size := by
  induction xs generalizing k with
  | nil => simp at h
  | cons y ys ih =>
    cases k with
    | zero => simp at h; subst h; simp [namesAll]
    | succ k =>
      simp at h
      have := ih k h
      simp only [List.take_succ_cons, namesAll]
      omega
theorem namesAll_mono (xs : List Pt) (k : Nat) : namesAll (xs.take k) ≤ namesAll xs := by
  induction xs generalizing k with
  | nil => simp
  | cons y ys ih =>
    cases k with
    | zero => simp [namesAll]; have := namesAll_nonneg ys; omega
    | succ k => have := ih k; simp only [List.take_succ_cons, namesAll]; omega
def Pt.ok (x : Pt) : Prop := x.name.size ≤ 9223372036854775807 ∧ Fits x.net

end Go.Proofs.Ytikpalfajfmdnaa

/- toPortS and eqPortS. -/
namespace Go.Proofs.Ytikpalfajfmdnaa
open Go.RowKit
set_option linter.unusedVariables false
set_option linter.unusedSimpArgs false

def Cs2 (cs : Array Value) (i : Nat) (a b : Value) : Prop := cs[i * 2]? = some a ∧ cs[i * 2 + 1]? = some b
def put2 (cs : Array Value) (i : Nat) (a b : Value) : Array Value := (cs.setIfInBounds (i * 2) a).setIfInBounds (i * 2 + 1) b
theorem size_put2 (cs : Array Value) (i : Nat) (a b : Value) : (put2 cs i a b).size = cs.size := by simp [put2]
theorem put2_same (cs : Array Value) (i : Nat) (a b : Value) (h : i * 2 + 2 ≤ cs.size) : Cs2 (put2 cs i a b) i a b := by
  refine ⟨?_, ?_⟩ <;> simp only [put2, Array.getElem?_setIfInBounds, Array.size_setIfInBounds] <;> repeat (first | rw [if_pos trivial] | rw [if_pos (by omega)] | rw [if_neg (by omega)])
theorem put2_other (cs : Array Value) (i j : Nat) (a b a' b' : Value) (hne : j ≠ i) (h : Cs2 cs j a' b') : Cs2 (put2 cs i a b) j a' b' := by
  obtain ⟨h1, h2⟩ := h
  refine ⟨?_, ?_⟩ <;> simp only [put2, Array.getElem?_setIfInBounds, Array.size_setIfInBounds] <;> (repeat rw [if_neg (by omega)]) <;> assumption

end Go.Proofs.Ytikpalfajfmdnaa

/- toPortS and eqPortS: the walks. -/
namespace Go.Proofs.Ytikpalfajfmdnaa
open Go.RowKit
set_option linter.unusedVariables false
set_option linter.unusedSimpArgs false

end Go.Proofs.Ytikpalfajfmdnaa
