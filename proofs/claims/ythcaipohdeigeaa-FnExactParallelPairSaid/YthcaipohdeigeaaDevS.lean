/- Slices of devices: what a walk knows of one. -/
import Derived.Test.YthcaipohdeigeaaDev
namespace Go.Proofs.Ythcaipohdeigeaa
open Go.RowKit
set_option linter.unusedVariables false
set_option linter.unusedSimpArgs false

/-- A device. -/
structure Dv where
  kind : Int
  pins : List Int
  wd : Int
  len : Int
/-- The four cells of a device. -/
def DvAt (w : World) (g o : Nat) (x : Dv) : Prop :=
  ∃ sv, w.cell? ⟨g, o, none⟩ = some (.int .i64 x.kind) ∧ w.cell? ⟨g, o + 1, none⟩ = some sv ∧ w.cell? ⟨g, o + 2, none⟩ = some (.int .i64 x.wd) ∧ w.cell? ⟨g, o + 3, none⟩ = some (.int .i64 x.len) ∧ IntSl w sv x.pins
/-- A slice that reads as these devices. -/
def DvSl (w : World) (sv : Value) (xs : List Dv) : Prop :=
  (∃ a c, sv = .slice a 0 c ∧ xs = []) ∨ ∃ b off cap, sv = .slice (some ⟨b, off, none⟩) xs.length cap ∧ xs.length ≤ cap ∧ cap ≤ maxLen ∧ ∀ (i : Nat) (x : Dv), xs[i]? = some x → DvAt w b (off + i * 4) x
def Dv.ok (x : Dv) : Prop := Fits x.kind ∧ Fits x.wd ∧ Fits x.len ∧ ∀ z ∈ x.pins, Fits z

theorem DvAt.by {w w1 : World} {g o : Nat} {x : Dv} (hb : Below w.heap.size w w1) (h : DvAt w g o x) : DvAt w1 g o x := by
  obtain ⟨sv, h1, h2, h3, h4, h5⟩ := h
  exact ⟨sv, cell_by' hb h1, cell_by' hb h2, cell_by' hb h3, cell_by' hb h4, h5.by hb⟩
theorem DvSl.by {w w1 : World} {sv : Value} {xs : List Dv} (hb : Below w.heap.size w w1) (h : DvSl w sv xs) : DvSl w1 sv xs := by
  rcases h with h | ⟨b, off, cap, h1, h2, h3, h4⟩
  · exact .inl h
  · exact .inr ⟨b, off, cap, h1, h2, h3, fun i x hx => (h4 i x hx).by hb⟩
theorem DvSl.sized {w : World} {sv : Value} {xs : List Dv} (h : DvSl w sv xs) : ∃ a c, sv = .slice a xs.length c := by
  rcases h with ⟨a, c, h1, h2⟩ | ⟨b, off, cap, h1, _⟩
  · subst h2; exact ⟨a, c, h1⟩
  · exact ⟨_, _, h1⟩

/-- What the pins of the devices take up. -/
def pinsAll : List Dv → Int
  | [] => 0
  | x :: xs => x.pins.length + pinsAll xs
theorem pinsAll_nonneg : ∀ xs : List Dv, 0 ≤ pinsAll xs
  | [] => by simp [pinsAll]
  | x :: xs => by have := pinsAll_nonneg xs; simp only [pinsAll]; omega
theorem pinsAll_take (xs : List Dv) (k : Nat) (x : Dv) (h : xs[k]? = some x) : pinsAll (xs.take (k + 1)) = pinsAll (xs.take k) + x.pins.length := by
  induction xs generalizing k with
  | nil => simp at h
  | cons y ys ih =>
    cases k with
    | zero => simp at h; subst h; simp [pinsAll]
    | succ k =>
      simp at h
      have := ih k h
      simp only [List.take_succ_cons, pinsAll]
      omega
theorem pinsAll_mono (xs : List Dv) (k : Nat) : pinsAll (xs.take k) ≤ pinsAll xs := by
  induction xs generalizing k with
  | nil => simp
  | cons y ys ih =>
    cases k with
    | zero => simp [pinsAll]; have := pinsAll_nonneg ys; omega
    | succ k => have := ih k; simp only [List.take_succ_cons, pinsAll]; omega
end Go.Proofs.Ythcaipohdeigeaa
