/- A slice of ports that grows in memory of the call's own. -/
import Derived.Test.YtjolkdckhmmenaaCopies
import Derived.Test.YtjolkdckhmmenaaValid0
namespace Go.Proofs.Ytjolkdckhmmenaa
open Go.RowKit
set_option linter.unusedVariables false
set_option linter.unusedSimpArgs false

theorem pcells_push (ps : List Pt) (p : Pt) : pcells (ps ++ [p]) = pcells ps ++ [.string p.name, .int .i64 p.net] := by
  induction ps with
  | nil => rfl
  | cons q qs ih => simp [pcells, ih]
section
variable {w w' : World} {lo hi : Nat} {v : Value} {ps : List Pt}
end

end Go.Proofs.Ytjolkdckhmmenaa

/- Netlists with other numbers of nets: the plain part. -/
namespace Go.Proofs.Ytjolkdckhmmenaa
open Go.RowKit
set_option linter.unusedVariables false
set_option linter.unusedSimpArgs false

/-- The name of net p. -/
def nmOf (names : List Int) (p : Int) : Int := names.getD p.toNat 0
def renD (names : List Int) (d : Dv) : Dv := ⟨d.kind, d.pins.map (nmOf names), d.wd, d.len⟩
def renP (names : List Int) (p : Pt) : Pt := ⟨p.name, nmOf names p.net⟩
def renS (x : Nl) (names : List Int) (nets : Int) : Nl := ⟨nets, x.ds.map (renD names), x.ps.map (renP names)⟩
/-- The first k of zs renamed, the others as they were. -/
def renTo (names : List Int) (zs : List Int) (k : Nat) : List Int := (zs.take k).map (nmOf names) ++ zs.drop k
theorem renTo_zero (names zs : List Int) : renTo names zs 0 = zs := by simp [renTo]
theorem renTo_all (names zs : List Int) : renTo names zs zs.length = zs.map (nmOf names) := by simp [renTo]
theorem length_renTo (names zs : List Int) (k : Nat) : (renTo names zs k).length = zs.length := by simp [renTo]; omega
theorem renTo_get (names zs : List Int) (k : Nat) (z : Int) (h : zs[k]? = some z) : (renTo names zs k)[k]? = some z := by
  have hk := (List.getElem?_eq_some_iff.1 h).1
  rw [renTo, List.getElem?_append_right (by simp; omega)]
  simp
  rw [show k - min k zs.length = 0 by omega]
  simpa using h
theorem renTo_step (names zs : List Int) (k : Nat) (z : Int) (h : zs[k]? = some z) : (renTo names zs k).set k (nmOf names z) = renTo names zs (k + 1) := by
  have hk := (List.getElem?_eq_some_iff.1 h).1
  apply List.ext_getElem?
  intro i
  have e : zs[k] = z := by rw [List.getElem?_eq_getElem hk] at h; exact Option.some.inj h
  unfold renTo
  rw [take_snoc_of zs k z h]
  by_cases hi : i = k
  · subst hi
    rw [List.getElem?_set_self (by simp; omega)]
    rw [List.getElem?_append_left (by simp; omega), List.map_append, List.getElem?_append_right (by simp; omega)]
    simp
    rw [show i - min i zs.length = 0 by omega]
    rfl
  · rw [List.getElem?_set_ne (by omega)]
    by_cases hlt : i < k
    · rw [List.getElem?_append_left (by simp; omega), List.getElem?_append_left (by simp; omega), List.map_append, List.getElem?_append_left (by simp; omega)]
    · rw [List.getElem?_append_right (by simp; omega), List.getElem?_append_right (by simp; omega)]
      simp
      congr 1
      omega
theorem take_map_snoc {α β : Type} (f : α → β) (xs : List α) (k : Nat) (x : α) (h : xs[k]? = some x) : (xs.take (k + 1)).map f = (xs.take k).map f ++ [f x] := by
  rw [take_snoc_of xs k x h]; simp
/-- The cells cs hold these numbers. -/
def ICs (cs : Array Value) (zs : List Int) : Prop := ∀ (i : Nat) (z : Int), zs[i]? = some z → cs[i]? = some (Value.int .i64 z)
theorem ICs.set {cs : Array Value} {zs : List Int} (h : ICs cs zs) (k : Nat) (v : Int) : ICs (cs.setIfInBounds k (.int .i64 v)) (zs.set k v) := by
  intro i z hz
  have hi : i < zs.length := by have := (List.getElem?_eq_some_iff.1 hz).1; simpa using this
  have hc := h i zs[i] (List.getElem?_eq_getElem hi)
  have hs := (Array.getElem?_eq_some_iff.1 hc).1
  by_cases e : k = i
  · subst e
    rw [List.getElem?_set_self hi] at hz
    cases hz
    simp [Array.getElem?_setIfInBounds, hs]
  · rw [List.getElem?_set_ne e] at hz
    rw [Array.getElem?_setIfInBounds, if_neg e]
    exact h i z hz
theorem ICs.own {w : World} {g cap : Nat} {cs : Array Value} {zs : List Int} (h : ICs cs zs) (hB : Blk w g cs 2) (h1 : zs.length ≤ cap) (h2 : cap ≤ maxLen) : OwnR w g (g + 1) (.slice (some ⟨g, 0, none⟩) zs.length cap) zs :=
  .inr ⟨g, cap, cs, rfl, Nat.le_refl _, Nat.lt_succ_self _, h1, h2, hB, h⟩
theorem OwnR.cells {w : World} {lo hi : Nat} {sv : Value} {zs : List Int} (h : OwnR w lo hi sv zs) (hz : zs ≠ []) : ∃ g cap cs, sv = .slice (some ⟨g, 0, none⟩) zs.length cap ∧ (lo ≤ g ∧ g < hi) ∧ zs.length ≤ cap ∧ cap ≤ maxLen ∧ Blk w g cs 2 ∧ ICs cs zs := by
  rcases h with ⟨_, _, _, h⟩ | ⟨g, cap, cs, h1, h2, h2', h3, h4, h5, h6⟩
  · exact absurd h hz
  · exact ⟨g, cap, cs, h1, ⟨h2, h2'⟩, h3, h4, h5, h6⟩
end Go.Proofs.Ytjolkdckhmmenaa

/- The two pushes at a plain list of operations. -/
namespace Go.Proofs.Ytjolkdckhmmenaa
open Go.RowKit
set_option linter.unusedVariables false

end Go.Proofs.Ytjolkdckhmmenaa

/- One device's pins, one port's net, turned in place. -/
namespace Go.Proofs.Ytjolkdckhmmenaa
open Go.RowKit
set_option linter.unusedVariables false
set_option linter.unusedSimpArgs false

section
variable {α : Type} (f : α → α)
def upTo (xs : List α) (k : Nat) : List α := (xs.take k).map f ++ xs.drop k
theorem upTo_zero (xs : List α) : upTo f xs 0 = xs := by simp [upTo]
theorem upTo_all (xs : List α) : upTo f xs xs.length = xs.map f := by simp [upTo]
theorem length_upTo (xs : List α) (k : Nat) : (upTo f xs k).length = xs.length := by simp [upTo]; omega
theorem upTo_get (xs : List α) (k : Nat) (x : α) (h : xs[k]? = some x) : (upTo f xs k)[k]? = some x := by
  have hk := (List.getElem?_eq_some_iff.1 h).1
  rw [upTo, List.getElem?_append_right (by simp; omega)]
  simp
  rw [show k - min k xs.length = 0 by omega]
  simpa using h
theorem upTo_step (xs : List α) (k : Nat) (x : α) (h : xs[k]? = some x) : (upTo f xs k).set k (f x) = upTo f xs (k + 1) := by
  have hk := (List.getElem?_eq_some_iff.1 h).1
  apply List.ext_getElem?
  intro i
  have e : xs[k] = x := by rw [List.getElem?_eq_getElem hk] at h; exact Option.some.inj h
  unfold upTo
  rw [take_snoc_of xs k x h]
  by_cases hi : i = k
  · subst hi
    rw [List.getElem?_set_self (by simp; omega)]
    rw [List.getElem?_append_left (by simp; omega), List.map_append, List.getElem?_append_right (by simp; omega)]
    simp
    rw [show i - min i xs.length = 0 by omega]
    rfl
  · rw [List.getElem?_set_ne (by omega)]
    by_cases hlt : i < k
    · rw [List.getElem?_append_left (by simp; omega), List.getElem?_append_left (by simp; omega), List.map_append, List.getElem?_append_left (by simp; omega)]
    · rw [List.getElem?_append_right (by simp; omega), List.getElem?_append_right (by simp; omega)]
      simp
      congr 1
      omega
end
end Go.Proofs.Ytjolkdckhmmenaa
