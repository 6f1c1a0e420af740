/- Merging two devices: the plain part. -/
import Derived.Test.YtnchhdhlhlcejaaSerB
import Derived.Test.YtnchhdhlhlcejaaValid0
namespace Go.Proofs.Ytnchhdhlhlcejaa
open Go.RowKit
set_option linter.unusedVariables false
set_option linter.unusedSimpArgs false

/-- The current pin that is not a net. -/
def otherN (p q net : Int) : Int := if p = net then q else p
def mgPins (x y : Dv) (ser : Bool) : List Int :=
  if ser = true then (if x.kind = 2 then [] else [gateOf x.pins]) ++ [otherN (curP x.pins) (curQ x.pins) (serN x y), otherN (curP y.pins) (curQ y.pins) (serN x y)] else x.pins
def mgW (x y : Dv) (ser : Bool) : Int :=
  if x.kind = 2 then (if ser = true then redN (x.wd * y.len + y.wd * x.len) (x.len * y.len) else redN (x.wd * y.wd) (x.wd * y.len + y.wd * x.len)) else if ser = true then x.wd else x.wd + y.wd
def mgL (x y : Dv) (ser : Bool) : Int :=
  if x.kind = 2 then (if ser = true then redD (x.wd * y.len + y.wd * x.len) (x.len * y.len) else redD (x.wd * y.wd) (x.wd * y.len + y.wd * x.len)) else if ser = true then x.len + y.len else x.len
/-- The merged device. -/
def mgD (x y : Dv) (ser : Bool) : Dv := ⟨x.kind, mgPins x y ser, mgW x y ser, mgL x y ser⟩
theorem serN_mem {x y : Dv} (h : oneB x y = true) : (serN x y = curP x.pins ∨ serN x y = curQ x.pins) ∧ (serN x y = curP y.pins ∨ serN x y = curQ y.pins) := by
  have h1 : comC (curP x.pins) (curQ x.pins) (curP y.pins) (curQ y.pins) = 1 := by simpa [oneB] using h
  unfold serN
  generalize curP x.pins = p at *
  generalize curQ x.pins = q at *
  generalize curP y.pins = r at *
  generalize curQ y.pins = s at *
  unfold comC at h1
  unfold comN
  by_cases a : q = r ∨ q = s
  · rw [if_pos a]
    exact ⟨.inr rfl, a⟩
  · by_cases b : p = r ∨ p = s
    · rw [if_neg a, if_pos b]
      exact ⟨.inl rfl, b⟩
    · rw [if_neg a, if_neg b] at h1
      omega
theorem otherN_sum {p q net : Int} (h : net = p ∨ net = q) : p + q - net = otherN p q net := by
  unfold otherN
  rcases h with rfl | rfl
  · rw [if_pos rfl]; omega
  · by_cases e : p = net
    · rw [if_pos e]; omega
    · rw [if_neg e]; omega
theorem serB_oneB {n : Nl} {x y : Dv} (h : serB n x y = true) : preB x y = true ∧ oneB x y = true := by
  simp only [serB, Bool.and_eq_true] at h
  exact ⟨h.1, h.2.1⟩
theorem preB_kindE {x y : Dv} (h : preB x y = true) : x.kind = y.kind ∧ parB x y = false := by
  simp only [preB, Bool.and_eq_true, decide_eq_true_eq, Bool.not_eq_true'] at h
  exact ⟨h.1, h.2.1⟩
end Go.Proofs.Ytnchhdhlhlcejaa
