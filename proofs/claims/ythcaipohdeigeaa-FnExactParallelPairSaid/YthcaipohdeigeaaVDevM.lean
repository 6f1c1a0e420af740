/- When a device is valid: plain. -/
import Derived.Test.YthcaipohdeigeaaMath
import Derived.Test.YthcaipohdeigeaaDevS
namespace Go.Proofs.Ythcaipohdeigeaa
open Go.RowKit

/-- The number of pins that a kind asks. -/
def pinsOf (kind : Int) : Nat := if kind = 2 then 2 else 3
/-- A device is valid in a netlist of so many nets. -/
def dvB (nets : Int) (x : Dv) : Bool :=
  inB x.kind 0 2 && (decide (x.pins.length = pinsOf x.kind) && (inB x.wd 1 1000000 && (inB x.len 1 1000000 && (x.pins.all (fun p => inB p 0 (nets - 1)) && (decide (x.kind ≠ 2) || decide (Int.gcd x.wd x.len = 1))))))

section
variable {nets : Int} {x : Dv}
theorem dvB_kind (h : inB x.kind 0 2 = false) : dvB nets x = false := by simp [dvB, h]
theorem dvB_len (h : x.pins.length ≠ pinsOf x.kind) : dvB nets x = false := by simp [dvB, h]
theorem dvB_wd (h : inB x.wd 1 1000000 = false) : dvB nets x = false := by simp [dvB, h]
theorem dvB_lg (h : inB x.len 1 1000000 = false) : dvB nets x = false := by simp [dvB, h]
theorem dvB_pin {k : Nat} {p : Int} (hk : x.pins[k]? = some p) (h : inB p 0 (nets - 1) = false) : dvB nets x = false := by
  have : x.pins.all (fun p => inB p 0 (nets - 1)) = false := by
    rw [List.all_eq_false]; exact ⟨p, List.mem_of_getElem? hk, by simp [h]⟩
  simp [dvB, this]
theorem dvB_end (h1 : inB x.kind 0 2 = true) (h2 : x.pins.length = pinsOf x.kind) (h3 : inB x.wd 1 1000000 = true) (h4 : inB x.len 1 1000000 = true) (h5 : x.pins.all (fun p => inB p 0 (nets - 1)) = true) :
    dvB nets x = (decide (x.kind ≠ 2) || decide (Int.gcd x.wd x.len = 1)) := by simp [dvB, h1, h2, h3, h4, h5]
theorem dvB_all (h : dvB nets x = true) : inB x.kind 0 2 = true ∧ x.pins.length = pinsOf x.kind ∧ inB x.wd 1 1000000 = true ∧ inB x.len 1 1000000 = true ∧ (∀ p ∈ x.pins, inB p 0 (nets - 1) = true) ∧ (x.kind ≠ 2 ∨ Int.gcd x.wd x.len = 1) := by
  simpa [dvB] using h
end
end Go.Proofs.Ythcaipohdeigeaa
