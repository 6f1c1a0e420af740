/- Resistors and networks by value, and which are valid: plain. -/
import Derived.Test.YtjolkdckhmmenaaValid0
namespace Go.Proofs.Ytjolkdckhmmenaa
open Go.RowKit
set_option linter.unusedVariables false
set_option linter.unusedSimpArgs false

/-- A resistor. -/
structure Res where
  a : Int
  b : Int
  num : Int
  den : Int

/-- Every part fits int64. -/
def Res.ok (x : Res) : Prop := (-9223372036854775808 ≤ x.a ∧ x.a ≤ 9223372036854775807) ∧ (-9223372036854775808 ≤ x.b ∧ x.b ≤ 9223372036854775807) ∧ (-9223372036854775808 ≤ x.num ∧ x.num ≤ 9223372036854775807) ∧ (-9223372036854775808 ≤ x.den ∧ x.den ≤ 9223372036854775807)


/-- A resistor is valid in a network of so many nodes. -/
def rsB (nodes : Int) (x : Res) : Bool := inB x.a 0 (nodes - 1) && (inB x.b 0 (nodes - 1) && (!(x.a == x.b) && (vrB x.num x.den && (inB x.num 1 1000000 && decide (x.den ≤ 1000000)))))
/-- What is left of the greatest product. -/
def leftOf (xs : List Res) : Int := xs.foldl (fun l x => l / max x.num x.den) 10000000000000000
def nwB (nodes : Int) (xs : List Res) : Bool := inB nodes 1 6 && (decide (xs.length ≤ 8) && (xs.all (rsB nodes) && decide (0 < leftOf xs)))

theorem leftOf_nil : leftOf [] = 10000000000000000 := rfl
theorem leftOf_snoc (xs : List Res) (x : Res) : leftOf (xs ++ [x]) = leftOf xs / max x.num x.den := by simp [leftOf, List.foldl_append]
theorem take_succ_of {α : Type} (xs : List α) (k : Nat) (x : α) (h : xs[k]? = some x) : xs.take (k + 1) = xs.take k ++ [x] := by
  rw [List.take_add_one, h]; rfl
theorem nw_no1 {nodes : Int} (xs : List Res) (h : inB nodes 1 6 = false) : nwB nodes xs = false := by simp [nwB, h]
theorem nw_no2 (nodes : Int) {xs : List Res} (h : ¬ xs.length ≤ 8) : nwB nodes xs = false := by simp [nwB]; omega
theorem nw_no3 {nodes : Int} {xs : List Res} {k : Nat} {x : Res} (hx : xs[k]? = some x) (h : rsB nodes x = false) : nwB nodes xs = false := by
  have hm : x ∈ xs := List.mem_of_getElem? hx
  have : xs.all (rsB nodes) = false := by
    rw [List.all_eq_false]; exact ⟨x, hm, by simp [h]⟩
  simp [nwB, this]
theorem nw_yes {nodes : Int} {xs : List Res} (h1 : inB nodes 1 6 = true) (h2 : xs.length ≤ 8) (h3 : ∀ x ∈ xs, rsB nodes x = true) : nwB nodes xs = decide (0 < leftOf xs) := by
  have : xs.all (rsB nodes) = true := by rw [List.all_eq_true]; exact h3
  simp [nwB, h1, h2, this]
theorem left_bd (l n d : Int) (h0 : 0 ≤ l) (h1 : l ≤ 10000000000000000) (hn : 1 ≤ n) : 0 ≤ l / max n d ∧ l / max n d ≤ 10000000000000000 := by
  have a := Int.ediv_nonneg h0 (show 0 ≤ max n d by omega)
  have b := Int.ediv_le_self (max n d) h0
  omega

end Go.Proofs.Ytjolkdckhmmenaa
