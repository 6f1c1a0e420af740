/- The signature of a net: the plain part. -/
import Derived.Test.YtjldkejegdljiaaRenM
import Derived.Test.YtjldkejegdljiaaOrdM
namespace Go.Proofs.Ytjldkejegdljiaa
open Go.RowKit
set_option linter.unusedVariables false
set_option linter.unusedSimpArgs false

def roleOf (kind : Int) (k : Nat) : Int := if kind = 2 then 2 else min (k : Int) 1
def pHit (ci kind : Int) (pins : List Int) (net color role : Int) (k : Nat) : Bool := decide (ci = color) && (decide (pins.getD k 0 = net) && decide (roleOf kind k = role))
def pTo (ci kind : Int) (pins : List Int) (net color role : Int) (k : Nat) : List Int := (List.range k).flatMap fun j => if pHit ci kind pins net color role j = true then [color, role] else []
def dAt (ds : List Dv) (j : Nat) : Dv := ds.getD j ⟨0, [], 0, 0⟩
def dTo (ds : List Dv) (cs : List Int) (net color role : Int) (i : Nat) : List Int := (List.range i).flatMap fun j : Nat => pTo (nmOf cs (j : Int)) (dAt ds j).kind (dAt ds j).pins net color role (dAt ds j).pins.length
def rTo (ds : List Dv) (cs : List Int) (net color : Int) (r : Nat) : List Int := (List.range r).flatMap fun j : Nat => dTo ds cs net color (j : Int) ds.length
def cTo (ds : List Dv) (cs : List Int) (net : Int) (c : Nat) : List Int := (List.range c).flatMap fun j : Nat => rTo ds cs net (j : Int) 3
/-- The signature of a net. -/
def netL' (x : Nl) (c : List Int × List Int) (net : Int) : List Int := [nmOf c.1 net] ++ cTo x.ds c.2 net 24
theorem flat_succ {α : Type} (f : Nat → List α) (k : Nat) : (List.range (k + 1)).flatMap f = (List.range k).flatMap f ++ f k := by
  rw [List.range_succ, List.flatMap_append]; simp
theorem flat_len {α : Type} (f : Nat → List α) (b n : Nat) (h : ∀ j, j < n → (f j).length ≤ b) : ((List.range n).flatMap f).length ≤ n * b := by
  induction n with
  | zero => simp
  | succ n ih =>
    rw [flat_succ, List.length_append, Nat.succ_mul]
    have := ih (fun j hj => h j (by omega))
    have := h n (by omega)
    omega
theorem pTo_succ (ci kind : Int) (pins : List Int) (net color role : Int) (k : Nat) : pTo ci kind pins net color role (k + 1) = pTo ci kind pins net color role k ++ (if pHit ci kind pins net color role k = true then [color, role] else []) := flat_succ _ k
theorem dTo_succ (ds : List Dv) (cs : List Int) (net color role : Int) (i : Nat) (d : Dv) (h : ds[i]? = some d) : dTo ds cs net color role (i + 1) = dTo ds cs net color role i ++ pTo (nmOf cs (i : Int)) d.kind d.pins net color role d.pins.length := by
  unfold dTo
  rw [flat_succ]
  simp [dAt, List.getD_eq_getElem?_getD, h]
theorem rTo_succ (ds : List Dv) (cs : List Int) (net color : Int) (r : Nat) : rTo ds cs net color (r + 1) = rTo ds cs net color r ++ dTo ds cs net color (r : Int) ds.length := flat_succ _ r
theorem cTo_succ (ds : List Dv) (cs : List Int) (net : Int) (c : Nat) : cTo ds cs net (c + 1) = cTo ds cs net c ++ rTo ds cs net (c : Int) 3 := flat_succ _ c
theorem pTo_len (ci kind : Int) (pins : List Int) (net color role : Int) (k : Nat) : (pTo ci kind pins net color role k).length ≤ k * 2 := flat_len _ 2 k (fun j _ => by split <;> simp)
theorem dTo_len {ds : List Dv} (hp : ∀ d ∈ ds, d.pins.length ≤ 3) (cs : List Int) (net color role : Int) (i : Nat) : (dTo ds cs net color role i).length ≤ i * 6 := flat_len _ 6 i (fun (j : Nat) _ => by
  have h := pTo_len (nmOf cs (j : Int)) (dAt ds j).kind (dAt ds j).pins net color role (dAt ds j).pins.length
  have h3 : (dAt ds j).pins.length ≤ 3 := by
    unfold dAt
    rw [List.getD_eq_getElem?_getD]
    cases e : ds[j]? with
    | none => simp
    | some d => exact hp d (List.mem_of_getElem? e)
  omega)
theorem rTo_len {ds : List Dv} (hp : ∀ d ∈ ds, d.pins.length ≤ 3) (cs : List Int) (net color : Int) (r : Nat) : (rTo ds cs net color r).length ≤ r * (ds.length * 6) := flat_len _ _ r (fun j _ => dTo_len hp _ _ _ _ _)
theorem cTo_len {ds : List Dv} (hp : ∀ d ∈ ds, d.pins.length ≤ 3) (cs : List Int) (net : Int) (c : Nat) : (cTo ds cs net c).length ≤ c * (3 * (ds.length * 6)) := flat_len _ _ c (fun j _ => rTo_len hp _ _ _ _)
end Go.Proofs.Ytjldkejegdljiaa
