/- ApplyMatching: the plain part. -/
import Derived.Test.YtaiadcfgmichpaaRenM
import Derived.Test.YtaiadcfgmichpaaOrdM
namespace Go.Proofs.Ytaiadcfgmichpaa
open Go.RowKit
set_option linter.unusedVariables false
set_option linter.unusedSimpArgs false

def noDv : Dv := ⟨0, [], 0, 0⟩
/-- The devices in the order to which zs leads. -/
def ordD (zs : List Int) (ds : List Dv) : List Dv := (invS zs).map fun k => ds.getD k.toNat noDv
theorem length_ordD (zs : List Int) (ds : List Dv) : (ordD zs ds).length = zs.length := by simp [ordD, length_invS]
/-- Place zs[i] holds device i. -/
theorem ordD_get {zs : List Int} {ds : List Dv} (hp : permB zs ds.length = true) (i : Nat) (z : Int) (d : Dv) (hz : zs[i]? = some z) (hd : ds[i]? = some d) : (ordD zs ds)[z.toNat]? = some d := by
  have := invS_get hp i z hz
  simp [ordD, this, List.getD_eq_getElem?_getD, hd]
theorem ordD_inv {zs : List Int} {ds : List Dv} (hp : permB zs ds.length = true) (k : Nat) (d : Dv) (h : (ordD zs ds)[k]? = some d) : ∃ i : Nat, (invS zs)[k]? = some (i : Int) ∧ zs[i]? = some (k : Int) ∧ ds[i]? = some d := by
  have hk := (List.getElem?_eq_some_iff.1 h).1
  rw [length_ordD] at hk
  have hl := (permB_iff.1 hp).1
  obtain ⟨i, e1, e2⟩ := invS_inv hp k (by omega)
  have hi := (List.getElem?_eq_some_iff.1 e2).1
  refine ⟨i, e1, e2, ?_⟩
  have hd : ds[i]? = some (ds[i]'(by omega)) := List.getElem?_eq_getElem (by omega)
  have := ordD_get hp i k _ e2 hd
  rw [Int.toNat_natCast, h] at this
  rw [hd, ← Option.some.inj this]
theorem invS_inj {zs : List Int} {n : Int} (hp : permB zs n = true) (a b : Nat) (z : Int) (ha : (invS zs)[a]? = some z) (hb : (invS zs)[b]? = some z) : a = b := by
  rcases Nat.lt_trichotomy a b with h | h | h
  · have := permB_dup (n := n) h ha hb; rw [permB_invS hp] at this; cases this
  · exact h
  · have := permB_dup (n := n) h hb ha; rw [permB_invS hp] at this; cases this
theorem invS_range {zs : List Int} {n : Int} (hp : permB zs n = true) (k : Nat) (z : Int) (h : (invS zs)[k]? = some z) : 0 ≤ z ∧ z < n := (permB_iff.1 (permB_invS hp)).2.2 z (List.mem_of_getElem? h)
theorem dsum_append (a b : List Dv) : dsum (a ++ b) = dsum a + dsum b := by
  induction a with
  | nil => simp [dsum]
  | cons x xs ih => simp only [List.cons_append, dsum, ih]; omega
end Go.Proofs.Ytaiadcfgmichpaa
