/- MergePair: the devices of the merged netlist, one by one (plain). -/
import Derived.Test.YtnchhdhlhlcejaaMrgC
namespace Go.Proofs.Ytnchhdhlhlcejaa
open Go.RowKit
set_option linter.unusedVariables false
set_option linter.unusedSimpArgs false

/-- The devices of the merged netlist after so many devices. -/
def mgTo (ds : List Dv) (i j : Nat) (d : Dv) (k : Nat) : List Dv := ((ds.take k).set i d).eraseIdx j
theorem mgTo_zero (ds : List Dv) (i j : Nat) (d : Dv) : mgTo ds i j d 0 = [] := by simp [mgTo]
theorem mgTo_len (ds : List Dv) (i j : Nat) (d : Dv) (k : Nat) : (mgTo ds i j d k).length ≤ k := by
  unfold mgTo
  have h1 := List.length_eraseIdx_le ((ds.take k).set i d) j
  rw [List.length_set, List.length_take] at h1
  omega
theorem mgTo_all (ds : List Dv) (i j : Nat) (d : Dv) : mgTo ds i j d ds.length = (ds.set i d).eraseIdx j := by simp [mgTo]
theorem mgTo_i (ds : List Dv) (i j : Nat) (d : Dv) (hij : i < j) (hi : i < ds.length) : mgTo ds i j d (i + 1) = mgTo ds i j d i ++ [d] := by
  have h1 : (ds.take i).length = i := by rw [List.length_take]; omega
  unfold mgTo
  rw [take_snoc_of ds i ds[i] (List.getElem?_eq_getElem hi), List.set_append, if_neg (by omega), h1, Nat.sub_self]
  have h2 : (ds.take i).set i d = ds.take i := List.set_eq_of_length_le (by omega)
  rw [h2, List.eraseIdx_of_length_le (l := ds.take i) (by omega), List.eraseIdx_of_length_le (by simp; omega)]
  rfl
theorem mgTo_j (ds : List Dv) (i j : Nat) (d : Dv) (hij : i < j) (hj : j < ds.length) : mgTo ds i j d (j + 1) = mgTo ds i j d j := by
  have h1 : (ds.take j).length = j := by rw [List.length_take]; omega
  unfold mgTo
  rw [take_snoc_of ds j ds[j] (List.getElem?_eq_getElem hj), List.set_append, if_pos (by omega)]
  rw [List.eraseIdx_append_of_length_le (by simp <;> omega), List.eraseIdx_of_length_le (l := (ds.take j).set i d) (by simp <;> omega)]
  simp [h1]
theorem mgTo_k (ds : List Dv) (i j : Nat) (d : Dv) (k : Nat) (x : Dv) (hx : ds[k]? = some x) (h1 : k ≠ i) (h2 : k ≠ j) : mgTo ds i j d (k + 1) = mgTo ds i j d k ++ [x] := by
  have hk := (List.getElem?_eq_some_iff.1 hx).1
  have hl : (ds.take k).length = k := by rw [List.length_take]; omega
  unfold mgTo
  rw [take_snoc_of ds k x hx]
  have e1 : (ds.take k ++ [x]).set i d = (ds.take k).set i d ++ [x] := by
    rw [List.set_append]
    by_cases h : i < (ds.take k).length
    · rw [if_pos h]
    · rw [if_neg h, hl, List.set_eq_of_length_le (l := ds.take k) (by omega), List.set_eq_of_length_le (l := [x]) (by simp; omega)]
  rw [e1]
  by_cases h : j < k
  · rw [List.eraseIdx_append_of_lt_length (by simp; omega)]
  · rw [List.eraseIdx_of_length_le (l := (ds.take k).set i d) (by simp; omega), List.eraseIdx_of_length_le (by simp; omega)]
end Go.Proofs.Ytnchhdhlhlcejaa
