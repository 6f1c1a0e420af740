/- Permutations of 0 .. n-1, their inverses, one behind another: plain. -/
import Derived.Test.YtjldkejegdljiaaBase
namespace Go.Proofs.Ytjldkejegdljiaa
set_option linter.unusedVariables false
def iota (n : Nat) : List Int := (List.range n).map (fun (i : Nat) => (i : Int))
theorem length_iota (n : Nat) : (iota n).length = n := by simp [iota]
theorem iota_get (n i : Nat) (h : i < n) : (iota n)[i]? = some (i : Int) := by simp [iota, h]
theorem mem_iota (n : Nat) (z : Int) : z ∈ iota n ↔ 0 ≤ z ∧ z < n := by
  simp only [iota, List.mem_map, List.mem_range]
  constructor
  · rintro ⟨i, hi, rfl⟩; omega
  · intro h; exact ⟨z.toNat, by omega, by omega⟩
theorem pairwise_iota (n : Nat) : (iota n).Pairwise (fun x y => decide (x ≤ y) = true) := by
  rw [List.pairwise_iff_getElem]
  intro i j hi hj hij
  simp [iota]; omega
theorem nodup_iota (n : Nat) : (iota n).Nodup := by
  unfold List.Nodup
  rw [List.pairwise_iff_getElem]
  intro i j hi hj hij
  simp [iota]; omega
theorem perm_of_nodup : ∀ (l r : List Int), l.Nodup → (∀ z ∈ l, z ∈ r) → r.length ≤ l.length → l.Perm r
  | [], r, _, _, h => by
    have : r = [] := List.eq_nil_of_length_eq_zero (by simpa using h)
    subst this; exact List.Perm.nil
  | a :: l, r, hn, hs, h => by
    rw [List.nodup_cons] at hn
    have ha : a ∈ r := hs a (by simp)
    have hp := List.perm_cons_erase ha
    refine (List.Perm.cons a (perm_of_nodup l (r.erase a) hn.2 (fun z hz => ?_) ?_)).trans hp.symm
    · rw [List.mem_erase_of_ne (fun e => hn.1 (by rw [← e]; exact hz))]
      exact hs z (by simp [hz])
    · rw [List.length_erase_of_mem ha]; simp at h; omega
def permB (zs : List Int) (n : Int) : Bool := decide ((zs.length : Int) = n ∧ zs.Nodup ∧ ∀ z ∈ zs, 0 ≤ z ∧ z < n)
theorem permB_iff {zs : List Int} {n : Int} : permB zs n = true ↔ ((zs.length : Int) = n ∧ zs.Nodup ∧ ∀ z ∈ zs, 0 ≤ z ∧ z < n) := by simp [permB]
theorem permB_perm {zs : List Int} {n : Int} (h : permB zs n = true) : zs.Perm (iota zs.length) := by
  obtain ⟨h1, h2, h3⟩ := permB_iff.1 h
  refine perm_of_nodup _ _ h2 (fun z hz => ?_) (by rw [length_iota]; exact Nat.le_refl _)
  rw [mem_iota, h1]; exact h3 z hz
def srt (zs : List Int) : List Int := zs.mergeSort (fun x y => decide (x ≤ y))
theorem length_srt (zs : List Int) : (srt zs).length = zs.length := by simp [srt]
theorem srt_perm (zs : List Int) : (srt zs).Perm zs := List.mergeSort_perm _ _
theorem srt_pairwise (zs : List Int) : (srt zs).Pairwise (fun x y => decide (x ≤ y) = true) :=
  List.pairwise_mergeSort (fun a b c h1 h2 => by simp at *; omega) (fun a b => by simp; omega) zs
theorem srt_of_perm {xs ys : List Int} (h : xs.Perm ys) (hy : ys.Pairwise (fun x y => decide (x ≤ y) = true)) : srt xs = ys :=
  List.Perm.eq_of_pairwise (fun a b _ _ h1 h2 => by simp at h1 h2; omega) (srt_pairwise xs) hy ((srt_perm xs).trans h)
theorem srt_permB {zs : List Int} {n : Int} (h : permB zs n = true) : srt zs = iota zs.length := srt_of_perm (permB_perm h) (pairwise_iota _)
theorem permB_srt_no {zs : List Int} {n : Int} {k : Nat} {v : Int} (hk : (srt zs)[k]? = some v) (hne : v ≠ k) : permB zs n = false := by
  cases h : permB zs n with
  | false => rfl
  | true =>
    have hl := (List.getElem?_eq_some_iff.1 hk).1
    rw [length_srt] at hl
    rw [srt_permB h, iota_get _ _ hl] at hk
    cases hk; exact absurd rfl hne
theorem permB_srt_all {zs : List Int} {n : Int} (h : ∀ (k : Nat) v, (srt zs)[k]? = some v → v = k) : permB zs n = decide ((zs.length : Int) = n) := by
  have e : srt zs = iota zs.length := by
    apply List.ext_getElem?
    intro k
    by_cases hk : k < zs.length
    · rw [iota_get _ _ hk, List.getElem?_eq_getElem (by rw [length_srt]; exact hk)]
      rw [h k _ (List.getElem?_eq_getElem (by rw [length_srt]; exact hk))]
    · rw [List.getElem?_eq_none (by rw [length_srt]; omega), List.getElem?_eq_none (by rw [length_iota]; omega)]
  by_cases hn : (zs.length : Int) = n
  · rw [decide_eq_true hn, permB_iff]
    have hp : zs.Perm (iota zs.length) := by rw [← e]; exact (srt_perm zs).symm
    refine ⟨hn, hp.nodup_iff.2 (nodup_iota _), fun z hz => ?_⟩
    have := (mem_iota _ _).1 (hp.mem_iff.1 hz)
    omega
  · rw [decide_eq_false hn]
    cases h' : permB zs n with
    | false => rfl
    | true => exact absurd (permB_iff.1 h').1 hn
theorem permB_out {zs : List Int} {n z : Int} (hz : z ∈ zs) (h : ¬ (0 ≤ z ∧ z < n)) : permB zs n = false := by
  cases h' : permB zs n with
  | false => rfl
  | true => exact absurd ((permB_iff.1 h').2.2 z hz) h
theorem permB_dup {zs : List Int} {n z : Int} {i j : Nat} (hij : i < j) (hi : zs[i]? = some z) (hj : zs[j]? = some z) : permB zs n = false := by
  cases h' : permB zs n with
  | false => rfl
  | true =>
    have h2 := (permB_iff.1 h').2.1
    unfold List.Nodup at h2
    rw [List.pairwise_iff_getElem] at h2
    obtain ⟨li, ei⟩ := List.getElem?_eq_some_iff.1 hi
    obtain ⟨lj, ej⟩ := List.getElem?_eq_some_iff.1 hj
    exact absurd (ei.trans ej.symm) (h2 i j li lj hij)
theorem permB_all {zs : List Int} {n : Int} (h1 : ∀ z ∈ zs, 0 ≤ z ∧ z < n) (h2 : ∀ (i j : Nat) z, i < j → zs[i]? = some z → zs[j]? = some z → False) : permB zs n = decide ((zs.length : Int) = n) := by
  by_cases hn : (zs.length : Int) = n
  · rw [decide_eq_true hn, permB_iff]
    refine ⟨hn, ?_, h1⟩
    unfold List.Nodup
    rw [List.pairwise_iff_getElem]
    intro i j li lj hij e
    exact h2 i j zs[i] hij (List.getElem?_eq_getElem li) (by rw [e]; exact List.getElem?_eq_getElem lj)
  · rw [decide_eq_false hn]
    cases h' : permB zs n with
    | false => rfl
    | true => exact absurd (permB_iff.1 h').1 hn
/-- The inverse of a permutation, the first k entries laid. -/
def invTo (zs : List Int) : Nat → List Int
  | 0 => List.replicate zs.length 0
  | k + 1 => (invTo zs k).set (zs.getD k 0).toNat k
def invS (zs : List Int) : List Int := invTo zs zs.length
theorem length_invTo (zs : List Int) (k : Nat) : (invTo zs k).length = zs.length := by
  induction k with
  | zero => simp [invTo]
  | succ k ih => simp [invTo, ih]
theorem length_invS (zs : List Int) : (invS zs).length = zs.length := length_invTo _ _
theorem invTo_step (zs : List Int) (k : Nat) (z : Int) (h : zs[k]? = some z) : invTo zs (k + 1) = (invTo zs k).set z.toNat k := by
  simp [invTo, List.getD, h]
theorem invTo_get {zs : List Int} {n : Int} (hp : permB zs n = true) (k i : Nat) (z : Int) (hik : i < k) (hk : k ≤ zs.length) (hz : zs[i]? = some z) : (invTo zs k)[z.toNat]? = some (i : Int) := by
  obtain ⟨h1, h2, h3⟩ := permB_iff.1 hp
  induction k with
  | zero => omega
  | succ k ih =>
    obtain ⟨y, hy⟩ : ∃ y, zs[k]? = some y := ⟨zs[k], List.getElem?_eq_getElem (by omega)⟩
    rw [invTo_step zs k y hy]
    have hzr := h3 z (List.mem_of_getElem? hz)
    have hyr := h3 y (List.mem_of_getElem? hy)
    by_cases e : i = k
    · subst e
      rw [hz] at hy; cases hy
      rw [List.getElem?_set_self (by rw [length_invTo]; omega)]
    · have hne : y.toNat ≠ z.toNat := by
        intro e'
        have : y = z := by omega
        subst this
        have := permB_dup (n := n) (show i < k by omega) hz hy
        rw [this] at hp; cases hp
      rw [List.getElem?_set_ne hne]
      exact ih (by omega) (by omega)
theorem invS_get {zs : List Int} {n : Int} (hp : permB zs n = true) (i : Nat) (z : Int) (hz : zs[i]? = some z) : (invS zs)[z.toNat]? = some (i : Int) :=
  invTo_get hp _ i z (List.getElem?_eq_some_iff.1 hz).1 (Nat.le_refl _) hz
theorem permB_has {zs : List Int} {n : Int} (hp : permB zs n = true) (k : Int) (h0 : 0 ≤ k) (h1 : k < n) : ∃ i : Nat, zs[i]? = some k := by
  have := (permB_perm hp).mem_iff (a := k)
  rw [mem_iota] at this
  have hl := (permB_iff.1 hp).1
  obtain ⟨i, hi, e⟩ := List.mem_iff_getElem.1 (this.2 ⟨h0, by omega⟩)
  exact ⟨i, by rw [List.getElem?_eq_getElem hi, e]⟩
theorem invS_inv {zs : List Int} {n : Int} (hp : permB zs n = true) (k : Nat) (hk : (k : Int) < n) : ∃ i : Nat, (invS zs)[k]? = some (i : Int) ∧ zs[i]? = some (k : Int) := by
  obtain ⟨i, hi⟩ := permB_has hp k (by omega) hk
  have := invS_get hp i k hi
  exact ⟨i, by simpa using this, hi⟩
theorem permB_invS {zs : List Int} {n : Int} (hp : permB zs n = true) : permB (invS zs) n = true := by
  obtain ⟨h1, h2, h3⟩ := permB_iff.1 hp
  have hl := length_invS zs
  have key : ∀ (k : Nat) v, (invS zs)[k]? = some v → ∃ i : Nat, v = i ∧ zs[i]? = some (k : Int) := by
    intro k v hv
    have hk := (List.getElem?_eq_some_iff.1 hv).1
    obtain ⟨i, e1, e2⟩ := invS_inv hp k (by omega)
    rw [e1] at hv; cases hv
    exact ⟨i, rfl, e2⟩
  rw [permB_all, hl, decide_eq_true h1]
  · intro z hz
    obtain ⟨k, hk, e⟩ := List.mem_iff_getElem.1 hz
    obtain ⟨i, e1, e2⟩ := key k z (by rw [List.getElem?_eq_getElem hk, e])
    have := (List.getElem?_eq_some_iff.1 e2).1
    omega
  · intro a b z hab ha hb
    obtain ⟨i, e1, e2⟩ := key a z ha
    obtain ⟨j, e3, e4⟩ := key b z hb
    have : i = j := by omega
    subst this
    rw [e2] at e4; simp at e4; omega
/-- A permutation behind another one. -/
def thruS (zs ys : List Int) : List Int := zs.map fun z => ys.getD z.toNat 0
theorem length_thruS (zs ys : List Int) : (thruS zs ys).length = zs.length := by simp [thruS]
theorem thru_inv {zs : List Int} {n : Int} (hp : permB zs n = true) : thruS zs (invS zs) = iota zs.length := by
  apply List.ext_getElem?
  intro i
  by_cases hi : i < zs.length
  · rw [iota_get _ _ hi]
    have hz : zs[i]? = some zs[i] := List.getElem?_eq_getElem hi
    have := invS_get hp i zs[i] hz
    simp [thruS, List.getD, hz, this]
  · rw [List.getElem?_eq_none (by rw [length_thruS]; omega), List.getElem?_eq_none (by rw [length_iota]; omega)]
theorem inv_thru {zs : List Int} {n : Int} (hp : permB zs n = true) : thruS (invS zs) zs = iota zs.length := by
  apply List.ext_getElem?
  intro i
  have hl := length_invS zs
  have hn := (permB_iff.1 hp).1
  by_cases hi : i < zs.length
  · rw [iota_get _ _ hi]
    obtain ⟨j, e1, e2⟩ := invS_inv hp i (by omega)
    simp [thruS, List.getD, e1, e2]
  · rw [List.getElem?_eq_none (by rw [length_thruS, hl]; omega), List.getElem?_eq_none (by rw [length_iota]; omega)]
end Go.Proofs.Ytjldkejegdljiaa
