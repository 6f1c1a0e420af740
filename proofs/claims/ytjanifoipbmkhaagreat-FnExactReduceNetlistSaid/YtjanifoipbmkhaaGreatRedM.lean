/- Reducing netlists: the plain part. -/
import Derived.Test.YtjanifoipbmkhaaGreatMpMo
import Derived.Test.YtjanifoipbmkhaaGreatRems
import Derived.Test.YtjanifoipbmkhaaGreatSrtA
import Derived.Test.YtjanifoipbmkhaaGreatParB
import Derived.Test.YtjanifoipbmkhaaGreatRens
import Derived.Test.YtjanifoipbmkhaaGreatNorms
import Derived.Test.YtjanifoipbmkhaaGreatSrtB
namespace Go.Proofs.YtjanifoipbmkhaaGreat
open Go.RowKit
set_option linter.unusedVariables false
set_option linter.unusedSimpArgs false

/-- What a merge with code 0 is made of. -/
theorem mgC_parts {x : Nl} {i j : Int} (hc : mgC x i j = 0) : nlB x = true ∧ ∃ (a b : Nat) (A B : Dv), i = a ∧ j = b ∧ a < b ∧ x.ds[a]? = some A ∧ x.ds[b]? = some B ∧ mgE x A B = 0 ∧ mgR x i j = ⟨x.nets, (x.ds.set a (mgD A B (serB x A B))).eraseIdx b, x.ps⟩ := by
  have hv : nlB x = true := by
    cases h : nlB x with
    | true => rfl
    | false => rw [mgC_valid h] at hc; exact absurd hc (by decide)
  have hr : 0 ≤ i ∧ i < j ∧ j < x.ds.length := by
    by_cases hr : 0 ≤ i ∧ i < j ∧ j < x.ds.length
    · exact hr
    · rw [mgC_range hv hr] at hc; exact absurd hc (by decide)
  obtain ⟨h1, h2, h3⟩ := hr
  obtain ⟨a, rfl⟩ := Int.eq_ofNat_of_zero_le h1
  obtain ⟨b, rfl⟩ := Int.eq_ofNat_of_zero_le (show 0 ≤ j by omega)
  have ha : x.ds[a]? = some (x.ds[a]'(by omega)) := List.getElem?_eq_getElem _
  have hb : x.ds[b]? = some (x.ds[b]'(by omega)) := List.getElem?_eq_getElem _
  rw [mgC_in hv (by omega) ha hb] at hc
  exact ⟨hv, a, b, _, _, rfl, rfl, by omega, ha, hb, hc, mgR_in hv (by omega) ha hb hc⟩
theorem mgE_zero {x : Nl} {A B : Dv} (h : mgE x A B = 0) : (serB x A B = true ∨ parB A B = true) ∧ (mgD A B (serB x A B)).wd ≤ 1000000 ∧ (mgD A B (serB x A B)).len ≤ 1000000 := by
  unfold mgE at h
  split at h
  · exact absurd h (by decide)
  · rename_i h1
    split at h
    · exact absurd h (by decide)
    · rename_i h2
      refine ⟨?_, by omega, by omega⟩
      cases h3 : serB x A B with
      | true => exact .inl rfl
      | false =>
        cases h4 : parB A B with
        | true => exact .inr rfl
        | false => exact absurd ⟨h3, h4⟩ h1
/-- The merged netlist is valid. -/
theorem mgR_okR {x : Nl} {a b : Nat} {A B : Dv} (hv : nlB x = true) (hA : x.ds[a]? = some A) (hB : x.ds[b]? = some B) (h : mgE x A B = 0) :
    nlB ⟨x.nets, (x.ds.set a (mgD A B (serB x A B))).eraseIdx b, x.ps⟩ = true := by
  have hv' := hv
  simp only [nlB, Bool.and_eq_true, decide_eq_true_eq, List.all_eq_true] at hv
  obtain ⟨h1, h2, h3, h4, h5⟩ := hv
  have mA := List.mem_of_getElem? hA
  have mB := List.mem_of_getElem? hB
  obtain ⟨hsp, hw, hl⟩ := mgE_zero h
  have hk : A.kind = B.kind := by
    rcases hsp with hs | hp
    · exact (preB_kindE (serB_oneB hs).1).1
    · simp only [parB, Bool.and_eq_true, decide_eq_true_eq] at hp; exact hp.1
  have hd : dvB x.nets (mgD A B (serB x A B)) = true := mgD_valid (h4 A mA) (h4 B mB) hk (fun hs => (serB_oneB hs).2) hw hl
  simp only [nlB, Bool.and_eq_true, decide_eq_true_eq, List.all_eq_true]
  refine ⟨h1, ?_, h3, fun d hdm => ?_, h5⟩
  · have := List.length_eraseIdx_le (x.ds.set a (mgD A B (serB x A B))) b
    rw [List.length_set] at this
    omega
  · have hm := (List.eraseIdx_sublist _ _).subset hdm
    rcases List.mem_or_eq_of_mem_set hm with hm | rfl
    · exact h4 d hm
    · exact hd

/-- A device with its current pins in ascending order. -/
def normD (d : Dv) : Dv := ⟨d.kind, normz d.kind d.pins, d.wd, d.len⟩
theorem lastTwo_facts (zs : List Int) : (lastTwo zs).length = zs.length ∧ ∀ p ∈ lastTwo zs, p ∈ zs := by
  match zs with
  | [] => simp [lastTwo]
  | [p] => simp [lastTwo]
  | [p, q] => simp [lastTwo]; constructor <;> omega
  | [g, p, q] => simp [lastTwo]; constructor <;> omega
  | a :: b :: c :: d :: r => simp [lastTwo]
theorem normz_facts (k : Int) (zs : List Int) : (normz k zs).length = zs.length ∧ ∀ p ∈ normz k zs, p ∈ zs := by
  unfold normz
  split
  · exact lastTwo_facts zs
  · exact ⟨rfl, fun p h => h⟩
theorem dvB_norm {nets : Int} {d : Dv} (h : dvB nets d = true) : dvB nets (normD d) = true := by
  obtain ⟨a1, a2, a3, a4, a5, a6⟩ := dvB_all h
  obtain ⟨n1, n2⟩ := normz_facts d.kind d.pins
  unfold dvB normD
  simp only [Bool.and_eq_true, decide_eq_true_eq, List.all_eq_true]
  exact ⟨a1, by rw [n1]; exact a2, a3, a4, fun p hp => a5 p (n2 p hp), by simpa using a6⟩
/-- A netlist is as valid as another one with the same nets and ports whose devices are valid and no more. -/
theorem nlB_of {x : Nl} {ds : List Dv} (h : nlB x = true) (hl : ds.length ≤ x.ds.length) (hd : ∀ d ∈ ds, dvB x.nets d = true) : nlB ⟨x.nets, ds, x.ps⟩ = true := by
  simp only [nlB, Bool.and_eq_true, decide_eq_true_eq, List.all_eq_true] at h ⊢
  exact ⟨h.1, by omega, h.2.2.1, hd, h.2.2.2.2⟩
theorem nlB_dvs {x : Nl} (h : nlB x = true) : ∀ d ∈ x.ds, dvB x.nets d = true := (nlB_facts h).2.2.2.1
def nrmS (x : Nl) : Nl := ⟨x.nets, x.ds.map normD, x.ps⟩
theorem nrmS_valid {x : Nl} (h : nlB x = true) : nlB (nrmS x) = true := nlB_of h (by simp) (fun d hd => by
  obtain ⟨e, he, rfl⟩ := List.mem_map.1 hd
  exact dvB_norm (nlB_dvs h e he))
theorem sortS_valid {x : Nl} (h : nlB x = true) : nlB (sortS x) = true := nlB_of h (by rw [length_srtD]; exact Nat.le_refl _) (fun d hd => nlB_dvs h d ((srtD_perm x.ds).mem_iff.1 hd))
theorem rmS_valid {x : Nl} (h : nlB x = true) : nlB (rmS x) = true := by
  rw [rmS_yes h]
  exact nlB_of h (List.length_filter_le _ _) (fun d hd => nlB_dvs h d (List.mem_filter.1 hd).1)
theorem rmS_len (x : Nl) : (rmS x).ds.length ≤ x.ds.length := by
  cases h : nlB x with
  | false => rw [rmS_no h]; exact Nat.zero_le _
  | true => rw [rmS_yes h]; exact List.length_filter_le _ _
theorem rmS_same {x : Nl} (h : nlB x = true) : (rmS x).nets = x.nets ∧ (rmS x).ps = x.ps := by rw [rmS_yes h]; exact ⟨rfl, rfl⟩
/-- The next two devices that are merged. -/
noncomputable def nextP (x : Nl) : Int × Int × Bool := if (firstP parB x.ds).2.2 = true then firstP parB x.ds else firstP (serB x) x.ds
theorem mgR_facts {x : Nl} {i j : Int} (h : mgC x i j = 0) : nlB (mgR x i j) = true ∧ (mgR x i j).nets = x.nets ∧ (mgR x i j).ps = x.ps ∧ (mgR x i j).ds.length + 1 = x.ds.length := by
  obtain ⟨hv, a, b, A, B, rfl, rfl, hab, hA, hB, hE, hR⟩ := mgC_parts h
  have hbl := (List.getElem?_eq_some_iff.1 hB).1
  rw [hR]
  refine ⟨mgR_okR hv hA hB hE, rfl, rfl, ?_⟩
  show ((x.ds.set a _).eraseIdx b).length + 1 = _
  rw [List.length_eraseIdx_of_lt (by simpa using hbl), List.length_set]
  omega
/-- The reduction up to the devices' forms and order, and the code. -/
noncomputable def redk : Nat → Nl → Nl × Int
  | 0, x => (x, 0)
  | k + 1, x => if (nextP (rmS x)).2.2 = true then (if mgC (rmS x) (nextP (rmS x)).1 (nextP (rmS x)).2.1 = 0 then redk k (mgR (rmS x) (nextP (rmS x)).1 (nextP (rmS x)).2.1) else (⟨0, [], []⟩, mgC (rmS x) (nextP (rmS x)).1 (nextP (rmS x)).2.1)) else (rmS x, 0)
noncomputable def redF (x : Nl) : Nl × Int := redk (x.ds.length + 1) x
theorem redk_eq : ∀ (k : Nat) (x : Nl), x.ds.length < k → redk k x = redF x
  | 0, x, h => by omega
  | k + 1, x, h => by
    unfold redF redk
    split
    · split
      · rename_i h1 h2
        have hl := (mgR_facts h2).2.2.2
        have hr := rmS_len x
        rw [redk_eq k _ (by omega)]
        cases hx : x.ds.length with
        | zero => omega
        | succ m => rw [redk_eq (m + 1) _ (by omega)]
      · rfl
    · rfl
termination_by k => k
decreasing_by all_goals omega
theorem redF_eq (x : Nl) : redF x = if (nextP (rmS x)).2.2 = true then (if mgC (rmS x) (nextP (rmS x)).1 (nextP (rmS x)).2.1 = 0 then redk x.ds.length (mgR (rmS x) (nextP (rmS x)).1 (nextP (rmS x)).2.1) else (⟨0, [], []⟩, mgC (rmS x) (nextP (rmS x)).1 (nextP (rmS x)).2.1)) else (rmS x, 0) := by
  unfold redF; rw [redk]
theorem redF_stop {x : Nl} (h : (nextP (rmS x)).2.2 = false) : redF x = (rmS x, 0) := by rw [redF_eq, if_neg (by rw [h]; simp)]
theorem redF_err {x : Nl} (h : (nextP (rmS x)).2.2 = true) (h' : mgC (rmS x) (nextP (rmS x)).1 (nextP (rmS x)).2.1 ≠ 0) : redF x = (⟨0, [], []⟩, mgC (rmS x) (nextP (rmS x)).1 (nextP (rmS x)).2.1) := by
  rw [redF_eq, if_pos h, if_neg h']
theorem redF_go {x : Nl} (h : (nextP (rmS x)).2.2 = true) (h' : mgC (rmS x) (nextP (rmS x)).1 (nextP (rmS x)).2.1 = 0) : redF x = redF (mgR (rmS x) (nextP (rmS x)).1 (nextP (rmS x)).2.1) := by
  rw [redF_eq, if_pos h, if_pos h']
  have h1 := (mgR_facts h').2.2.2
  have h2 := rmS_len x
  exact redk_eq _ _ (by omega)
/-- The reduction, and its code. -/
noncomputable def rdS (x : Nl) : Nl := if nlB x = true then (if (redF x).2 = 0 then cmS (sortS (nrmS (redF x).1)) else ⟨0, [], []⟩) else ⟨0, [], []⟩
noncomputable def rdC (x : Nl) : Int := if nlB x = true then (redF x).2 else 1
theorem rd_no {x : Nl} (h : nlB x = false) : rdS x = ⟨0, [], []⟩ ∧ rdC x = 1 := by simp [rdS, rdC, h]
theorem rd_err {x : Nl} (h : nlB x = true) (h' : (redF x).2 ≠ 0) : rdS x = ⟨0, [], []⟩ ∧ rdC x = (redF x).2 := by simp [rdS, rdC, h, h']
theorem rd_yes {x y : Nl} (h : nlB x = true) (h' : redF x = (y, 0)) : rdS x = cmS (sortS (nrmS y)) ∧ rdC x = 0 := by simp [rdS, rdC, h, h']
end Go.Proofs.YtjanifoipbmkhaaGreat
