/- FnSorted's plain part: a compacted netlist is valid, and each of its nets is used. -/
import Derived.Test.YtdljbmfmmlcmmaaRens
import Derived.Test.YtdljbmfmmlcmmaaSrtA
import Derived.Test.YtdljbmfmmlcmmaaMpMo
import Derived.Test.YtdljbmfmmlcmmaaRems
import Derived.Test.YtdljbmfmmlcmmaaCmps
import Derived.Test.YtdljbmfmmlcmmaaNorms
import Derived.Test.YtdljbmfmmlcmmaaSrtB
namespace Go.Proofs.Ytdljbmfmmlcmmaa
open Go.RowKit
set_option linter.unusedVariables false
set_option linter.unusedSimpArgs false

theorem degN_pos {ds : List Dv} {net : Int} : 0 < degN ds net ↔ ∃ d ∈ ds, net ∈ d.pins := by
  induction ds with
  | nil => simp [degN]
  | cons y ys ih =>
    simp only [degN, List.mem_cons]
    constructor
    · intro h
      by_cases hc : 0 < y.pins.count net
      · exact ⟨y, .inl rfl, List.count_pos_iff.1 hc⟩
      · obtain ⟨d, h1, h2⟩ := ih.1 (by omega)
        exact ⟨d, .inr h1, h2⟩
    · rintro ⟨d, rfl | h, h2⟩
      · have := List.count_pos_iff.2 h2; omega
      · have := ih.2 ⟨d, h, h2⟩; omega
theorem portB_iff {ps : List Pt} {net : Int} : portB ps net = true ↔ ∃ p ∈ ps, p.net = net := by
  simp [portB]
theorem usedB_iff {x : Nl} {net : Int} : usedB x net = true ↔ (∃ d ∈ x.ds, net ∈ d.pins) ∨ ∃ p ∈ x.ps, p.net = net := by
  unfold usedB
  rw [Bool.or_eq_true, portB_iff, decide_eq_true_eq, degN_pos]
theorem cnt_mono (x : Nl) {a b : Nat} (h : a ≤ b) : cnt x a ≤ cnt x b := by
  induction h with
  | refl => exact Nat.le_refl _
  | step _ ih => rw [cnt_succ]; omega
theorem cnt_lt {x : Nl} {a b : Nat} (h : a < b) (hu : usedB x a = true) : cnt x a < cnt x b := by
  have h1 := cnt_mono x (show a + 1 ≤ b from h)
  rw [cnt_succ, if_pos hu] at h1
  omega
theorem cnt_hit (x : Nl) : ∀ (n k : Nat), k < cnt x n → ∃ i, i < n ∧ usedB x i = true ∧ cnt x i = k
  | 0, k, h => by simp [cnt] at h
  | n + 1, k, h => by
    rw [cnt_succ] at h
    by_cases hk : k < cnt x n
    · obtain ⟨i, a, b⟩ := cnt_hit x n k hk
      exact ⟨i, by omega, b⟩
    · by_cases hu : usedB x n = true
      · rw [if_pos hu] at h
        exact ⟨n, by omega, hu, by omega⟩
      · rw [if_neg hu] at h; omega
theorem nmOf_nmC {x : Nl} {n p : Nat} (h : p < n) : nmOf (nmC x n) (p : Int) = (cnt x p : Int) := by
  simp [nmOf, nmC, h]

/-- Each net that a valid netlist refers to gets a name below the number of names. -/
theorem name_bd {x : Nl} {p : Int} (h0 : 0 ≤ p) (h1 : p < x.nets) (hu : usedB x p = true) : 0 ≤ nmOf (nmC x x.nets.toNat) p ∧ nmOf (nmC x x.nets.toNat) p < (cnt x x.nets.toNat : Int) := by
  obtain ⟨q, rfl⟩ := Int.eq_ofNat_of_zero_le h0
  rw [nmOf_nmC (by omega)]
  have := cnt_lt (x := x) (a := q) (b := x.nets.toNat) (by omega) hu
  omega
theorem cmS_yes {x : Nl} (h : nlB x = true) : cmS x = renS x (nmC x x.nets.toNat) (cnt x x.nets.toNat) := by simp [cmS, h]
theorem cmS_no {x : Nl} (h : nlB x = false) : cmS x = ⟨0, [], []⟩ := by simp [cmS, h]
theorem ptOk_map {x : Nl} {names : List Int} {nets : Int} (i : Nat) (hi : i < x.ps.length) (h : ptOk x.nets x.ps i = true) (hb : ∀ p ∈ x.ps, inB (nmOf names p.net) 0 (nets - 1) = true) : ptOk nets (x.ps.map (renP names)) i = true := by
  have hp := List.getElem?_eq_getElem hi
  have hbi := hb x.ps[i] (List.getElem_mem hi)
  unfold ptOk at *
  rw [List.getElem?_map, hp]
  rw [hp] at h
  simp only [Option.map_some, Bool.and_eq_true] at h ⊢
  refine ⟨h.1, hbi, ?_⟩
  have h3 := h.2.2
  cases i with
  | zero => rfl
  | succ j =>
    simp only [List.getElem?_map] at h3 ⊢
    cases hj : x.ps[j]? with
    | none => rfl
    | some y => rw [hj] at h3; exact h3
theorem cmS_valid {x : Nl} (h : nlB x = true) : nlB (cmS x) = true := by
  rw [cmS_yes h]
  obtain ⟨⟨n0, n1⟩, hl, hp, hd, hpt⟩ := nlB_facts h
  have hcl := cnt_le x x.nets.toNat
  have hpn : ∀ p ∈ x.ps, inB (nmOf (nmC x x.nets.toNat) p.net) 0 ((cnt x x.nets.toNat : Int) - 1) = true := by
    intro p hpm
    obtain ⟨i, hi, e⟩ := List.getElem_of_mem hpm
    have h1 := hpt i hi
    have hin : inB p.net 0 (x.nets - 1) = true := by
      unfold ptOk at h1
      rw [List.getElem?_eq_getElem hi, e] at h1
      simp only [Bool.and_eq_true] at h1
      exact h1.2.1
    have h2 := inB_iff.1 hin
    have h3 := name_bd (x := x) (p := p.net) h2.1 (by omega) (usedB_iff.2 (.inr ⟨p, hpm, rfl⟩))
    exact inB_iff.2 ⟨h3.1, by omega⟩
  simp only [nlB, renS, Bool.and_eq_true, decide_eq_true_eq, List.all_eq_true, List.length_map, ptsB, List.mem_range]
  refine ⟨inB_iff.2 ⟨by omega, by omega⟩, hl, hp, fun d hdm => ?_, fun i hi => ptOk_map i hi (hpt i hi) hpn⟩
  obtain ⟨e, he, rfl⟩ := List.mem_map.1 hdm
  obtain ⟨a1, a2, a3, a4, a5, a6⟩ := dvB_all (hd e he)
  unfold dvB renD
  simp only [Bool.and_eq_true, decide_eq_true_eq, List.all_eq_true, List.length_map]
  refine ⟨a1, a2, a3, a4, fun p hpm => ?_, ?_⟩
  · obtain ⟨q, hq, rfl⟩ := List.mem_map.1 hpm
    have h2 := inB_iff.1 (a5 q hq)
    have h3 := name_bd (x := x) (p := q) h2.1 (by omega) (usedB_iff.2 (.inl ⟨e, he, hq⟩))
    exact inB_iff.2 ⟨h3.1, by omega⟩
  · simpa using a6
theorem cmS_used {x : Nl} (h : nlB x = true) {net : Int} (h0 : 0 ≤ net) (h1 : net < (cmS x).nets) : usedB (cmS x) net = true := by
  obtain ⟨k, rfl⟩ := Int.eq_ofNat_of_zero_le h0
  rw [cmS_yes h] at h1 ⊢
  obtain ⟨i, hi, hu, hk⟩ := cnt_hit x x.nets.toNat k (by simp only [renS] at h1; omega)
  have hn : nmOf (nmC x x.nets.toNat) (i : Int) = (k : Int) := by rw [nmOf_nmC hi, hk]
  rw [usedB_iff]
  rcases usedB_iff.1 hu with ⟨d, hd, hp⟩ | ⟨p, hp, he⟩
  · exact .inl ⟨renD _ d, List.mem_map_of_mem hd, by rw [← hn]; exact List.mem_map_of_mem hp⟩
  · exact .inr ⟨renP _ p, List.mem_map_of_mem hp, by show nmOf _ p.net = _; rw [he, hn]⟩
theorem cmS_sizes {x : Nl} (h : nlB x = true) : (cmS x).ds.length = x.ds.length ∧ (cmS x).nets ≤ x.nets ∧ 0 ≤ (cmS x).nets := by
  rw [cmS_yes h]
  have := cnt_le x x.nets.toNat
  obtain ⟨⟨n0, n1⟩, _⟩ := nlB_facts h
  refine ⟨by simp [renS], ?_, ?_⟩ <;> simp only [renS] <;> omega
/-- How many of the first k devices equal a device. -/
def eqN (ds : List Dv) (y : Dv) (k : Nat) : Nat := (ds.take k).countP fun x => decide (dcf x y = 0)
theorem eqN_step {ds : List Dv} {k : Nat} {x : Dv} (y : Dv) (h : ds[k]? = some x) : eqN ds y (k + 1) = eqN ds y k + if dcf x y = 0 then 1 else 0 := by
  unfold eqN
  rw [take_snoc_of ds k x h, List.countP_append, List.countP_singleton]
  simp
theorem eqN_le (ds : List Dv) (y : Dv) (k : Nat) : eqN ds y k ≤ k := by
  have := List.countP_le_length (l := ds.take k) (p := fun x => decide (dcf x y = 0))
  rw [List.length_take] at this
  unfold eqN; omega
theorem eqN_srt (ds : List Dv) (y : Dv) : eqN (srtD ds) y ds.length = eqN ds y ds.length := by
  unfold eqN
  have e : (srtD ds).take ds.length = srtD ds := List.take_of_length_le (by rw [length_srtD]; exact Nat.le_refl _)
  rw [e, List.take_length]
  exact (srtD_perm ds).countP_eq _
theorem srtD_asc {ds : List Dv} {i j : Nat} {x y : Dv} (hij : i < j) (hx : (srtD ds)[i]? = some x) (hy : (srtD ds)[j]? = some y) : dcf x y ≤ 0 := by
  have h := List.pairwise_iff_getElem.1 (srtD_pairwise ds) i j (List.getElem?_eq_some_iff.1 hx).1 (List.getElem?_eq_some_iff.1 hy).1 hij
  obtain ⟨_, e1⟩ := List.getElem?_eq_some_iff.1 hx
  obtain ⟨_, e2⟩ := List.getElem?_eq_some_iff.1 hy
  rw [e1, e2, dlt_false] at h
  have := dcf_flip x y
  omega
end Go.Proofs.Ytdljbmfmmlcmmaa

/- Reducing netlists: the plain part. -/
namespace Go.Proofs.Ytdljbmfmmlcmmaa
open Go.RowKit
set_option linter.unusedVariables false
set_option linter.unusedSimpArgs false

/-- What a merge with code 0 is made of. -/
theorem mgC_parts {x : Nl} {i j : Int} (hc : mgC x i j = 0) : nlB x = true ∧ ∃ (a b : Nat) (A B : Dv), i = a ∧ j = b ∧ a < b ∧ x.ds[a]? = some A ∧ x.ds[b]? = some B ∧ mgE x A B = 0 ∧ mgR x i j = ⟨x.nets, (x.ds.set a (mgD A B (serB x A B))).eraseIdx b, x.ps⟩ := by
  have hv : nlB x = true := by
    cases h : nlB x with
    | true => rfl
    | false => rw [mgC_valid h] at hc; exact absurd hc (by decide)
  have hr : 0 ≤ i ∧ i < j ∧ j < x.ds.length := by
    by_cases hr : 0 ≤ i ∧ i < j ∧ j < x.ds.length
    · exact hr
    · rw [mgC_range hv hr] at hc; exact absurd hc (by decide)
  obtain ⟨h1, h2, h3⟩ := hr
  obtain ⟨a, rfl⟩ := Int.eq_ofNat_of_zero_le h1
  obtain ⟨b, rfl⟩ := Int.eq_ofNat_of_zero_le (show 0 ≤ j by omega)
  have ha : x.ds[a]? = some (x.ds[a]'(by omega)) := List.getElem?_eq_getElem _
  have hb : x.ds[b]? = some (x.ds[b]'(by omega)) := List.getElem?_eq_getElem _
  rw [mgC_in hv (by omega) ha hb] at hc
  exact ⟨hv, a, b, _, _, rfl, rfl, by omega, ha, hb, hc, mgR_in hv (by omega) ha hb hc⟩
theorem mgE_zero {x : Nl} {A B : Dv} (h : mgE x A B = 0) : (serB x A B = true ∨ parB A B = true) ∧ (mgD A B (serB x A B)).wd ≤ 1000000 ∧ (mgD A B (serB x A B)).len ≤ 1000000 := by
  unfold mgE at h
  split at h
  · exact absurd h (by decide)
  · rename_i h1
    split at h
    · exact absurd h (by decide)
    · rename_i h2
      refine ⟨?_, by omega, by omega⟩
      cases h3 : serB x A B with
      | true => exact .inl rfl
      | false =>
        cases h4 : parB A B with
        | true => exact .inr rfl
        | false => exact absurd ⟨h3, h4⟩ h1
/-- The merged netlist is valid. -/
theorem mgR_okR {x : Nl} {a b : Nat} {A B : Dv} (hv : nlB x = true) (hA : x.ds[a]? = some A) (hB : x.ds[b]? = some B) (h : mgE x A B = 0) :
    nlB ⟨x.nets, (x.ds.set a (mgD A B (serB x A B))).eraseIdx b, x.ps⟩ = true := by
  have hv' := hv
  simp only [nlB, Bool.and_eq_true, decide_eq_true_eq, List.all_eq_true] at hv
  obtain ⟨h1, h2, h3, h4, h5⟩ := hv
  have mA := List.mem_of_getElem? hA
  have mB := List.mem_of_getElem? hB
  obtain ⟨hsp, hw, hl⟩ := mgE_zero h
  have hk : A.kind = B.kind := by
    rcases hsp with hs | hp
    · exact (preB_kindE (serB_oneB hs).1).1
    · simp only [parB, Bool.and_eq_true, decide_eq_true_eq] at hp; exact hp.1
  have hd : dvB x.nets (mgD A B (serB x A B)) = true := mgD_valid (h4 A mA) (h4 B mB) hk (fun hs => (serB_oneB hs).2) hw hl
  simp only [nlB, Bool.and_eq_true, decide_eq_true_eq, List.all_eq_true]
  refine ⟨h1, ?_, h3, fun d hdm => ?_, h5⟩
  · have := List.length_eraseIdx_le (x.ds.set a (mgD A B (serB x A B))) b
    rw [List.length_set] at this
    omega
  · have hm := (List.eraseIdx_sublist _ _).subset hdm
    rcases List.mem_or_eq_of_mem_set hm with hm | rfl
    · exact h4 d hm
    · exact hd

/-- A device with its current pins in ascending order. -/
def normD (d : Dv) : Dv := ⟨d.kind, normz d.kind d.pins, d.wd, d.len⟩
theorem lastTwo_facts (zs : List Int) : (lastTwo zs).length = zs.length ∧ ∀ p ∈ lastTwo zs, p ∈ zs := by
  match zs with
  | [] => simp [lastTwo]
  | [p] => simp [lastTwo]
  | [p, q] => simp [lastTwo]; constructor <;> omega
  | [g, p, q] => simp [lastTwo]; constructor <;> omega
  | a :: b :: c :: d :: r => simp [lastTwo]
theorem normz_facts (k : Int) (zs : List Int) : (normz k zs).length = zs.length ∧ ∀ p ∈ normz k zs, p ∈ zs := by
  unfold normz
  split
  · exact lastTwo_facts zs
  · exact ⟨rfl, fun p h => h⟩
theorem dvB_norm {nets : Int} {d : Dv} (h : dvB nets d = true) : dvB nets (normD d) = true := by
  obtain ⟨a1, a2, a3, a4, a5, a6⟩ := dvB_all h
  obtain ⟨n1, n2⟩ := normz_facts d.kind d.pins
  unfold dvB normD
  simp only [Bool.and_eq_true, decide_eq_true_eq, List.all_eq_true]
  exact ⟨a1, by rw [n1]; exact a2, a3, a4, fun p hp => a5 p (n2 p hp), by simpa using a6⟩
/-- A netlist is as valid as another one with the same nets and ports whose devices are valid and no more. -/
theorem nlB_of {x : Nl} {ds : List Dv} (h : nlB x = true) (hl : ds.length ≤ x.ds.length) (hd : ∀ d ∈ ds, dvB x.nets d = true) : nlB ⟨x.nets, ds, x.ps⟩ = true := by
  simp only [nlB, Bool.and_eq_true, decide_eq_true_eq, List.all_eq_true] at h ⊢
  exact ⟨h.1, by omega, h.2.2.1, hd, h.2.2.2.2⟩
theorem nlB_dvs {x : Nl} (h : nlB x = true) : ∀ d ∈ x.ds, dvB x.nets d = true := (nlB_facts h).2.2.2.1
def nrmS (x : Nl) : Nl := ⟨x.nets, x.ds.map normD, x.ps⟩
theorem nrmS_valid {x : Nl} (h : nlB x = true) : nlB (nrmS x) = true := nlB_of h (by simp) (fun d hd => by
  obtain ⟨e, he, rfl⟩ := List.mem_map.1 hd
  exact dvB_norm (nlB_dvs h e he))
theorem sortS_valid {x : Nl} (h : nlB x = true) : nlB (sortS x) = true := nlB_of h (by rw [length_srtD]; exact Nat.le_refl _) (fun d hd => nlB_dvs h d ((srtD_perm x.ds).mem_iff.1 hd))
theorem rmS_valid {x : Nl} (h : nlB x = true) : nlB (rmS x) = true := by
  rw [rmS_yes h]
  exact nlB_of h (List.length_filter_le _ _) (fun d hd => nlB_dvs h d (List.mem_filter.1 hd).1)
theorem rmS_len (x : Nl) : (rmS x).ds.length ≤ x.ds.length := by
  cases h : nlB x with
  | false => rw [rmS_no h]; exact Nat.zero_le _
  | true => rw [rmS_yes h]; exact List.length_filter_le _ _
theorem rmS_same {x : Nl} (h : nlB x = true) : (rmS x).nets = x.nets ∧ (rmS x).ps = x.ps := by rw [rmS_yes h]; exact ⟨rfl, rfl⟩
/-- The next two devices that are merged. -/
noncomputable def nextP (x : Nl) : Int × Int × Bool := if (firstP parB x.ds).2.2 = true then firstP parB x.ds else firstP (serB x) x.ds
theorem mgR_facts {x : Nl} {i j : Int} (h : mgC x i j = 0) : nlB (mgR x i j) = true ∧ (mgR x i j).nets = x.nets ∧ (mgR x i j).ps = x.ps ∧ (mgR x i j).ds.length + 1 = x.ds.length := by
  obtain ⟨hv, a, b, A, B, rfl, rfl, hab, hA, hB, hE, hR⟩ := mgC_parts h
  have hbl := (List.getElem?_eq_some_iff.1 hB).1
  rw [hR]
  refine ⟨mgR_okR hv hA hB hE, rfl, rfl, ?_⟩
  show ((x.ds.set a _).eraseIdx b).length + 1 = _
  rw [List.length_eraseIdx_of_lt (by simpa using hbl), List.length_set]
  omega
/-- The reduction up to the devices' forms and order, and the code. -/
noncomputable def redk : Nat → Nl → Nl × Int
  | 0, x => (x, 0)
  | k + 1, x => if (nextP (rmS x)).2.2 = true then (if mgC (rmS x) (nextP (rmS x)).1 (nextP (rmS x)).2.1 = 0 then redk k (mgR (rmS x) (nextP (rmS x)).1 (nextP (rmS x)).2.1) else (⟨0, [], []⟩, mgC (rmS x) (nextP (rmS x)).1 (nextP (rmS x)).2.1)) else (rmS x, 0)
noncomputable def redF (x : Nl) : Nl × Int := redk (x.ds.length + 1) x
theorem redk_eq : ∀ (k : Nat) (x : Nl), x.ds.length < k → redk k x = redF x
  | 0, x, h => by omega
  | k + 1, x, h => by
    unfold redF redk
    split
    · split
      · rename_i h1 h2
        have hl := (mgR_facts h2).2.2.2
        have hr := rmS_len x
        rw [redk_eq k _ (by omega)]
        cases hx : x.ds.length with
        | zero => omega
        | succ m => rw [redk_eq (m + 1) _ (by omega)]
      · rfl
    · rfl
termination_by k => k
decreasing_by all_goals omega
theorem redF_eq (x : Nl) : redF x = if (nextP (rmS x)).2.2 = true then (if mgC (rmS x) (nextP (rmS x)).1 (nextP (rmS x)).2.1 = 0 then redk x.ds.length (mgR (rmS x) (nextP (rmS x)).1 (nextP (rmS x)).2.1) else (⟨0, [], []⟩, mgC (rmS x) (nextP (rmS x)).1 (nextP (rmS x)).2.1)) else (rmS x, 0) := by
  unfold redF; rw [redk]
theorem redF_stop {x : Nl} (h : (nextP (rmS x)).2.2 = false) : redF x = (rmS x, 0) := by rw [redF_eq, if_neg (by rw [h]; simp)]
theorem redF_err {x : Nl} (h : (nextP (rmS x)).2.2 = true) (h' : mgC (rmS x) (nextP (rmS x)).1 (nextP (rmS x)).2.1 ≠ 0) : redF x = (⟨0, [], []⟩, mgC (rmS x) (nextP (rmS x)).1 (nextP (rmS x)).2.1) := by
  rw [redF_eq, if_pos h, if_neg h']
theorem redF_go {x : Nl} (h : (nextP (rmS x)).2.2 = true) (h' : mgC (rmS x) (nextP (rmS x)).1 (nextP (rmS x)).2.1 = 0) : redF x = redF (mgR (rmS x) (nextP (rmS x)).1 (nextP (rmS x)).2.1) := by
  rw [redF_eq, if_pos h, if_pos h']
  have h1 := (mgR_facts h').2.2.2
  have h2 := rmS_len x
  exact redk_eq _ _ (by omega)
/-- The reduction, and its code. -/
noncomputable def rdS (x : Nl) : Nl := if nlB x = true then (if (redF x).2 = 0 then cmS (sortS (nrmS (redF x).1)) else ⟨0, [], []⟩) else ⟨0, [], []⟩
noncomputable def rdC (x : Nl) : Int := if nlB x = true then (redF x).2 else 1
theorem rd_no {x : Nl} (h : nlB x = false) : rdS x = ⟨0, [], []⟩ ∧ rdC x = 1 := by simp [rdS, rdC, h]
theorem rd_err {x : Nl} (h : nlB x = true) (h' : (redF x).2 ≠ 0) : rdS x = ⟨0, [], []⟩ ∧ rdC x = (redF x).2 := by simp [rdS, rdC, h, h']
theorem rd_yes {x y : Nl} (h : nlB x = true) (h' : redF x = (y, 0)) : rdS x = cmS (sortS (nrmS y)) ∧ rdC x = 0 := by simp [rdS, rdC, h, h']
end Go.Proofs.Ytdljbmfmmlcmmaa
