/- FnRename's plain part: renaming by a permutation and by its inverse restores a netlist; the degrees add up to the pins. -/
import Derived.Test.YtdljbmfmmlcmmaaRdAgs
import Derived.Test.YtdljbmfmmlcmmaaOrdB
namespace Go.Proofs.Ytdljbmfmmlcmmaa
open Go.RowKit
set_option linter.unusedVariables false
set_option linter.unusedSimpArgs false

/-- The inverse after k of its steps. -/
def rnvTo (names : List Int) (k : Nat) : List Int := (List.range names.length).map fun (q : Nat) => if (q : Int) ∈ names.take k then (names.idxOf (q : Int) : Int) else 0
theorem length_rnvTo (names : List Int) (k : Nat) : (rnvTo names k).length = names.length := by simp [rnvTo]
theorem rnvTo_get {names : List Int} {k q : Nat} (h : q < names.length) : (rnvTo names k)[q]? = some (if (q : Int) ∈ names.take k then (names.idxOf (q : Int) : Int) else 0) := by simp [rnvTo, h]
theorem idx_at {names : List Int} (hn : names.Nodup) {k : Nat} {z : Int} (h : names[k]? = some z) : names.idxOf z = k := by
  obtain ⟨hk, rfl⟩ := List.getElem?_eq_some_iff.1 h
  exact hn.idxOf_getElem k hk
theorem rnvTo_step {names : List Int} (hn : names.Nodup) {k q : Nat} (h : names[k]? = some (q : Int)) (hq : q < names.length) : (rnvTo names k).set q (k : Int) = rnvTo names (k + 1) := by
  apply List.ext_getElem?
  intro i
  by_cases e : q = i
  · subst e
    rw [List.getElem?_set_self (by rw [length_rnvTo]; exact hq), rnvTo_get hq, take_snoc_of names k _ h, if_pos (by simp), idx_at hn h]
  · rw [List.getElem?_set_ne e]
    by_cases hi : i < names.length
    · rw [rnvTo_get hi, rnvTo_get hi, take_snoc_of names k _ h]
      have : ((i : Int) ∈ names.take k ++ [(q : Int)]) ↔ (i : Int) ∈ names.take k := by simp; omega
      simp only [this]
    · rw [List.getElem?_eq_none (by rw [length_rnvTo]; omega), List.getElem?_eq_none (by rw [length_rnvTo]; omega)]
def rnvZ (names : List Int) : List Int := rnvTo names names.length
theorem mem_all {names : List Int} {n : Int} (h : permB names n = true) {q : Nat} (hq : (q : Int) < n) : (q : Int) ∈ names := by
  obtain ⟨h1, h2, h3⟩ := permB_iff.1 h
  exact (permB_perm h).mem_iff.2 ((mem_iota _ _).2 (by omega))
theorem rnvZ_get {names : List Int} {n : Int} (h : permB names n = true) {q : Nat} (hq : (q : Int) < n) : (rnvZ names)[q]? = some (names.idxOf (q : Int) : Int) := by
  obtain ⟨h1, h2, h3⟩ := permB_iff.1 h
  unfold rnvZ
  rw [rnvTo_get (by omega), List.take_length, if_pos (mem_all h hq)]
theorem nm_get {names : List Int} {n : Int} (h : permB names n = true) {p : Int} (h0 : 0 ≤ p) (h1 : p < n) : names[p.toNat]? = some (nmOf names p) ∧ 0 ≤ nmOf names p ∧ nmOf names p < n := by
  obtain ⟨e1, e2, e3⟩ := permB_iff.1 h
  have hl : p.toNat < names.length := by omega
  have e : nmOf names p = names[p.toNat] := by simp [nmOf, hl]
  rw [e]
  exact ⟨List.getElem?_eq_getElem hl, e3 _ (List.getElem_mem hl)⟩
theorem nm_inv {names : List Int} {n : Int} (h : permB names n = true) {p : Int} (h0 : 0 ≤ p) (h1 : p < n) : nmOf (rnvZ names) (nmOf names p) = p := by
  obtain ⟨g1, g2, g3⟩ := nm_get h h0 h1
  have hn := (permB_iff.1 h).2.1
  have e := idx_at hn g1
  obtain ⟨q, hq⟩ := Int.eq_ofNat_of_zero_le g2
  rw [hq] at e g3 ⊢
  have := rnvZ_get h g3
  have e2 : nmOf (rnvZ names) (q : Int) = (names.idxOf (q : Int) : Int) := by
    unfold nmOf
    rw [Int.toNat_natCast, List.getD_eq_getElem?_getD, this]; rfl
  rw [e2, e]
  omega
theorem nm_injP {names : List Int} {n : Int} (h : permB names n = true) {p q : Int} (p0 : 0 ≤ p) (p1 : p < n) (q0 : 0 ≤ q) (q1 : q < n) (e : nmOf names p = nmOf names q) : p = q := by
  have a := nm_inv h p0 p1
  have b := nm_inv h q0 q1
  rw [e, b] at a
  exact a.symm
theorem inv_perm {names : List Int} {n : Int} (h : permB names n = true) : permB (rnvZ names) n = true := by
  obtain ⟨h1, h2, h3⟩ := permB_iff.1 h
  refine permB_iff.2 ⟨by unfold rnvZ; rw [length_rnvTo]; exact h1, ?_, fun z hz => ?_⟩
  · unfold List.Nodup
    rw [List.pairwise_iff_getElem]
    intro i j hi hj hij e
    have li : i < names.length := by unfold rnvZ at hi; rwa [length_rnvTo] at hi
    have lj : j < names.length := by unfold rnvZ at hj; rwa [length_rnvTo] at hj
    have a := rnvZ_get h (q := i) (by omega)
    have b := rnvZ_get h (q := j) (by omega)
    rw [List.getElem?_eq_getElem hi] at a
    rw [List.getElem?_eq_getElem hj] at b
    have a' := Option.some.inj a
    have b' := Option.some.inj b
    rw [a', b'] at e
    have hi' := List.idxOf_lt_length_of_mem (mem_all h (q := i) (by omega))
    have hj' := List.idxOf_lt_length_of_mem (mem_all h (q := j) (by omega))
    have e1 := List.getElem_idxOf hi'
    have e2 := List.getElem_idxOf hj'
    have e' : names.idxOf (i : Int) = names.idxOf (j : Int) := by omega
    simp only [e'] at e1
    rw [e2] at e1
    omega
  · obtain ⟨i, hi, rfl⟩ := List.getElem_of_mem hz
    have li : i < names.length := by unfold rnvZ at hi; rwa [length_rnvTo] at hi
    have a := rnvZ_get h (q := i) (by omega)
    rw [List.getElem?_eq_getElem hi] at a
    rw [Option.some.inj a]
    have hi' := List.idxOf_lt_length_of_mem (mem_all h (q := i) (by omega))
    omega
theorem pin_in {x : Nl} (h : nlB x = true) {d : Dv} (hd : d ∈ x.ds) {p : Int} (hp : p ∈ d.pins) : 0 ≤ p ∧ p < x.nets := ⟨(pin_used h hd hp).1, (pin_used h hd hp).2.1⟩
theorem ren_back {x : Nl} {names : List Int} (hv : nlB x = true) (h : permB names x.nets = true) : renS (renS x names x.nets) (rnvZ names) x.nets = x := by
  unfold renS
  simp only [List.map_map]
  have e1 : x.ds.map (renD (rnvZ names) ∘ renD names) = x.ds := map_id_of _ _ (fun d hd => dv_ext rfl (by
    show (d.pins.map (nmOf names)).map (nmOf (rnvZ names)) = d.pins
    rw [List.map_map]
    exact map_id_of _ _ (fun p hp => nm_inv h (pin_in hv hd hp).1 (pin_in hv hd hp).2)) rfl rfl)
  have e2 : x.ps.map (renP (rnvZ names) ∘ renP names) = x.ps := map_id_of _ _ (fun p hp => by
    show (⟨p.name, nmOf (rnvZ names) (nmOf names p.net)⟩ : Pt) = p
    rw [nm_inv h (port_used hv hp).1 (port_used hv hp).2.1])
  rw [e1, e2]
theorem ren_valid {x : Nl} {names : List Int} (hv : nlB x = true) (h : permB names x.nets = true) : nlB (renS x names x.nets) = true := by
  obtain ⟨⟨n0, n1⟩, hl, hp, hd, hpt⟩ := nlB_facts hv
  have hv' := hv
  simp only [nlB, Bool.and_eq_true, decide_eq_true_eq, List.all_eq_true] at hv'
  simp only [nlB, Bool.and_eq_true, decide_eq_true_eq, List.all_eq_true, ptsB, List.mem_range]
  refine ⟨hv'.1, by simp only [renS, List.length_map]; exact hv'.2.1, by simp only [renS, List.length_map]; exact hv'.2.2.1, fun d hdm => ?_, fun i hi => ?_⟩
  · obtain ⟨e, he, rfl⟩ := List.mem_map.1 hdm
    obtain ⟨a1, a2, a3, a4, a5, a6⟩ := dvB_all (hd e he)
    unfold dvB renD renS
    simp only [Bool.and_eq_true, decide_eq_true_eq, List.all_eq_true]
    refine ⟨a1, by rw [List.length_map]; exact a2, a3, a4, fun p hpm => ?_, by simpa using a6⟩
    obtain ⟨q, hq, rfl⟩ := List.mem_map.1 hpm
    obtain ⟨q0, q1⟩ := pin_in hv he hq
    have := (nm_get h q0 q1).2
    exact inB_iff.2 ⟨this.1, by omega⟩
  · have hi' : i < x.ps.length := by simpa [renS] using hi
    exact ptOk_map i hi' (hpt i hi') (fun p hpm => by
      obtain ⟨q0, q1, _⟩ := port_used hv hpm
      have := (nm_get h q0 q1).2
      show inB (nmOf names p.net) 0 (x.nets - 1) = true
      exact inB_iff.2 ⟨this.1, by omega⟩)
theorem ren_deg {x : Nl} {names : List Int} (hv : nlB x = true) (h : permB names x.nets = true) {net : Int} (h0 : 0 ≤ net) (h1 : net < x.nets) : degN (renS x names x.nets).ds (nmOf names net) = degN x.ds net :=
  degN_ren names x.ds net (fun d hd p hp e => nm_injP h (pin_in hv hd hp).1 (pin_in hv hd hp).2 h0 h1 e)
/-- The degrees of the first k nets. -/
def dgS (ds : List Dv) : Nat → Nat
  | 0 => 0
  | k + 1 => dgS ds k + degN ds k
def dgC (zs : List Int) : Nat → Nat
  | 0 => 0
  | k + 1 => dgC zs k + zs.count (k : Int)
def pinS : List Dv → Nat
  | [] => 0
  | d :: ds => d.pins.length + pinS ds
theorem dgC_cons (z : Int) (zs : List Int) (k : Nat) : dgC (z :: zs) k = dgC zs k + if 0 ≤ z ∧ z < k then 1 else 0 := by
  induction k with
  | zero => rw [if_neg (by omega)]; rfl
  | succ k ih =>
    simp only [dgC, ih, List.count_cons]
    by_cases e : z = k
    · subst e; rw [if_neg (by omega), if_pos (by simp), if_pos (by omega)]; omega
    · have e' : ¬ (z == (k : Int)) = true := by simpa using e
      rw [if_neg e']
      by_cases h : 0 ≤ z ∧ z < k
      · rw [if_pos h, if_pos (by omega)]; omega
      · rw [if_neg h, if_neg (by omega)]; omega
theorem dgC_nil (k : Nat) : dgC [] k = 0 := by induction k with
  | zero => rfl
  | succ k ih => simp [dgC, ih]
theorem dgC_all (zs : List Int) (k : Nat) (h : ∀ z ∈ zs, 0 ≤ z ∧ z < k) : dgC zs k = zs.length := by
  induction zs with
  | nil => exact dgC_nil k
  | cons z zs ih => rw [dgC_cons, ih (fun y hy => h y (List.mem_cons_of_mem _ hy)), if_pos (h z List.mem_cons_self)]; rfl
theorem dgS_cons (d : Dv) (ds : List Dv) (k : Nat) : dgS (d :: ds) k = dgC d.pins k + dgS ds k := by
  induction k with
  | zero => rfl
  | succ k ih => simp only [dgS, dgC, ih, degN]; omega
theorem dgS_nil (k : Nat) : dgS [] k = 0 := by induction k with
  | zero => rfl
  | succ k ih => simp [dgS, ih, degN]
theorem dgS_all (ds : List Dv) (k : Nat) (h : ∀ d ∈ ds, ∀ z ∈ d.pins, 0 ≤ z ∧ z < k) : dgS ds k = pinS ds := by
  induction ds with
  | nil => exact dgS_nil k
  | cons d ds ih => rw [dgS_cons, dgC_all _ _ (h d List.mem_cons_self), ih (fun e he => h e (List.mem_cons_of_mem _ he))]; rfl
theorem deg_sum {x : Nl} (hv : nlB x = true) : dgS x.ds x.nets.toNat = pinS x.ds := dgS_all _ _ (fun d hd z hz => by
  have := pin_in hv hd hz
  omega)
end Go.Proofs.Ytdljbmfmmlcmmaa
