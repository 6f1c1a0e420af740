/- Contracts and plain laws, part 12, for the statement's proof. -/
import Derived.Test.YtifbffianbgeaaaGreatPkCmnLaw11
import Derived.BigRegion
import Derived.Deep.RegionHeld3
import Derived.BigQuiet
namespace Go.Proofs.YtifbffianbgeaaaGreat
open Go.RowKit
set_option linter.unusedVariables false
set_option linter.unusedSimpArgs false
def srTo (g : Nat → List (List Int)) (one : Bool) : Nat → List (List Int)
  | 0 => []
  | k + 1 => if (one && decide (0 < (srTo g one k).length)) = true then srTo g one k else srTo g one k ++ g k
def srch (fit : List Int → Bool) (col : Nat → Nat → Bool) (n : Nat) (one : Bool) : Nat → List Int → List (List Int)
  | 0, nets => [nets]
  | r + 1, nets => srTo (fun k => if (col nets.length k && (!nets.contains (k : Int) && fit (nets ++ [(k : Int)]))) = true then srch fit col n one r (nets ++ [(k : Int)]) else []) one n
section
variable {g : Nat → List (List Int)} {one : Bool}
theorem srTo_stop {k : Nat} (h1 : one = true) (h : 0 < (srTo g one k).length) : ∀ m, srTo g one (k + m) = srTo g one k
  | 0 => rfl
  | m + 1 => by
    show (if (one && decide (0 < (srTo g one (k + m)).length)) = true then srTo g one (k + m) else srTo g one (k + m) ++ g (k + m)) = _
    rw [srTo_stop h1 h m, if_pos (by rw [h1] at h ⊢; simp [h])]
theorem srTo_sub {z : List Int} : ∀ {n : Nat}, z ∈ srTo g one n → ∃ k, k < n ∧ z ∈ g k
  | 0, h => by cases h
  | n + 1, h => by
    unfold srTo at h
    split at h
    · obtain ⟨k, a, b⟩ := srTo_sub h; exact ⟨k, by omega, b⟩
    · rcases List.mem_append.1 h with h | h
      · obtain ⟨k, a, b⟩ := srTo_sub h; exact ⟨k, by omega, b⟩
      · exact ⟨n, by omega, h⟩
theorem srTo_one (h1 : one = true) (hg : ∀ k, (g k).length ≤ 1) : ∀ n : Nat, (srTo g one n).length ≤ 1
  | 0 => by simp [srTo]
  | n + 1 => by
    have ih := srTo_one h1 hg n
    have := hg n
    unfold srTo
    split
    · exact ih
    · rename_i q
      have : ¬ 0 < (srTo g one n).length := fun h => q (by rw [decide_eq_true h, h1]; rfl)
      rw [List.length_append]; omega
end
section
variable {fit : List Int → Bool} {col : Nat → Nat → Bool} {n : Nat} {one : Bool}
theorem srch_one (h1 : one = true) : ∀ (r : Nat) (nets : List Int), (srch fit col n one r nets).length ≤ 1
  | 0, nets => by simp [srch]
  | r + 1, nets => srTo_one h1 (fun k => by
      try dsimp only
      split
      · exact srch_one h1 r _
      · simp) n
theorem srch_sound {z : List Int} : ∀ (r : Nat) (nets : List Int), goodN n nets → fit nets = true → (∀ i, i < nets.length → col i (nmOf nets (i : Int)).toNat = true) → nets.length + r = n → z ∈ srch fit col n one r nets →
    goodN n z ∧ z.length = n ∧ fit z = true ∧ (∀ i, i < n → col i (nmOf z (i : Int)).toNat = true) ∧ z.take nets.length = nets
  | 0, nets, hg, hf, hc, hl, h => by
    have e : z = nets := by simpa [srch] using h
    subst e
    exact ⟨hg, by omega, hf, fun i hi => hc i (by omega), List.take_length⟩
  | r + 1, nets, hg, hf, hc, hl, h => by
    obtain ⟨k, hk, hz⟩ := srTo_sub h
    (try dsimp only at hz)
    split at hz
    · rename_i q
      simp only [Bool.and_eq_true, Bool.not_eq_true', List.contains_eq_mem, decide_eq_false_iff_not] at q
      obtain ⟨q1, q2, q3⟩ := q
      obtain ⟨a, b, c, d, e⟩ := srch_sound r (nets ++ [(k : Int)]) ⟨by
          rw [List.nodup_append]
          exact ⟨hg.1, by simp, fun u hu v hv e => by rw [List.mem_singleton] at hv; subst e; subst hv; exact q2 hu⟩, fun u hu => by
          rcases List.mem_append.1 hu with hu | hu
          · exact hg.2 u hu
          · rw [List.mem_singleton] at hu; omega⟩ q3 (fun i hi => by
          rw [List.length_append, List.length_singleton] at hi
          by_cases e : i = nets.length
          · subst e
            have : nmOf (nets ++ [(k : Int)]) (nets.length : Int) = k := by unfold nmOf; simp [List.getD_eq_getElem?_getD]
            rw [this]; simpa using q1
          · have : nmOf (nets ++ [(k : Int)]) (i : Int) = nmOf nets (i : Int) := by unfold nmOf; rw [Int.toNat_natCast, List.getD_eq_getElem?_getD, List.getD_eq_getElem?_getD, List.getElem?_append_left (by omega)]
            rw [this]; exact hc i (by omega)) (by rw [List.length_append, List.length_singleton]; omega) hz
      refine ⟨a, b, c, d, ?_⟩
      rw [List.length_append, List.length_singleton] at e
      have := congrArg (List.take nets.length) e
      rw [List.take_take, Nat.min_eq_left (by omega), List.take_left] at this
      exact this
    · cases hz
end
def grd (A B : List Dv) : Nat → List Int
  | 0 => []
  | k + 1 => grd A B k ++ [((((List.range B.length).find? fun j : Nat => !(grd A B k).contains (j : Int) && decide (B[j]? = A[k]?)).getD 0 : Nat) : Int)]
theorem nodup_sub_len : ∀ {a b : List Int}, a.Nodup → (∀ z ∈ a, z ∈ b) → a.length ≤ b.length
  | [], b, _, _ => by simp
  | x :: a, b, hn, h => by
    have hx := h x (by simp)
    have hn' := List.nodup_cons.1 hn
    have := nodup_sub_len (a := a) (b := b.erase x) hn'.2 (fun z hz => by
      have : z ≠ x := fun e => hn'.1 (e ▸ hz)
      exact (List.mem_erase_of_ne this).2 (h z (by simp [hz])))
    rw [List.length_erase_of_mem hx] at this
    have hp := List.length_pos_of_mem hx
    rw [List.length_cons]; omega
theorem cnt_idx {α : Type} [DecidableEq α] (B : List α) (a : α) : ((List.range B.length).filter fun j => decide (B[j]? = some a)).length = B.count a := by
  have h : ∀ k, k ≤ B.length → ((List.range k).filter fun j => decide (B[j]? = some a)).length = (B.take k).count a := by
    intro k hk
    induction k with
    | zero => simp
    | succ k ih =>
      have e : B[k]? = some B[k] := List.getElem?_eq_getElem (by omega)
      rw [List.range_succ, List.filter_append, List.length_append, ih (by omega), take_snoc_of B k _ e, List.count_append, List.count_singleton]
      congr 1
      by_cases q : B[k] = a
      · rw [List.filter_cons_of_pos (by simp [e, q])]; simp [q]
      · rw [List.filter_cons_of_neg (by simp [e, q])]; simp [q]
  have := h _ (Nat.le_refl _)
  rwa [List.take_length] at this
structure GrdOk (A B : List Dv) (k : Nat) : Prop where
  len : (grd A B k).length = k
  nodup : (grd A B k).Nodup
  range : ∀ z ∈ grd A B k, 0 ≤ z ∧ z < (B.length : Int)
  same : (grd A B k).map (fun z => B[z.toNat]?) = (A.take k).map some
theorem grd_next {A B : List Dv} (hp : A.Perm B) {k : Nat} (hk : k < A.length) (h : GrdOk A B k) : ∃ j : Nat, j < B.length ∧ ¬ (j : Int) ∈ grd A B k ∧ B[j]? = A[k]? := by
  have ea : A[k]? = some A[k] := List.getElem?_eq_getElem hk
  by_cases hex : ∃ j : Nat, j < B.length ∧ ¬ (j : Int) ∈ grd A B k ∧ B[j]? = A[k]?
  · exact hex
  · exfalso
    have hall : ∀ j, j < B.length → B[j]? = some A[k] → (j : Int) ∈ grd A B k := fun j hj e => by
      by_cases q : (j : Int) ∈ grd A B k
      · exact q
      · exact absurd ⟨j, hj, q, by rw [e, ea]⟩ hex
    have h1 := cnt_idx B A[k]
    have h2 : (((List.range B.length).filter fun j => decide (B[j]? = some A[k])).map fun j : Nat => (j : Int)).length ≤ ((grd A B k).filter fun z => decide (B[z.toNat]? = some A[k])).length := by
      refine nodup_sub_len ?_ (fun z hz => ?_)
      · have : ((List.range B.length).filter fun j => decide (B[j]? = some A[k])).Nodup := (List.nodup_range).sublist List.filter_sublist
        exact List.Pairwise.map (fun j : Nat => (j : Int)) (fun a b h e => h (by omega)) this
      · obtain ⟨j, hj, rfl⟩ := List.mem_map.1 hz
        rw [List.mem_filter, List.mem_range] at hj
        rw [List.mem_filter]
        exact ⟨hall j hj.1 (by simpa using hj.2), by simpa using hj.2⟩
    rw [List.length_map, h1] at h2
    have h3 : ((grd A B k).filter fun z => decide (B[z.toNat]? = some A[k])).length = (A.take k).count A[k] := by
      have e := congrArg (List.countP (fun o => decide (o = some A[k]))) h.same
      rw [List.countP_map, List.countP_map] at e
      rw [← List.countP_eq_length_filter]
      refine Eq.trans ?_ (e.trans ?_)
      · rfl
      · rw [List.count]
        congr 1
        funext a
        rw [Bool.eq_iff_iff]
        simp [Function.comp]
    rw [h3, ← hp.count_eq] at h2
    have h4 : A.count A[k] = (A.take k).count A[k] + (A.drop k).count A[k] := by rw [← List.count_append, List.take_append_drop]
    have h5 : 0 < (A.drop k).count A[k] := by
      exact List.count_pos_iff.2 (by rw [List.drop_eq_getElem_cons hk]; exact List.mem_cons_self)
    omega
theorem grd_pick {A B : List Dv} {k : Nat} (h : ∃ j : Nat, j < B.length ∧ ¬ (j : Int) ∈ grd A B k ∧ B[j]? = A[k]?) :
    ∃ j : Nat, grd A B (k + 1) = grd A B k ++ [(j : Int)] ∧ j < B.length ∧ ¬ (j : Int) ∈ grd A B k ∧ B[j]? = A[k]? ∧ ∀ i : Nat, i < j → ¬ (¬ (i : Int) ∈ grd A B k ∧ B[i]? = A[k]?) := by
  obtain ⟨j0, a, b, c⟩ := h
  cases hf : (List.range B.length).find? fun j : Nat => !(grd A B k).contains (j : Int) && decide (B[j]? = A[k]?) with
  | none =>
    have := List.find?_eq_none.1 hf j0 (List.mem_range.2 a)
    simp at this
    exact absurd c (this b)
  | some j =>
    refine ⟨j, by rw [grd, hf]; rfl, ?_⟩
    have h1 := List.find?_some hf
    have h2 := List.mem_of_find?_eq_some hf
    rw [List.mem_range] at h2
    simp only [Bool.and_eq_true, Bool.not_eq_true', List.contains_eq_mem, decide_eq_false_iff_not, decide_eq_true_eq] at h1
    refine ⟨h2, h1.1, h1.2, fun i hi q => ?_⟩
    obtain ⟨_, us, bs, e, hn⟩ := List.find?_eq_some_iff_append.1 hf
    have hil : us.length = j := by
      have e1 : (us ++ j :: bs)[us.length]? = some j := by simp
      rw [← e, List.getElem?_range (by have := congrArg List.length e; simp at this; omega)] at e1
      simpa using e1
    have him : i ∈ us := by
      have e1 : (List.range B.length)[i]? = some i := List.getElem?_range (by omega)
      rw [e, List.getElem?_append_left (by omega)] at e1
      exact List.mem_of_getElem? e1
    have := hn i him
    simp [q.1, q.2] at this
theorem grd_ok {A B : List Dv} (hp : A.Perm B) : ∀ k, k ≤ A.length → GrdOk A B k
  | 0, _ => ⟨rfl, by simp [grd], by simp [grd], by simp [grd]⟩
  | k + 1, hk => by
    have ih := grd_ok hp k (by omega)
    obtain ⟨j, e, h1, h2, h3, _⟩ := grd_pick (grd_next hp (by omega) ih)
    have ea : A[k]? = some A[k] := List.getElem?_eq_getElem (by omega)
    refine ⟨by rw [e, List.length_append, ih.len]; rfl, ?_, ?_, ?_⟩
    · rw [e, List.nodup_append]
      exact ⟨ih.nodup, by simp, fun a ha b hb q => by rw [List.mem_singleton] at hb; subst q; subst hb; exact h2 ha⟩
    · intro z hz
      rw [e] at hz
      rcases List.mem_append.1 hz with hz | hz
      · exact ih.range z hz
      · rw [List.mem_singleton] at hz; omega
    · rw [e, List.map_append, ih.same, take_snoc_of A k _ ea, List.map_append]
      simp [h3, ea]
theorem pt_in {x : Nl} (h : nlB x = true) {p : Pt} (hp : p ∈ x.ps) : 0 ≤ p.net ∧ p.net < x.nets := by
  obtain ⟨_, _, _, _, h5⟩ := nlB_facts h
  obtain ⟨i, hi, e⟩ := List.mem_iff_getElem.1 hp
  have := h5 i hi
  have e2 : x.ps[i]? = some p := by rw [List.getElem?_eq_getElem hi, e]
  unfold ptOk at this
  rw [e2] at this
  simp only [Bool.and_eq_true] at this
  have := inB_iff.1 this.2.1
  omega
theorem good_perm {n : Nat} {z : List Int} (hg : goodN n z) (hz : z.length = n) : permB z (n : Int) = true := permB_iff.2 ⟨by omega, hg.1, hg.2⟩
theorem full_perm {x y : Nl} {n : Nat} {z : List Int} (hx : ∀ d ∈ x.ds, dvB (n : Int) d = true) (hy : ∀ d ∈ y.ds, dvB (n : Int) d = true) (hg : goodN n z) (hz : z.length = n) (h : fitI x y z = true) :
    (x.ds.map fun d => nzD (renD z d)).Perm (y.ds.map nzD) := by
  unfold fitI at h
  have h := srtD_eq.1 (of_decide_eq_true h)
  rw [List.filter_eq_self.2 (fun d hd => by
    rw [List.all_eq_true]
    intro p hp
    have := dvB_in (hx d hd) hp
    simpa using (by omega : p < (z.length : Int)))] at h
  rw [List.filter_eq_self.2 (fun d hd => by
    obtain ⟨e, he, rfl⟩ := List.mem_map.1 hd
    rw [nz_all _ (dvB_Two (hy e he)), List.all_eq_true]
    intro p hp
    have := dvB_in (hy e he) hp
    obtain ⟨i, hi⟩ := permB_has (good_perm hg hz) p this.1 this.2
    simpa using List.mem_of_getElem? hi)] at h
  exact h
theorem iso_of {x y : Nl} (hx : nlB x = true) (hy : nlB y = true) (hn : y.nets = x.nets) (hl : y.ds.length = x.ds.length) (hpl : y.ps.length = x.ps.length) (hnm : ∀ (i : Nat) (a b : Pt), x.ps[i]? = some a → y.ps[i]? = some b → b.name = a.name)
    {z : List Int} (hg : goodN x.nets.toNat z) (hz : z.length = x.nets.toNat) (hf : fitB x y z = true) :
    NlIso x y z (grd (x.ds.map fun d => nzD (renD z d)) (y.ds.map nzD) x.ds.length) := by
  obtain ⟨⟨n0, n1⟩, _, _, hdx, _⟩ := nlB_facts hx
  obtain ⟨_, _, _, hdy, _⟩ := nlB_facts hy
  obtain ⟨n, hnn⟩ : ∃ n : Nat, x.nets = n := ⟨x.nets.toNat, by omega⟩
  rw [hn, hnn] at hdy
  rw [hnn] at hdx
  have hnt : x.nets.toNat = n := by omega
  rw [hnt] at hg hz
  unfold fitB at hf
  rw [hn, hnt] at hf
  simp only [Bool.and_eq_true] at hf
  obtain ⟨hf1, hf2⟩ := hf
  rw [fit_same hdx hdy hg] at hf2
  have hperm := full_perm hdx hdy hg hz hf2
  have ok := grd_ok hperm x.ds.length (by simp)
  refine ⟨by rw [hnn]; exact good_perm hg hz, permB_iff.2 ⟨by rw [ok.len], ok.nodup, fun q hq => by have := ok.range q hq; rw [List.length_map, hl] at this; exact this⟩, hn, hl, fun i d hd => ?_, hpl, fun i a ha => ?_⟩
  · have hi := (List.getElem?_eq_some_iff.1 hd).1
    have h1 := congrArg (fun l => l[i]?) ok.same
    (try dsimp only at h1)
    rw [List.getElem?_map, List.getElem?_map, nm_get (by rw [ok.len]; exact hi), List.getElem?_take_of_lt hi, List.getElem?_map, hd] at h1
    simp only [Option.map_some, Option.some.injEq, List.getElem?_map] at h1
    obtain ⟨e, he, e2⟩ := Option.map_eq_some_iff.1 h1
    exact ⟨e, he, (nz_eqv (dvB_Two (hdx d (List.mem_of_getElem? hd))) (dvB_Two (hdy e (List.mem_of_getElem? he)))).1 e2.symm⟩
  · have hi := (List.getElem?_eq_some_iff.1 ha).1
    have hb : y.ps[i]? = some (y.ps[i]'(by omega)) := List.getElem?_eq_getElem (by omega)
    refine ⟨_, hb, hnm i a _ ha hb, ?_⟩
    have h1 : prtLR x.ps y.ps (lefTo n z.length) (rigTo n z z.length) i = true := by
      have := hf1
      simp only [allB, List.all_eq_true, List.mem_range] at this
      exact this i hi
    unfold prtLR at h1
    rw [ha, hb] at h1
    simp only [decide_eq_true_eq] at h1
    have ra := pt_in hx (List.mem_of_getElem? ha)
    have rb := pt_in hy (List.mem_of_getElem? hb)
    rw [nm_lefTo ra.1 (by omega), if_pos (by omega)] at h1
    obtain ⟨k, hk⟩ := permB_has (good_perm hg hz) _ rb.1 (by omega)
    have hkl := (List.getElem?_eq_some_iff.1 hk).1
    have e3 : nmOf z (k : Int) = (y.ps[i]'(by omega)).net := by have := nm_get hkl; rw [hk] at this; exact (Option.some.inj this).symm
    rw [← e3, nm_rig hg hkl] at h1
    rw [h1]; exact e3.symm
theorem iota_map {α : Type} (B : List α) (d : α) : (iota B.length).map (fun z => (B[z.toNat]?).getD d) = B := by
  apply List.ext_getElem?
  intro i
  by_cases h : i < B.length
  · simp [iota, h]
  · have : B[i]? = none := by simp; omega
    simp [iota, h, this]
theorem NlIso.perm {x y : Nl} {p q : List Int} (H : NlIso x y p q) (hx : nlB x = true) (hy : nlB y = true) : (x.ds.map fun d => nzD (renD p d)).Perm (y.ds.map nzD) := by
  obtain ⟨_, _, _, hdx, _⟩ := nlB_facts hx
  obtain ⟨_, _, _, hdy, _⟩ := nlB_facts hy
  have hq := permB_perm H.pq
  have hql := (permB_iff.1 H.pq).1
  have h2 := hq.map (fun z => ((y.ds.map nzD)[z.toNat]?).getD ⟨0, [], 0, 0⟩)
  have e1 : q.length = (y.ds.map nzD).length := by rw [List.length_map, H.len]; omega
  rw [e1, iota_map] at h2
  refine List.Perm.trans (List.Perm.of_eq ?_) h2
  apply List.ext_getElem?
  intro i
  by_cases hi : i < x.ds.length
  · have hd : x.ds[i]? = some x.ds[i] := List.getElem?_eq_getElem hi
    obtain ⟨e, he, hv⟩ := H.dev i _ hd
    have eq := nm_get (zs := q) (i := i) (by omega)
    rw [List.getElem?_map, List.getElem?_map, hd, eq]
    simp only [Option.map_some, List.getElem?_map, he, Option.getD_some, Option.some.injEq]
    exact (nz_eqv (dvB_Two (hdx _ (List.mem_of_getElem? hd))) (dvB_Two (hdy e (List.mem_of_getElem? he)))).2 hv
  · have a : x.ds[i]? = none := by simp; omega
    have b : q[i]? = none := by simp; omega
    rw [List.getElem?_map, List.getElem?_map, a, b]; rfl
def colB (cx cy : List Int) (i k : Nat) : Bool := decide (nmOf cx (i : Int) = nmOf cy (k : Int))
noncomputable def srchS (x y : Nl) (one : Bool) : List (List Int) := srch (fitB x y) (colB (refNet x).1.1 (refNet y).1.1) x.nets.toNat one x.nets.toNat []
theorem fit_root {x y : Nl} (hx : nlB x = true) (hy : nlB y = true) (hn : y.nets = x.nets) (hpl : y.ps.length = x.ps.length) : fitB x y [] = true := by
  obtain ⟨⟨n0, n1⟩, _, _, hdx, _⟩ := nlB_facts hx
  obtain ⟨_, _, _, hdy, _⟩ := nlB_facts hy
  obtain ⟨n, hnn⟩ : ∃ n : Nat, x.nets = n := ⟨x.nets.toNat, by omega⟩
  have hnt : x.nets.toNat = n := by omega
  rw [hn, hnn] at hdy
  rw [hnn] at hdx
  unfold fitB
  rw [hn, hnt, fit_same hdx hdy ⟨by simp, by simp⟩, Bool.and_eq_true]
  constructor
  · refine allB_yes (fun i hi => ?_)
    have ha : x.ps[i]? = some x.ps[i] := List.getElem?_eq_getElem hi
    have hb : y.ps[i]? = some (y.ps[i]'(by omega)) := List.getElem?_eq_getElem (by omega)
    have ra := pt_in hx (List.mem_of_getElem? ha)
    have rb := pt_in hy (List.mem_of_getElem? hb)
    unfold prtLR
    rw [ha, hb]
    simp only [decide_eq_true_eq]
    rw [nm_lefTo ra.1 (by omega), if_neg (by simp; omega)]
    exact (nm_rig_no (nets := []) ⟨by simp, by simp⟩ rb.1 (by omega) (by simp)).symm
  · unfold fitI
    rw [decide_eq_true_eq]
    have e : ∀ (P : Int → Bool) (hP : ∀ p, 0 ≤ p → P p = false) (ds : List Dv), (∀ d ∈ ds, dvB (n : Int) d = true) → ds.filter (fun d => d.pins.all P) = [] := fun P hP ds h => by
      rw [List.filter_eq_nil_iff]
      intro d hd hc
      have h2 := dvB_pins (h d hd)
      have hc := List.all_eq_true.1 hc
      cases hp : d.pins with
      | nil => rw [hp] at h2; simp at h2
      | cons a s =>
        have ha : a ∈ d.pins := by rw [hp]; simp
        have := hc a ha
        rw [hP a (h2.2.2 a ha).1] at this; cases this
    rw [e _ (fun p hp => by simpa using hp) x.ds hdx, List.filter_map]
    rw [show y.ds.filter ((fun d : Dv => d.pins.all fun p => ([] : List Int).contains p) ∘ nzD) = y.ds.filter (fun d => d.pins.all fun p => ([] : List Int).contains p) from filter_cong (fun d hd => nz_all _ (dvB_Two (hdy d hd)))]
    rw [e _ (fun p hp => by simp) y.ds hdy]
    rfl
theorem srchS_iso {x y : Nl} (hx : nlB x = true) (hy : nlB y = true) (hn : y.nets = x.nets) (hl : y.ds.length = x.ds.length) (hpl : y.ps.length = x.ps.length) (hnm : ∀ (i : Nat) (a b : Pt), x.ps[i]? = some a → y.ps[i]? = some b → b.name = a.name)
    {one : Bool} {z : List Int} (h : z ∈ srchS x y one) : goodN x.nets.toNat z ∧ z.length = x.nets.toNat ∧ fitB x y z = true ∧ NlIso x y z (grd (x.ds.map fun d => nzD (renD z d)) (y.ds.map nzD) x.ds.length) := by
  obtain ⟨a, b, c, _, _⟩ := srch_sound x.nets.toNat [] ⟨by simp, by simp⟩ (fit_root hx hy hn hpl) (fun i hi => by simp at hi) (by simp) h
  exact ⟨a, b, c, iso_of hx hy hn hl hpl hnm a b c⟩
theorem ba_loop (d : Array UInt8) : ∀ (n i : Nat) (r : List UInt8), d.size - i = n → ByteArray.toList.loop ⟨d⟩ i r = r.reverse ++ d.toList.drop i
  | 0, i, r, h => by
    rw [ByteArray.toList.loop]
    have hs : (ByteArray.mk d).size = d.size := rfl
    have hl : d.toList.length = d.size := Array.length_toList
    rw [if_neg (by omega), List.drop_eq_nil_of_le (by omega), List.append_nil]
  | n + 1, i, r, h => by
    rw [ByteArray.toList.loop]
    have hs : (ByteArray.mk d).size = d.size := rfl
    have hl : d.toList.length = d.size := Array.length_toList
    rw [if_pos (by omega), ba_loop d n (i + 1) _ (by omega), List.drop_eq_getElem_cons (by omega : i < d.toList.length)]
    have : (ByteArray.mk d).get! i = d.toList[i]'(by omega) := by
      show d[i]! = _
      rw [getElem!_pos d i (by omega)]
      exact (Array.getElem_toList _).symm
    rw [this, List.reverse_cons, List.append_assoc]; rfl
theorem ba_toList (s : ByteArray) : s.toList = s.data.toList := by
  cases s
  unfold ByteArray.toList
  rw [ba_loop _ _ 0 [] rfl]; rfl
theorem ba_inj {a b : ByteArray} (h : a.toList = b.toList) : a = b := by
  rw [ba_toList, ba_toList] at h
  exact ByteArray.ext (Array.toList_inj.1 h)
def fstNo (f : Nat → Bool) (n : Nat) : Int :=
  match (List.range n).find? (fun i => !f i) with
  | some i => (i : Int)
  | none => -1
theorem fstNo_none {f : Nat → Bool} {n : Nat} (h : ∀ i, i < n → f i = true) : fstNo f n = -1 := by
  unfold fstNo
  rw [List.find?_eq_none.2 (fun i hi => by simp [h i (List.mem_range.1 hi)])]
theorem fstNo_at {f : Nat → Bool} {n k : Nat} (hk : k < n) (h1 : f k = false) (h : ∀ i, i < k → f i = true) : fstNo f n = k := by
  unfold fstNo
  cases hf : (List.range n).find? (fun i => !f i) with
  | none =>
    have := List.find?_eq_none.1 hf k (List.mem_range.2 hk)
    simp [h1] at this
  | some j =>
    have hj := List.find?_some hf
    simp only [Bool.not_eq_true'] at hj
    obtain ⟨_, us, bs, e, hn⟩ := List.find?_eq_some_iff_append.1 hf
    have hlt := List.mem_range.1 (List.mem_of_find?_eq_some hf)
    have hil : us.length = j := by
      have e1 : (us ++ j :: bs)[us.length]? = some j := by simp
      rw [← e, List.getElem?_range (by have := congrArg List.length e; simp at this; omega)] at e1
      simpa using e1
    have h2 : ¬ j < k := fun q => by rw [h j q] at hj; cases hj
    have h3 : ¬ k < j := fun q => by
      have e1 : (List.range n)[k]? = some k := List.getElem?_range hk
      rw [e, List.getElem?_append_left (by omega)] at e1
      have := hn k (List.mem_of_getElem? e1)
      simp [h1] at this
    have : j = k := by omega
    subst this; rfl
theorem fstNo_cases (f : Nat → Bool) (n : Nat) : (fstNo f n = -1 ∧ ∀ i, i < n → f i = true) ∨ ∃ k : Nat, k < n ∧ fstNo f n = k ∧ f k = false ∧ ∀ i, i < k → f i = true := by
  by_cases h : ∃ k, k < n ∧ f k = false
  · have : ∀ m, (∀ i, i < m → f i = true) ∨ ∃ k, k < m ∧ f k = false ∧ ∀ i, i < k → f i = true := by
      intro m
      induction m with
      | zero => exact .inl (fun i hi => by omega)
      | succ m ih =>
        rcases ih with ih | ⟨k, a, b, c⟩
        · cases q : f m with
          | true =>
            exact .inl (fun i hi => by
              by_cases e : i = m
              · subst e; exact q
              · exact ih i (by omega))
          | false => exact .inr ⟨m, by omega, q, ih⟩
        · exact .inr ⟨k, by omega, b, c⟩
    rcases this n with h2 | ⟨k, a, b, c⟩
    · obtain ⟨k, a, b⟩ := h
      rw [h2 k a] at b; cases b
    · exact .inr ⟨k, a, fstNo_at a b c, b, c⟩
  · have h2 : ∀ i, i < n → f i = true := fun i hi => by
      cases q : f i with
      | true => rfl
      | false => exact absurd ⟨i, hi, q⟩ h
    exact .inl ⟨fstNo_none h2, h2⟩
def namAt (ps qs : List Pt) (i : Nat) : Bool :=
  match ps[i]?, qs[i]? with
  | some p, some q => p.name.toList == q.name.toList
  | _, _ => false
def namD (ps qs : List Pt) : Int := fstNo (namAt ps qs) (max ps.length qs.length)
def szD (d : Dv) : Dv := ⟨d.kind, [], d.wd, d.len⟩
def szL (ds : List Dv) : List Dv := srtD (ds.map szD)
def sizD (ds es : List Dv) : Int := fstNo (fun i => decide ((szL ds)[i]? = (szL es)[i]?)) ds.length
def colD (a b : List Int) : Int := fstNo (fun c => decide (a.count (c : Int) = b.count (c : Int))) 24
theorem names_of {x y : Nl} {p q : List Int} (H : NlIso x y p q) : namD x.ps y.ps = -1 := by
  refine fstNo_none (fun i hi => ?_)
  have := H.plen
  have ha : x.ps[i]? = some (x.ps[i]'(by omega)) := List.getElem?_eq_getElem (by omega)
  obtain ⟨b, hb, e, _⟩ := H.port i _ ha
  unfold namAt
  rw [ha, hb]
  simp [e]
theorem sizes_of {x y : Nl} {p q : List Int} (H : NlIso x y p q) (hx : nlB x = true) (hy : nlB y = true) : sizD x.ds y.ds = -1 := by
  have h := (H.perm hx hy).map szD
  rw [List.map_map, List.map_map] at h
  have e1 : x.ds.map (szD ∘ fun d => nzD (renD p d)) = x.ds.map szD := List.map_congr_left (fun d _ => rfl)
  have e2 : y.ds.map (szD ∘ nzD) = y.ds.map szD := List.map_congr_left (fun d _ => rfl)
  rw [e1, e2] at h
  have : szL x.ds = szL y.ds := srtD_eq.2 h
  exact fstNo_none (fun i _ => by rw [this]; simp)
theorem col_perm {a b : List Int} {p : List Int} {n : Nat} (hp : permB p (n : Int) = true) (ha : a.length = n) (hb : b.length = n) (h : ∀ i : Nat, i < n → nmOf a (i : Int) = nmOf b (nmOf p (i : Int))) : a.Perm b := by
  have h1 := (permB_perm hp).map (fun z => (b[z.toNat]?).getD 0)
  have hl := (permB_iff.1 hp).1
  rw [show p.length = b.length by omega, iota_map] at h1
  refine List.Perm.trans (List.Perm.of_eq ?_) h1
  apply List.ext_getElem?
  intro i
  by_cases hi : i < n
  · rw [nm_get (by omega), List.getElem?_map, nm_get (zs := p) (by omega), h i hi]
    unfold nmOf
    simp [List.getD_eq_getElem?_getD]
  · have e1 : a[i]? = none := by simp; omega
    have e2 : p[i]? = none := by simp; omega
    rw [List.getElem?_map, e1, e2]; rfl
theorem colD_perm {a b : List Int} (h : a.Perm b) : colD a b = -1 := fstNo_none (fun c _ => by rw [h.count_eq]; simp)
theorem colors_of {x y : Nl} {p q : List Int} (H : NlIso x y p q) (hx : nlB x = true) (hy : nlB y = true)
    (lx : ((refNet x).1.1.length : Int) = x.nets ∧ (refNet x).1.2.length = x.ds.length) (ly : ((refNet y).1.1.length : Int) = y.nets ∧ (refNet y).1.2.length = y.ds.length) :
    colD (refNet x).1.1 (refNet y).1.1 = -1 ∧ colD (refNet x).1.2 (refNet y).1.2 = -1 := by
  obtain ⟨n, hn⟩ : ∃ n : Nat, x.nets = n := ⟨x.nets.toNat, by have := (nlB_facts hx).1; omega⟩
  have hc := (H.net hx hy).2
  have hpp := H.pp
  rw [hn] at hpp
  constructor
  · exact colD_perm (col_perm hpp (by omega) (by have := H.nets; omega) (fun i hi => hc.1 i (by omega)))
  · exact colD_perm (col_perm H.pq lx.2 (by have := H.len; omega) hc.2)
noncomputable def mayB (x y : Nl) : Bool := decide (x.nets = y.nets) && (decide (x.ds.length = y.ds.length) && (decide (namD x.ps y.ps = -1) && (decide (sizD x.ds y.ds = -1) && (decide (colD (refNet x).1.1 (refNet y).1.1 = -1) && decide (colD (refNet x).1.2 (refNet y).1.2 = -1)))))
theorem namD_no {ps qs : List Pt} (h : namD ps qs = -1) : qs.length = ps.length ∧ ∀ (i : Nat) (a b : Pt), ps[i]? = some a → qs[i]? = some b → b.name = a.name := by
  rcases fstNo_cases (namAt ps qs) (max ps.length qs.length) with ⟨_, h2⟩ | ⟨k, _, e, _⟩
  · have hl : qs.length = ps.length := by
      by_cases q : ps.length < qs.length
      · have := h2 ps.length (by omega)
        unfold namAt at this
        rw [show ps[ps.length]? = none by simp] at this
        simp at this
      · by_cases q2 : qs.length < ps.length
        · have := h2 qs.length (by omega)
          unfold namAt at this
          rw [show qs[qs.length]? = none by simp, List.getElem?_eq_getElem q2] at this
          simp at this
        · omega
    refine ⟨hl, fun i a b ha hb => ?_⟩
    have hi := (List.getElem?_eq_some_iff.1 ha).1
    have := h2 i (by omega)
    unfold namAt at this
    rw [ha, hb] at this
    simp only [beq_iff_eq] at this
    have e : b.name.toList = a.name.toList := this.symm
    exact ba_inj e
  · unfold namD at h; omega
theorem mem_portTo {ps : List Pt} {net : Int} {k j : Nat} : (j : Int) ∈ portTo ps net k ↔ j < k ∧ ∃ p, ps[j]? = some p ∧ p.net = net := by
  unfold portTo
  rw [List.mem_map]
  constructor
  · rintro ⟨i, hi, e⟩
    rw [List.mem_filter, List.mem_range] at hi
    have : i = j := by omega
    subst this
    refine ⟨hi.1, ?_⟩
    cases hp : ps[i]? with
    | none => rw [hp] at hi; simp at hi
    | some p => rw [hp] at hi; exact ⟨p, rfl, by simpa using hi.2⟩
  · rintro ⟨h1, p, hp, e⟩
    exact ⟨j, by rw [List.mem_filter, List.mem_range, hp]; exact ⟨h1, by simpa using e⟩, rfl⟩
theorem nm_rig_snoc {n : Nat} {nets : List Int} {k : Int} (hg : goodN n (nets ++ [k])) {b : Int} (h0 : 0 ≤ b) (h1 : b < n) :
    nmOf (rigTo n (nets ++ [k]) (nets ++ [k]).length) b = if b = k then (nets.length : Int) else nmOf (rigTo n nets nets.length) b := by
  have hg' : goodN n nets := ⟨(List.nodup_append.1 hg.1).1, fun z hz => hg.2 z (List.mem_append.2 (.inl hz))⟩
  have hl : (nets ++ [k]).length = nets.length + 1 := by simp
  have hin : ∀ i : Nat, i < nets.length → nmOf (nets ++ [k]) (i : Int) = nmOf nets (i : Int) := fun i hi => by
    unfold nmOf; rw [Int.toNat_natCast, List.getD_eq_getElem?_getD, List.getD_eq_getElem?_getD, List.getElem?_append_left hi]
  have hk : nmOf (nets ++ [k]) (nets.length : Int) = k := by unfold nmOf; simp [List.getD_eq_getElem?_getD]
  by_cases e : b = k
  · rw [if_pos e, e]
    have := nm_rig hg (i := nets.length) (by omega)
    rw [hk] at this; exact this
  · rw [if_neg e]
    by_cases hb : b ∈ nets
    · obtain ⟨i, hi, rfl⟩ := mem_nm hb
      have a1 := nm_rig hg (i := i) (by omega)
      rw [hin i hi] at a1
      rw [a1, nm_rig hg' hi]
    · rw [nm_rig_no hg' h0 h1 hb]
      exact nm_rig_no hg h0 h1 (fun h => by
        rcases List.mem_append.1 h with h | h
        · exact hb h
        · exact e (by simpa using h))
theorem port_step {ps qs : List Pt} {n : Nat} {nets : List Int} {k : Int} (hp : ∀ p ∈ ps, 0 ≤ p.net ∧ p.net < (n : Int)) (hq : ∀ p ∈ qs, 0 ≤ p.net ∧ p.net < (n : Int)) (hl : qs.length = ps.length) (hg : goodN n (nets ++ [k]))
    (h : allB (prtLR ps qs (lefTo n nets.length) (rigTo n nets nets.length)) ps.length = true) :
    allB (prtLR ps qs (lefTo n (nets ++ [k]).length) (rigTo n (nets ++ [k]) (nets ++ [k]).length)) ps.length = decide (portTo ps (nets.length : Int) ps.length = portTo qs k qs.length) := by
  have hll : (nets ++ [k]).length = nets.length + 1 := by simp
  have at_ : ∀ j, j < ps.length → ∃ a b, ps[j]? = some a ∧ qs[j]? = some b ∧ (0 ≤ a.net ∧ a.net < (n : Int)) ∧ (0 ≤ b.net ∧ b.net < (n : Int)) := fun j hj => by
    have ha : ps[j]? = some ps[j] := List.getElem?_eq_getElem hj
    have hb : qs[j]? = some (qs[j]'(by omega)) := List.getElem?_eq_getElem (by omega)
    exact ⟨_, _, ha, hb, hp _ (List.mem_of_getElem? ha), hq _ (List.mem_of_getElem? hb)⟩
  have old : ∀ j a b, j < ps.length → ps[j]? = some a → qs[j]? = some b → (if a.net < (nets.length : Int) then a.net else -1) = nmOf (rigTo n nets nets.length) b.net := fun j a b hj ha hb => by
    have := h
    simp only [allB, List.all_eq_true, List.mem_range] at this
    have := this j hj
    unfold prtLR at this
    rw [ha, hb] at this
    have h2 := of_decide_eq_true this
    have r := hp _ (List.mem_of_getElem? ha)
    rw [nm_lefTo r.1 r.2] at h2
    exact h2
  have new : ∀ j a b, j < ps.length → ps[j]? = some a → qs[j]? = some b → prtLR ps qs (lefTo n (nets ++ [k]).length) (rigTo n (nets ++ [k]) (nets ++ [k]).length) j = decide ((if a.net < (nets.length : Int) + 1 then a.net else -1) = if b.net = k then (nets.length : Int) else nmOf (rigTo n nets nets.length) b.net) := fun j a b hj ha hb => by
    have r := hp _ (List.mem_of_getElem? ha)
    have s := hq _ (List.mem_of_getElem? hb)
    unfold prtLR
    rw [ha, hb]
    dsimp only
    rw [nm_lefTo r.1 r.2, nm_rig_snoc hg s.1 s.2, hll]
    simp
  have lt : ∀ j a b, j < ps.length → ps[j]? = some a → qs[j]? = some b → nmOf (rigTo n nets nets.length) b.net < (nets.length : Int) := fun j a b hj ha hb => by
    rw [← old j a b hj ha hb]; split <;> omega
  have iff : allB (prtLR ps qs (lefTo n (nets ++ [k]).length) (rigTo n (nets ++ [k]) (nets ++ [k]).length)) ps.length = true ↔ ∀ j a b, j < ps.length → ps[j]? = some a → qs[j]? = some b → (a.net = (nets.length : Int) ↔ b.net = k) := by
    constructor
    · intro hA j a b hj ha hb
      simp only [allB, List.all_eq_true, List.mem_range] at hA
      have h2 := hA j hj
      rw [new j a b hj ha hb] at h2
      have h2 := of_decide_eq_true h2
      have := lt j a b hj ha hb
      have := (hp _ (List.mem_of_getElem? ha)).1
      constructor
      · intro e
        by_cases q : b.net = k
        · exact q
        · rw [if_neg q, if_pos (by omega)] at h2; omega
      · intro e
        rw [if_pos e] at h2
        split at h2 <;> omega
    · intro hA
      refine allB_yes (fun j hj => ?_)
      obtain ⟨a, b, ha, hb, r, s⟩ := at_ j hj
      rw [new j a b hj ha hb]
      have h1 := hA j a b hj ha hb
      have h2 := old j a b hj ha hb
      refine decide_eq_true ?_
      by_cases q : b.net = k
      · rw [if_pos q, if_pos (by have := h1.2 q; omega)]; exact h1.2 q
      · have : ¬ a.net = (nets.length : Int) := fun e => q (h1.1 e)
        rw [if_neg q, ← h2]
        by_cases q2 : a.net < (nets.length : Int)
        · rw [if_pos q2, if_pos (by omega)]
        · rw [if_neg q2, if_neg (by omega)]
  have iff2 : portTo ps (nets.length : Int) ps.length = portTo qs k qs.length ↔ ∀ j a b, j < ps.length → ps[j]? = some a → qs[j]? = some b → (a.net = (nets.length : Int) ↔ b.net = k) := by
    constructor
    · intro e j a b hj ha hb
      have m1 := mem_portTo (ps := ps) (net := (nets.length : Int)) (k := ps.length) (j := j)
      have m2 := mem_portTo (ps := qs) (net := k) (k := qs.length) (j := j)
      rw [e] at m1
      have := m1.symm.trans m2
      rw [ha, hb] at this
      constructor
      · intro q
        obtain ⟨_, p, hp', h'⟩ := this.1 ⟨hj, a, rfl, q⟩
        cases hp'; exact h'
      · intro q
        obtain ⟨_, p, hp', h'⟩ := this.2 ⟨by omega, b, rfl, q⟩
        cases hp'; exact h'
    · intro hA
      unfold portTo
      rw [hl]
      congr 1
      refine List.filter_congr (fun j hj => ?_)
      obtain ⟨a, b, ha, hb, _, _⟩ := at_ j (List.mem_range.1 hj)
      rw [ha, hb]
      exact decide_eq_decide.2 (hA j a b (List.mem_range.1 hj) ha hb)
  rw [Bool.eq_iff_iff, iff, decide_eq_true_iff, iff2]
theorem fit_step {x y : Nl} {nets : List Int} {k : Int} (hx : nlB x = true) (hy : nlB y = true) (hn : y.nets = x.nets) (hpl : y.ps.length = x.ps.length) (hg : goodN x.nets.toNat (nets ++ [k])) (h : fitB x y nets = true) :
    fitB x y (nets ++ [k]) = (decide (portTo x.ps (nets.length : Int) x.ps.length = portTo y.ps k y.ps.length) && fitI x y (nets ++ [k])) := by
  obtain ⟨⟨n0, n1⟩, _, _, hdx, _⟩ := nlB_facts hx
  obtain ⟨_, _, _, hdy, _⟩ := nlB_facts hy
  obtain ⟨n, hnn⟩ : ∃ n : Nat, x.nets = n := ⟨x.nets.toNat, by omega⟩
  have hnt : x.nets.toNat = n := by omega
  rw [hn, hnn] at hdy
  rw [hnn] at hdx
  rw [hnt] at hg
  unfold fitB at h ⊢
  rw [hn, hnt] at h ⊢
  rw [Bool.and_eq_true] at h
  rw [fit_same hdx hdy hg, port_step (fun p hp => by have := pt_in hx hp; omega) (fun p hp => by have := pt_in hy hp; omega) hpl hg h.1]
def innTo (ds : List Dv) (names : List Int) (k : Nat) : List Dv := ((ds.take k).filter (inD names)).map fun d => nzD (renD names d)
theorem innTo_step {ds : List Dv} (names : List Int) {k : Nat} {d : Dv} (h : ds[k]? = some d) : innTo ds names (k + 1) = innTo ds names k ++ (if inD names d = true then [nzD (renD names d)] else []) := by
  unfold innTo
  rw [take_snoc_of ds k d h, List.filter_append, List.map_append]
  congr 1
  by_cases q : inD names d = true
  · rw [if_pos q, List.filter_cons_of_pos q]; rfl
  · rw [if_neg q, List.filter_cons_of_neg q]; rfl
theorem innTo_len (ds : List Dv) (names : List Int) (k : Nat) : (innTo ds names k).length ≤ k := by
  unfold innTo
  rw [List.length_map]
  have := List.length_filter_le (inD names) (ds.take k)
  have := List.length_take_le k ds
  omega
theorem innTo_all (ds : List Dv) (names : List Int) : srtD (innTo ds names ds.length) = innerS ds names := by
  unfold innTo innerS; rw [List.take_length]
def inTo (names pins : List Int) (j : Nat) : Bool := (pins.take j).all fun p => decide (0 ≤ nmOf names p)
theorem inTo_step (names : List Int) {pins : List Int} {j : Nat} {p : Int} (h : pins[j]? = some p) : inTo names pins (j + 1) = (inTo names pins j && decide (0 ≤ nmOf names p)) := by
  unfold inTo
  rw [take_snoc_of pins j p h, List.all_append]; simp
theorem inTo_all (names : List Int) (d : Dv) : inTo names d.pins d.pins.length = inD names d := by
  unfold inTo inD; rw [List.take_length]
def negTo (n k : Nat) : List Int := List.replicate k (-1) ++ List.replicate (n - k) 0
theorem negTo_zero (n : Nat) : negTo n 0 = List.replicate n 0 := by unfold negTo; simp
theorem negTo_all (n : Nat) : negTo n n = List.replicate n (-1) := by unfold negTo; simp
theorem negTo_step {n k : Nat} (h : k < n) : (negTo n k).set k (-1) = negTo n (k + 1) := by
  unfold negTo
  rw [List.set_append_right _ _ (by simp)]
  simp only [List.length_replicate, Nat.sub_self]
  rw [show n - k = (n - (k + 1)) + 1 by omega, List.replicate_succ, List.set_cons_zero, List.replicate_succ' (n := k), List.append_assoc]
  rfl
theorem srTo_next {g : Nat → List (List Int)} {one : Bool} {k : Nat} (h : ¬ (one && decide (0 < (srTo g one k).length)) = true) : srTo g one (k + 1) = srTo g one k ++ g k := by
  show (if _ then _ else _) = _
  rw [if_neg h]
def srcB (x y : Nl) (col : Nat → Nat → Bool) (n : Nat) (one : Bool) (r : Nat) (nets : List Int) : List (List Int) := if fitB x y nets = true then srch (fitB x y) col n one r nets else []
theorem srcB_succ (x y : Nl) (col : Nat → Nat → Bool) (n : Nat) (one : Bool) (r : Nat) (nets : List Int) (h : fitB x y nets = true) :
    srcB x y col n one (r + 1) nets = srTo (fun k => if (col nets.length k && !nets.contains (k : Int)) = true then srcB x y col n one r (nets ++ [(k : Int)]) else []) one n := by
  unfold srcB
  rw [if_pos h]
  show srTo _ one n = _
  congr 1
  funext k
  by_cases q : (col nets.length k && !nets.contains (k : Int)) = true
  · rw [if_pos q]
    simp only [Bool.and_eq_true] at q
    by_cases f : fitB x y (nets ++ [(k : Int)]) = true
    · rw [if_pos (by rw [q.1, q.2, f]; rfl), if_pos f]
    · rw [if_neg (by rw [q.1, q.2]; simpa using f), if_neg f]
  · rw [if_neg q, if_neg (fun h => q (by
      simp only [Bool.and_eq_true] at h ⊢
      exact ⟨h.1, h.2.1⟩))]
set_option maxRecDepth 100000 in
set_option maxHeartbeats 4000000 in
theorem implNorm_no (kind wd len : Int) (sv : Value) (zs : List Int) (w : World) (h : IntSl w sv zs) (hn : zs.length ≤ 1048576) (hno : ¬ (0 < pinc kind ∧ (zs.length : Int) = pinc kind)) :
    Calls Tryz.prog 63 #[.agg #[.int .i64 kind, sv, .int .i64 wd, .int .i64 len]] w fun e w' => ∃ v, e = .returned (.agg #[.int .i64 kind, v, .int .i64 wd, .int .i64 len]) ∧ OwnI w' w.heap.size v zs ∧ Below w.heap.size w w' := by
  have HC := Lib.hid (fun w h => copyDevice_any kind wd len sv zs w h hn)
  have h1 := h.by (((Below.refl _ w).alloc (Nat.le_refl _) (.cells #[.int .i64 kind, sv, .int .i64 wd, .int .i64 len] 62)).alloc (by simp) (.cells #[.int .i64 0, .slice none 0 0, .int .i64 0, .int .i64 0] 62))
  obtain ⟨a, c, rfl⟩ := h.len
  clear h
  have HP := Lib.hid (fun w => pinCount_any kind w)
  obtain ⟨m, hm⟩ : ∃ m, pinc kind = m := ⟨_, rfl⟩
  have hm0 : 0 ≤ m ∧ m ≤ 3 := by rw [← hm]; unfold pinc; (repeat' split) <;> omega
  rw [hm] at hno HP
  clear hm
  go_enter Tryz.func63, Tryz.ntmps63
  go_wp2_with fail
  refine (HC.out _ h1).mono ?_
  rintro e w1 ⟨v, rfl, hO, hb1⟩
  clear h1
  have k0 : Blk w1 w.heap.size #[.int .i64 kind, .slice a zs.length c, .int .i64 wd, .int .i64 len] 62 := blkT
  have k1 : Blk w1 (w.heap.size + 1) #[.int .i64 0, .slice none 0 0, .int .i64 0, .int .i64 0] 62 := blkT
  have hW : Below w.heap.size w w1 := blwT
  clear hb1
  have c0 := k0.cell
  have f0 := k0.free
  have l0 := k0.lt
  have c1' := k1.cell
  have f1 := k1.free
  have l1 := k1.lt
  obtain ⟨a1, c1, rfl⟩ := hO.len
  simp at hO
  have hO' := hO.alloc (.cells #[.int .i64 kind, .slice a1 zs.length c1, .int .i64 wd, .int .i64 len] 62)
  clear hO
  go_wp2_with fail
  refine (HP.out _).mono ?_
  rintro e w2 ⟨rfl, rfl⟩
  have k3 : Blk (w1.alloc (.cells #[.int .i64 kind, .slice a1 zs.length c1, .int .i64 wd, .int .i64 len] 62)) w1.heap.size #[.int .i64 kind, .slice a1 zs.length c1, .int .i64 wd, .int .i64 len] 62 := Blk.new _ rfl
  replace k0 := k0.past (.cells #[.int .i64 kind, .slice a1 zs.length c1, .int .i64 wd, .int .i64 len] 62)
  replace k1 := k1.past (.cells #[.int .i64 kind, .slice a1 zs.length c1, .int .i64 wd, .int .i64 len] 62)
  replace hW := below_al hW (.cells #[.int .i64 kind, .slice a1 zs.length c1, .int .i64 wd, .int .i64 len] 62)
  clear c0 f0 l0 c1' f1
  generalize w1.heap.size = px at *
  generalize w1.alloc (.cells #[.int .i64 kind, .slice a1 zs.length c1, .int .i64 wd, .int .i64 len] 62) = w2 at *
  have c0 := k0.cell
  have c1' := k1.cell
  have f1 := k1.free
  have c2 := k3.cell
  have f2 := k3.free
  by_cases hpos : 0 < m
  · have hne : decide ((zs.length : Int) = m) = false := decide_eq_false (fun h => hno ⟨hpos, h⟩)
    have hd : decide (0 < m) = true := decide_eq_true hpos
    have hne' : ¬ (zs.length : Int) = m := fun h => hno ⟨hpos, h⟩
    have hne2 : ((zs.length : Int) == m) = false := by simpa using hne'
    clear hno
    go_wp2
    go_quiet (fail)
    go_wp2
    refine bodyPost_ret (v := .agg #[.int .i64 kind, .slice a1 zs.length c1, .int .i64 wd, .int .i64 len]) (by simp [results, Tryz.results63, go_sem, *]) rfl ⟨_, rfl, ?_, blwT⟩
    refine OwnI.low ?_ (show w.heap.size ≤ w.heap.size + 2 by omega)
    repeat (first | (with_reducible exact hO') | (with_reducible refine OwnI.drewN ?_ _) | ((with_reducible refine OwnI.apart ?_ _ _ _ ?_); rotate_left; focus omega))
  · have hd : decide (0 < m) = false := decide_eq_false hpos
    clear hno
    go_wp2
    go_quiet (fail)
    go_wp2
    refine bodyPost_ret (v := .agg #[.int .i64 kind, .slice a1 zs.length c1, .int .i64 wd, .int .i64 len]) (by simp [results, Tryz.results63, go_sem, *]) rfl ⟨_, rfl, ?_, blwT⟩
    refine OwnI.low ?_ (show w.heap.size ≤ w.heap.size + 2 by omega)
    repeat (first | (with_reducible exact hO') | (with_reducible refine OwnI.drewN ?_ _) | ((with_reducible refine OwnI.apart ?_ _ _ _ ?_); rotate_left; focus omega))
set_option maxRecDepth 100000 in
set_option maxHeartbeats 4000000 in
theorem implNorm_two (kind wd len : Int) (sv : Value) (p q : Int) (w : World) (h : IntSl w sv [p, q]) (hk : pinc kind = 2) :
    Calls Tryz.prog 63 #[.agg #[.int .i64 kind, sv, .int .i64 wd, .int .i64 len]] w fun e w' => ∃ v, e = .returned (.agg #[.int .i64 kind, v, .int .i64 wd, .int .i64 len]) ∧ OwnI w' w.heap.size v [min p q, max p q] ∧ Below w.heap.size w w' := by
  have HC := Lib.hid (fun w h => copyDevice_any kind wd len sv [p, q] w h (by simp))
  have h1 := h.by (((Below.refl _ w).alloc (Nat.le_refl _) (.cells #[.int .i64 kind, sv, .int .i64 wd, .int .i64 len] 62)).alloc (by simp) (.cells #[.int .i64 0, .slice none 0 0, .int .i64 0, .int .i64 0] 62))
  rcases h with ⟨_, _, _, h2⟩ | ⟨b, off, cap, hsv, h2, h3, h4⟩
  · simp at h2
  simp only [List.length_cons, List.length_nil, Nat.zero_add, Nat.reduceAdd] at hsv h2
  subst hsv
  clear h4
  have HP := Lib.hid (fun w => pinCount_any kind w)
  rw [hk] at HP
  clear hk
  go_enter Tryz.func63, Tryz.ntmps63
  go_wp2_with fail
  refine (HC.out _ h1).mono ?_
  rintro e w1 ⟨v, rfl, hO, hb1⟩
  clear h1
  have k0 : Blk w1 w.heap.size #[.int .i64 kind, .slice (some ⟨b, off, none⟩) 2 cap, .int .i64 wd, .int .i64 len] 62 := blkT
  have k1 : Blk w1 (w.heap.size + 1) #[.int .i64 0, .slice none 0 0, .int .i64 0, .int .i64 0] 62 := blkT
  have hW : Below w.heap.size w w1 := blwT
  clear hb1
  have c0 := k0.cell
  have f0 := k0.free
  have l0 := k0.lt
  have c1' := k1.cell
  have f1 := k1.free
  have l1 := k1.lt
  rcases hO with ⟨_, _, _, hO⟩ | ⟨g, cap1, cs, hv, hlo, hcap, hmax, hG, hG'⟩
  · simp at hO
  simp only [List.length_cons, List.length_nil, Nat.zero_add, Nat.reduceAdd] at hv hcap
  subst hv
  simp at hlo
  have hgp := hG.lt
  replace hG := hG.past (.cells #[.int .i64 kind, .slice (some ⟨g, 0, none⟩) 2 cap1, .int .i64 wd, .int .i64 len] 62)
  go_wp2_with fail
  refine (HP.out _).mono ?_
  rintro e w2 ⟨rfl, rfl⟩
  have k3 : Blk (w1.alloc (.cells #[.int .i64 kind, .slice (some ⟨g, 0, none⟩) 2 cap1, .int .i64 wd, .int .i64 len] 62)) w1.heap.size #[.int .i64 kind, .slice (some ⟨g, 0, none⟩) 2 cap1, .int .i64 wd, .int .i64 len] 62 := Blk.new _ rfl
  replace k0 := k0.past (.cells #[.int .i64 kind, .slice (some ⟨g, 0, none⟩) 2 cap1, .int .i64 wd, .int .i64 len] 62)
  replace k1 := k1.past (.cells #[.int .i64 kind, .slice (some ⟨g, 0, none⟩) 2 cap1, .int .i64 wd, .int .i64 len] 62)
  replace hW := below_al hW (.cells #[.int .i64 kind, .slice (some ⟨g, 0, none⟩) 2 cap1, .int .i64 wd, .int .i64 len] 62)
  clear c0 f0 l0 c1' f1
  generalize w1.heap.size = px at *
  generalize w1.alloc (.cells #[.int .i64 kind, .slice (some ⟨g, 0, none⟩) 2 cap1, .int .i64 wd, .int .i64 len] 62) = w2 at *
  have c0 := k0.cell
  have c1' := k1.cell
  have f1 := k1.free
  have c2 := k3.cell
  have f2 := k3.free
  have hG0 := hG' 0 p rfl
  have hG1 := hG' 1 q rfl
  have cg := hG.cell
  have fg := hG.free
  have cp : w2.cell? ⟨g, 0, none⟩ = some (.int .i64 p) := (hG.cell 0).trans hG0
  have cq : w2.cell? ⟨g, 1, none⟩ = some (.int .i64 q) := (hG.cell 1).trans hG1
  have wr0 : IntKind.i64.wrap 0 = 0 := by decide
  have wr1 : IntKind.i64.wrap 1 = 1 := by decide
  have wr2 : IntKind.i64.wrap 2 = 2 := by decide
  clear hG'
  by_cases hpq : q < p
  · have hd : decide (q < p) = true := decide_eq_true hpq
    go_wp2
    go_quiet (fail)
    have e1 : min p q = q := by omega
    have e2 : max p q = p := by omega
    have E1 := Lib.hid e1
    have E2 := Lib.hid e2
    clear e1 e2 hpq
    go_wp2_with fail
    replace hG := hG.drewN nq
    replace k1 := k1.drewN nq
    replace k3 := k3.drewN nq
    replace hW := below_drewN hW nq
    clear c0 c1' f1 c2 f2 cg fg cp cq k0
    generalize w2.drewN nq = w3 at *
    have c1' := k1.cell
    have f1 := k1.free
    have c2 := k3.cell
    have f2 := k3.free
    have cp : w3.cell? ⟨g, 0, none⟩ = some (.int .i64 p) := (hG.cell 0).trans hG0
    have cq : w3.cell? ⟨g, 1, none⟩ = some (.int .i64 q) := (hG.cell 1).trans hG1
    have fg := hG.free
    go_region
    have hs0 : 0 < cs.size := by rcases Nat.lt_or_ge 0 cs.size with h | h; exact h; (rw [Array.getElem?_eq_none h] at hG0; cases hG0)
    have hs1 : 1 < cs.size := by rcases Nat.lt_or_ge 1 cs.size with h | h; exact h; (rw [Array.getElem?_eq_none h] at hG1; cases hG1)
    replace hG : Blk (((w3.setCell ⟨g, 0, none⟩ (.int .i64 q)).setCell ⟨g, 1, none⟩ (.int .i64 p)).drew) g ((cs.setIfInBounds 0 (.int .i64 q)).setIfInBounds 1 (.int .i64 p)) 2 := ((hG.set 0 (.int .i64 q)).set 1 (.int .i64 p)).drew
    replace k1 := ((k1.apart g 0 (.int .i64 q) (by omega)).apart g 1 (.int .i64 p) (by omega)).drew
    replace k3 := ((k3.apart g 0 (.int .i64 q) (by omega)).apart g 1 (.int .i64 p) (by omega)).drew
    replace hW : Below w.heap.size w (((w3.setCell ⟨g, 0, none⟩ (.int .i64 q)).setCell ⟨g, 1, none⟩ (.int .i64 p)).drew) := blwT
    skip
    have hA : ((cs.setIfInBounds 0 (.int .i64 q)).setIfInBounds 1 (.int .i64 p))[0]? = some (.int .i64 q) := by rw [Array.getElem?_setIfInBounds_ne (by omega), Array.getElem?_setIfInBounds_self_of_lt hs0]
    have hB : ((cs.setIfInBounds 0 (.int .i64 q)).setIfInBounds 1 (.int .i64 p))[1]? = some (.int .i64 p) := by rw [Array.getElem?_setIfInBounds_self_of_lt (by rw [Array.size_setIfInBounds]; exact hs1)]
    clear c1' f1 c2 f2 cp cq fg hG0 hG1 hs0 hs1
    generalize (cs.setIfInBounds 0 (Value.int .i64 q)).setIfInBounds 1 (Value.int .i64 p) = cs2 at *
    generalize ((w3.setCell ⟨g, 0, none⟩ (.int .i64 q)).setCell ⟨g, 1, none⟩ (.int .i64 p)).drew = w4 at *
    have c1' := k1.cell
    have f1 := k1.free
    have c2 := k3.cell
    have f2 := k3.free
    go_wp2
    refine bodyPost_ret (v := .agg #[.int .i64 kind, .slice (some ⟨g, 0, none⟩) 2 cap1, .int .i64 wd, .int .i64 len]) (by simp [results, Tryz.results63, go_sem, *]) rfl ⟨_, rfl, ?_, blwT⟩
    refine .inr ⟨g, cap1, cs2, rfl, by omega, hcap, hmax, blkT, ?_⟩
    rw [E1.out, E2.out]
    intro i x hx
    match i, hx with
    | 0, hx => obtain rfl := Option.some.inj hx; exact hA
    | 1, hx => obtain rfl := Option.some.inj hx; exact hB
    | (_ + 2), hx => simp at hx
  · have hd : decide (q < p) = false := decide_eq_false hpq
    have e1 : min p q = p := by omega
    have e2 : max p q = q := by omega
    have E1 := Lib.hid e1
    have E2 := Lib.hid e2
    clear e1 e2 hpq
    go_wp2
    go_quiet (fail)
    go_wp2
    refine bodyPost_ret (v := .agg #[.int .i64 kind, .slice (some ⟨g, 0, none⟩) 2 cap1, .int .i64 wd, .int .i64 len]) (by simp [results, Tryz.results63, go_sem, *]) rfl ⟨_, rfl, ?_, blwT⟩
    refine .inr ⟨g, cap1, cs, rfl, by omega, hcap, hmax, blkT, ?_⟩
    rw [E1.out, E2.out]
    intro i x hx
    match i, hx with
    | 0, hx => obtain rfl := Option.some.inj hx; exact hG0
    | 1, hx => obtain rfl := Option.some.inj hx; exact hG1
    | (_ + 2), hx => simp at hx
set_option maxRecDepth 100000 in
set_option maxHeartbeats 4000000 in
theorem implNorm_three (kind wd len : Int) (sv : Value) (r p q : Int) (w : World) (h : IntSl w sv [r, p, q]) (hk : pinc kind = 3) :
    Calls Tryz.prog 63 #[.agg #[.int .i64 kind, sv, .int .i64 wd, .int .i64 len]] w fun e w' => ∃ v, e = .returned (.agg #[.int .i64 kind, v, .int .i64 wd, .int .i64 len]) ∧ OwnI w' w.heap.size v [r, min p q, max p q] ∧ Below w.heap.size w w' := by
  have HC := Lib.hid (fun w h => copyDevice_any kind wd len sv [r, p, q] w h (by simp))
  have h1 := h.by (((Below.refl _ w).alloc (Nat.le_refl _) (.cells #[.int .i64 kind, sv, .int .i64 wd, .int .i64 len] 62)).alloc (by simp) (.cells #[.int .i64 0, .slice none 0 0, .int .i64 0, .int .i64 0] 62))
  rcases h with ⟨_, _, _, h2⟩ | ⟨b, off, cap, hsv, h2, h3, h4⟩
  · simp at h2
  simp only [List.length_cons, List.length_nil, Nat.zero_add, Nat.reduceAdd] at hsv h2
  subst hsv
  clear h4
  have HP := Lib.hid (fun w => pinCount_any kind w)
  rw [hk] at HP
  clear hk
  go_enter Tryz.func63, Tryz.ntmps63
  go_wp2_with fail
  refine (HC.out _ h1).mono ?_
  rintro e w1 ⟨v, rfl, hO, hb1⟩
  clear h1
  have k0 : Blk w1 w.heap.size #[.int .i64 kind, .slice (some ⟨b, off, none⟩) 3 cap, .int .i64 wd, .int .i64 len] 62 := blkT
  have k1 : Blk w1 (w.heap.size + 1) #[.int .i64 0, .slice none 0 0, .int .i64 0, .int .i64 0] 62 := blkT
  have hW : Below w.heap.size w w1 := blwT
  clear hb1
  have c0 := k0.cell
  have f0 := k0.free
  have l0 := k0.lt
  have c1' := k1.cell
  have f1 := k1.free
  have l1 := k1.lt
  rcases hO with ⟨_, _, _, hO⟩ | ⟨g, cap1, cs, hv, hlo, hcap, hmax, hG, hG'⟩
  · simp at hO
  simp only [List.length_cons, List.length_nil, Nat.zero_add, Nat.reduceAdd] at hv hcap
  subst hv
  simp at hlo
  have hgp := hG.lt
  replace hG := hG.past (.cells #[.int .i64 kind, .slice (some ⟨g, 0, none⟩) 3 cap1, .int .i64 wd, .int .i64 len] 62)
  go_wp2_with fail
  refine (HP.out _).mono ?_
  rintro e w2 ⟨rfl, rfl⟩
  have k3 : Blk (w1.alloc (.cells #[.int .i64 kind, .slice (some ⟨g, 0, none⟩) 3 cap1, .int .i64 wd, .int .i64 len] 62)) w1.heap.size #[.int .i64 kind, .slice (some ⟨g, 0, none⟩) 3 cap1, .int .i64 wd, .int .i64 len] 62 := Blk.new _ rfl
  replace k0 := k0.past (.cells #[.int .i64 kind, .slice (some ⟨g, 0, none⟩) 3 cap1, .int .i64 wd, .int .i64 len] 62)
  replace k1 := k1.past (.cells #[.int .i64 kind, .slice (some ⟨g, 0, none⟩) 3 cap1, .int .i64 wd, .int .i64 len] 62)
  replace hW := below_al hW (.cells #[.int .i64 kind, .slice (some ⟨g, 0, none⟩) 3 cap1, .int .i64 wd, .int .i64 len] 62)
  clear c0 f0 l0 c1' f1
  generalize w1.heap.size = px at *
  generalize w1.alloc (.cells #[.int .i64 kind, .slice (some ⟨g, 0, none⟩) 3 cap1, .int .i64 wd, .int .i64 len] 62) = w2 at *
  have c0 := k0.cell
  have c1' := k1.cell
  have f1 := k1.free
  have c2 := k3.cell
  have f2 := k3.free
  have hR := hG' 0 r rfl
  have hG0 := hG' 1 p rfl
  have hG1 := hG' 2 q rfl
  have cg := hG.cell
  have fg := hG.free
  have cp : w2.cell? ⟨g, 1, none⟩ = some (.int .i64 p) := (hG.cell 1).trans hG0
  have cq : w2.cell? ⟨g, 2, none⟩ = some (.int .i64 q) := (hG.cell 2).trans hG1
  have wr0 : IntKind.i64.wrap 0 = 0 := by decide
  have wr1 : IntKind.i64.wrap 1 = 1 := by decide
  have wr2 : IntKind.i64.wrap 2 = 2 := by decide
  clear hG'
  by_cases hpq : q < p
  · have hd : decide (q < p) = true := decide_eq_true hpq
    go_wp2
    go_quiet (fail)
    have e1 : min p q = q := by omega
    have e2 : max p q = p := by omega
    have E1 := Lib.hid e1
    have E2 := Lib.hid e2
    clear e1 e2 hpq
    go_wp2_with fail
    replace hG := hG.drewN nq
    replace k1 := k1.drewN nq
    replace k3 := k3.drewN nq
    replace hW := below_drewN hW nq
    clear c0 c1' f1 c2 f2 cg fg cp cq k0
    generalize w2.drewN nq = w3 at *
    have c1' := k1.cell
    have f1 := k1.free
    have c2 := k3.cell
    have f2 := k3.free
    have cp : w3.cell? ⟨g, 1, none⟩ = some (.int .i64 p) := (hG.cell 1).trans hG0
    have cq : w3.cell? ⟨g, 2, none⟩ = some (.int .i64 q) := (hG.cell 2).trans hG1
    have fg := hG.free
    go_region
    have hs0 : 1 < cs.size := by rcases Nat.lt_or_ge 1 cs.size with h | h; exact h; (rw [Array.getElem?_eq_none h] at hG0; cases hG0)
    have hs1 : 2 < cs.size := by rcases Nat.lt_or_ge 2 cs.size with h | h; exact h; (rw [Array.getElem?_eq_none h] at hG1; cases hG1)
    replace hG : Blk (((w3.setCell ⟨g, 1, none⟩ (.int .i64 q)).setCell ⟨g, 2, none⟩ (.int .i64 p)).drew) g ((cs.setIfInBounds 1 (.int .i64 q)).setIfInBounds 2 (.int .i64 p)) 2 := ((hG.set 1 (.int .i64 q)).set 2 (.int .i64 p)).drew
    replace k1 := ((k1.apart g 1 (.int .i64 q) (by omega)).apart g 2 (.int .i64 p) (by omega)).drew
    replace k3 := ((k3.apart g 1 (.int .i64 q) (by omega)).apart g 2 (.int .i64 p) (by omega)).drew
    replace hW : Below w.heap.size w (((w3.setCell ⟨g, 1, none⟩ (.int .i64 q)).setCell ⟨g, 2, none⟩ (.int .i64 p)).drew) := blwT
    replace hR : ((cs.setIfInBounds 1 (.int .i64 q)).setIfInBounds 2 (.int .i64 p))[0]? = some (.int .i64 r) := by rw [Array.getElem?_setIfInBounds_ne (by omega), Array.getElem?_setIfInBounds_ne (by omega)]; exact hR
    have hA : ((cs.setIfInBounds 1 (.int .i64 q)).setIfInBounds 2 (.int .i64 p))[1]? = some (.int .i64 q) := by rw [Array.getElem?_setIfInBounds_ne (by omega), Array.getElem?_setIfInBounds_self_of_lt hs0]
    have hB : ((cs.setIfInBounds 1 (.int .i64 q)).setIfInBounds 2 (.int .i64 p))[2]? = some (.int .i64 p) := by rw [Array.getElem?_setIfInBounds_self_of_lt (by rw [Array.size_setIfInBounds]; exact hs1)]
    clear c1' f1 c2 f2 cp cq fg hG0 hG1 hs0 hs1
    generalize (cs.setIfInBounds 1 (Value.int .i64 q)).setIfInBounds 2 (Value.int .i64 p) = cs2 at *
    generalize ((w3.setCell ⟨g, 1, none⟩ (.int .i64 q)).setCell ⟨g, 2, none⟩ (.int .i64 p)).drew = w4 at *
    have c1' := k1.cell
    have f1 := k1.free
    have c2 := k3.cell
    have f2 := k3.free
    go_wp2
    refine bodyPost_ret (v := .agg #[.int .i64 kind, .slice (some ⟨g, 0, none⟩) 3 cap1, .int .i64 wd, .int .i64 len]) (by simp [results, Tryz.results63, go_sem, *]) rfl ⟨_, rfl, ?_, blwT⟩
    refine .inr ⟨g, cap1, cs2, rfl, by omega, hcap, hmax, blkT, ?_⟩
    rw [E1.out, E2.out]
    intro i x hx
    match i, hx with
    | 0, hx => obtain rfl := Option.some.inj hx; exact hR
    | 1, hx => obtain rfl := Option.some.inj hx; exact hA
    | 2, hx => obtain rfl := Option.some.inj hx; exact hB
    | (_ + 3), hx => simp at hx
  · have hd : decide (q < p) = false := decide_eq_false hpq
    have e1 : min p q = p := by omega
    have e2 : max p q = q := by omega
    have E1 := Lib.hid e1
    have E2 := Lib.hid e2
    clear e1 e2 hpq
    go_wp2
    go_quiet (fail)
    go_wp2
    refine bodyPost_ret (v := .agg #[.int .i64 kind, .slice (some ⟨g, 0, none⟩) 3 cap1, .int .i64 wd, .int .i64 len]) (by simp [results, Tryz.results63, go_sem, *]) rfl ⟨_, rfl, ?_, blwT⟩
    refine .inr ⟨g, cap1, cs, rfl, by omega, hcap, hmax, blkT, ?_⟩
    rw [E1.out, E2.out]
    intro i x hx
    match i, hx with
    | 0, hx => obtain rfl := Option.some.inj hx; exact hR
    | 1, hx => obtain rfl := Option.some.inj hx; exact hG0
    | 2, hx => obtain rfl := Option.some.inj hx; exact hG1
    | (_ + 3), hx => simp at hx
/- The program's NormalizeDevice: one contract. -/
theorem implNorm_any (kind wd len : Int) (sv : Value) (zs : List Int) (w : World) (h : IntSl w sv zs) (hn : zs.length ≤ 1048576) :
    Calls Tryz.prog 63 #[.agg #[.int .i64 kind, sv, .int .i64 wd, .int .i64 len]] w fun e w' => ∃ v, e = .returned (.agg #[.int .i64 kind, v, .int .i64 wd, .int .i64 len]) ∧ OwnI w' w.heap.size v (normz kind zs) ∧ Below w.heap.size w w' := by
  by_cases hs : 0 < pinc kind ∧ (zs.length : Int) = pinc kind
  · rcases normz_yes hs with ⟨p, q, rfl, hk, e⟩ | ⟨r, p, q, rfl, hk, e⟩
    · rw [e]; exact implNorm_two kind wd len sv p q w h hk
    · rw [e]; exact implNorm_three kind wd len sv r p q w h hk
  · rw [normz_no hs]; exact implNorm_no kind wd len sv zs w h hn hs
set_option maxRecDepth 100000 in
set_option maxHeartbeats 2000000 in
theorem moved_any (x : Dv) (names : List Int) (sx sn : Value) (w : World) (h : IntSl w sx x.pins) (hn : IntSl w sn names) (hxl : x.pins.length ≤ 3) (hxn : x.pins ≠ []) (hxp : ∀ z ∈ x.pins, 0 ≤ z ∧ z < names.length) :
    Calls Tryz.prog 120 #[.agg #[.int .i64 x.kind, sx, .int .i64 x.wd, .int .i64 x.len], sn] w fun e w' => ∃ v, e = .returned (.agg #[.int .i64 x.kind, v, .int .i64 x.wd, .int .i64 x.len]) ∧ IntSl w' v (x.pins.map (nmOf names)) ∧ Below w.heap.size w w' := by
  have HN := Lib.hid hn
  have HX := Lib.hid h
  have HCD := Lib.hid (fun w h => own_any x.kind x.wd x.len sx x.pins w h (by omega))
  have HXN := Lib.hid hxn
  have HXP := Lib.hid hxp
  obtain ⟨ax, cx, rfl⟩ := h.len
  obtain ⟨an, cn, rfl⟩ := hn.len
  clear h hn hxn hxp
  go_enter Tryz.func120, Tryz.ntmps120
  go_wp2_with fail
  refine (HCD.out _ (HX.out.by blwT)).mono ?_
  rintro e w1 ⟨v1, rfl, hOI, hb1⟩
  obtain ⟨fb, hf1, hf2, hOR⟩ := hOI.pin HXN.out
  obtain ⟨gb, capb, csb, rfl, hgb, hcb, hmb, kB0, HIC0⟩ := hOR.cells HXN.out
  have hgf : gb = fb := by omega
  subst hgf
  have kZ : Blk w1 (w.heap.size + 1) #[.int .i64 0, .slice none 0 0, .int .i64 0, .int .i64 0] 62 := blkT
  have hb : Below w.heap.size w w1 := blwT
  have HICH := Lib.hid HIC0
  have hbs := hb1.size
  simp only [World.size_alloc] at hbs hf1
  have lZ := kZ.lt
  obtain ⟨Q, hQ⟩ : ∃ Q, w1.heap.size = Q := ⟨_, rfl⟩
  have HQ := Lib.hid hQ
  have hQl : w.heap.size + 1 < Q := by omega
  have hgQ : gb < Q := by omega
  clear hb1 hOI hOR HIC0 hQ
  go_wp2
  rw [HQ.out]
  have hIC : ICs csb (renTo names x.pins 0) := by rw [renTo_zero]; exact HICH.out
  obtain ⟨wA, hwA⟩ : ∃ wA, wA = w1.alloc (.cells #[.int .i64 x.kind, .slice (some ⟨gb, 0, none⟩) x.pins.length capb, .int .i64 x.wd, .int .i64 x.len] 62) := ⟨_, rfl⟩
  have kD : Blk wA Q #[.int .i64 x.kind, .slice (some ⟨gb, 0, none⟩) x.pins.length capb, .int .i64 x.wd, .int .i64 x.len] 62 := by rw [hwA]; exact Blk.new _ HQ.out.symm
  have kBA : Blk wA gb csb 2 := by rw [hwA]; exact kB0.past _
  have kZA : Blk wA (w.heap.size + 1) #[.int .i64 0, .slice none 0 0, .int .i64 0, .int .i64 0] 62 := by rw [hwA]; exact kZ.past _
  have hbA : Below w.heap.size w wA := by rw [hwA]; exact below_al hb _
  rw [← hwA]
  clear hwA HICH kB0 kZ hb lZ hbs
  go_loopw [6] (fun i wr2 => ∃ m : Nat, m ≤ x.pins.length ∧ i = .int .i64 m ∧ Blk wr2 Q #[.int .i64 x.kind, .slice (some ⟨gb, 0, none⟩) x.pins.length capb, .int .i64 x.wd, .int .i64 x.len] 62 ∧ (∃ cs, Blk wr2 gb cs 2 ∧ Hid (ICs cs (renTo names x.pins m))) ∧ Within gb (gb + 1) wA wr2) (fun i _ => x.pins.length - (intOf i).toNat)
  case atStart => exact ⟨0, Nat.zero_le _, rfl, kD, ⟨csb, kBA, Lib.hid hIC⟩, Within.refl _ _ _⟩
  case round =>
    clear kD kBA hIC
    obtain ⟨m, hm, rfl, kD, ⟨cs, kB, HIC⟩, hW2⟩ := hrel
    have cD := kD.cell
    by_cases hlt2 : m < x.pins.length
    · obtain ⟨z, hz⟩ : ∃ z, x.pins[m]? = some z := ⟨x.pins[m], List.getElem?_eq_getElem hlt2⟩
      obtain ⟨hz0, hz1⟩ := HXP.out z (List.mem_of_getElem? hz)
      have cB := kB.cell
      have fB := kB.free
      have cz := HIC.out m z (renTo_get names x.pins m z hz)
      have hNw := HN.out.by (hW2.below hbA (by omega))
      obtain ⟨q, rfl⟩ : ∃ q : Nat, z = q := ⟨z.toNat, by omega⟩
      rcases hNw with ⟨_, _, _, h2⟩ | ⟨nb, noff, ncap, hen, _, _, hcn⟩
      · rw [h2] at hz1; simp at hz1; omega
      obtain ⟨rfl, rfl⟩ : an = some ⟨nb, noff, none⟩ ∧ cn = ncap := by simpa using hen
      have hq : q < names.length := by omega
      have cn := hcn q names[q] (List.getElem?_eq_getElem hq)
      have hnm : nmOf names (q : Int) = names[q] := by simp [nmOf, hq]
      have HZ := Lib.hid hz
      have HNMq := Lib.hid hnm
      generalize names[q] = y at *
      have j1 : (0 : Int) ≤ (m : Int) := by omega
      have j2 : (m : Int) < (x.pins.length : Int) := by omega
      clear hz hnm hen hcn hq
      go_wp2_with fail
      go_region
      all_goals go_wp2_with fail
      exact ⟨⟨m + 1, by omega, by go_num, (kD.apart gb m _ (by omega)).drew, ⟨cs.setIfInBounds m (.int .i64 y), (kB.set m _).drew, Lib.hid (by rw [← renTo_step names x.pins m q HZ.out, HNMq.out]; exact HIC.out.set m y)⟩, (hW2.set gb m _ (Nat.le_refl _) (by omega)).drewN 1⟩, by simp [intOf]; omega⟩
    · obtain rfl : m = x.pins.length := by omega
      have hIC1 : ICs cs (x.pins.map (nmOf names)) := by have := HIC.out; rwa [renTo_all] at this
      have hOR0 := hIC1.own kB (by rw [List.length_map]; exact hcb) hmb
      rw [List.length_map] at hOR0
      have kZ2 := hW2.blk kZA (by omega)
      have hb2 := hW2.below hbA (by omega)
      have HOR := Lib.hid hOR0
      have qZ := kZ2.cell
      have fZ := kZ2.free
      have lZ := kZ2.lt
      clear hIC1 hOR0 HIC
      go_wp2
      refine bodyPost_ret (v := .agg #[.int .i64 x.kind, .slice (some ⟨gb, 0, none⟩) x.pins.length capb, .int .i64 x.wd, .int .i64 x.len]) (by simp [results, Tryz.results120, go_sem, *]) rfl ⟨_, rfl, ?_, blwT⟩
      exact (((((HOR.out.past (Within.off _) (by omega)).past (Within.off _) (by omega)).past (Within.off _) (by omega)).past (Within.off _) (by omega)) : OwnR _ gb (gb + 1) _ _).sl
set_option maxRecDepth 100000 in
set_option maxHeartbeats 2000000 in
theorem mappedO_any (x : Dv) (names : List Int) (sx sn : Value) (w : World) (h : IntSl w sx x.pins) (hn : IntSl w sn names) (hxl : x.pins.length ≤ 3) (hxn : x.pins ≠ []) (hxp : ∀ z ∈ x.pins, 0 ≤ z ∧ z < names.length) :
    Calls Tryz.prog 67 #[.agg #[.int .i64 x.kind, sx, .int .i64 x.wd, .int .i64 x.len], sn] w fun e w' => ∃ v, e = .returned (.agg #[.int .i64 x.kind, v, .int .i64 x.wd, .int .i64 x.len]) ∧ OwnI w' w.heap.size v (normz x.kind (x.pins.map (nmOf names))) ∧ Below w.heap.size w w' := by
  have HN := Lib.hid hn
  have HX := Lib.hid h
  have HCD := Lib.hid (fun w h => copyDevice_any x.kind x.wd x.len sx x.pins w h (by omega))
  have HXN := Lib.hid hxn
  have HXP := Lib.hid hxp
  have HNM := Lib.hid (fun sv w h => implNorm_any x.kind x.wd x.len sv (x.pins.map (nmOf names)) w h (by simp; omega))
  generalize normz x.kind (x.pins.map (nmOf names)) = NZ at *
  obtain ⟨ax, cx, rfl⟩ := h.len
  obtain ⟨an, cn, rfl⟩ := hn.len
  clear h hn hxn hxp
  go_enter Tryz.func67, Tryz.ntmps67
  go_wp2_with fail
  refine (HCD.out _ (HX.out.by blwT)).mono ?_
  rintro e w1 ⟨v1, rfl, hOI, hb1⟩
  obtain ⟨fb, hf1, hf2, hOR⟩ := hOI.pin HXN.out
  obtain ⟨gb, capb, csb, rfl, hgb, hcb, hmb, kB0, HIC0⟩ := hOR.cells HXN.out
  have hgf : gb = fb := by omega
  subst hgf
  have kZ : Blk w1 (w.heap.size + 1) #[.int .i64 0, .slice none 0 0, .int .i64 0, .int .i64 0] 62 := blkT
  have hb : Below w.heap.size w w1 := blwT
  have HICH := Lib.hid HIC0
  have hbs := hb1.size
  simp only [World.size_alloc] at hbs hf1
  have lZ := kZ.lt
  obtain ⟨Q, hQ⟩ : ∃ Q, w1.heap.size = Q := ⟨_, rfl⟩
  have HQ := Lib.hid hQ
  have hQl : w.heap.size + 1 < Q := by omega
  have hgQ : gb < Q := by omega
  clear hb1 hOI hOR HIC0 hQ
  go_wp2
  rw [HQ.out]
  have hIC : ICs csb (renTo names x.pins 0) := by rw [renTo_zero]; exact HICH.out
  obtain ⟨wA, hwA⟩ : ∃ wA, wA = w1.alloc (.cells #[.int .i64 x.kind, .slice (some ⟨gb, 0, none⟩) x.pins.length capb, .int .i64 x.wd, .int .i64 x.len] 62) := ⟨_, rfl⟩
  have kD : Blk wA Q #[.int .i64 x.kind, .slice (some ⟨gb, 0, none⟩) x.pins.length capb, .int .i64 x.wd, .int .i64 x.len] 62 := by rw [hwA]; exact Blk.new _ HQ.out.symm
  have kBA : Blk wA gb csb 2 := by rw [hwA]; exact kB0.past _
  have kZA : Blk wA (w.heap.size + 1) #[.int .i64 0, .slice none 0 0, .int .i64 0, .int .i64 0] 62 := by rw [hwA]; exact kZ.past _
  have hbA : Below w.heap.size w wA := by rw [hwA]; exact below_al hb _
  rw [← hwA]
  clear hwA HICH kB0 kZ hb lZ hbs
  go_loopw [13] (fun i wr2 => ∃ m : Nat, m ≤ x.pins.length ∧ i = .int .i64 m ∧ Blk wr2 Q #[.int .i64 x.kind, .slice (some ⟨gb, 0, none⟩) x.pins.length capb, .int .i64 x.wd, .int .i64 x.len] 62 ∧ (∃ cs, Blk wr2 gb cs 2 ∧ Hid (ICs cs (renTo names x.pins m))) ∧ Within gb (gb + 1) wA wr2) (fun i _ => x.pins.length - (intOf i).toNat)
  case atStart => exact ⟨0, Nat.zero_le _, rfl, kD, ⟨csb, kBA, Lib.hid hIC⟩, Within.refl _ _ _⟩
  case round =>
    clear kD kBA hIC
    obtain ⟨m, hm, rfl, kD, ⟨cs, kB, HIC⟩, hW2⟩ := hrel
    have cD := kD.cell
    by_cases hlt2 : m < x.pins.length
    · obtain ⟨z, hz⟩ : ∃ z, x.pins[m]? = some z := ⟨x.pins[m], List.getElem?_eq_getElem hlt2⟩
      obtain ⟨hz0, hz1⟩ := HXP.out z (List.mem_of_getElem? hz)
      have cB := kB.cell
      have fB := kB.free
      have cz := HIC.out m z (renTo_get names x.pins m z hz)
      have hNw := HN.out.by (hW2.below hbA (by omega))
      obtain ⟨q, rfl⟩ : ∃ q : Nat, z = q := ⟨z.toNat, by omega⟩
      rcases hNw with ⟨_, _, _, h2⟩ | ⟨nb, noff, ncap, hen, _, _, hcn⟩
      · rw [h2] at hz1; simp at hz1; omega
      obtain ⟨rfl, rfl⟩ : an = some ⟨nb, noff, none⟩ ∧ cn = ncap := by simpa using hen
      have hq : q < names.length := by omega
      have cn := hcn q names[q] (List.getElem?_eq_getElem hq)
      have hnm : nmOf names (q : Int) = names[q] := by simp [nmOf, hq]
      have HZ := Lib.hid hz
      have HNMq := Lib.hid hnm
      generalize names[q] = y at *
      have j1 : (0 : Int) ≤ (m : Int) := by omega
      have j2 : (m : Int) < (x.pins.length : Int) := by omega
      clear hz hnm hen hcn hq
      go_wp2_with fail
      go_region
      all_goals go_wp2_with fail
      exact ⟨⟨m + 1, by omega, by go_num, (kD.apart gb m _ (by omega)).drew, ⟨cs.setIfInBounds m (.int .i64 y), (kB.set m _).drew, Lib.hid (by rw [← renTo_step names x.pins m q HZ.out, HNMq.out]; exact HIC.out.set m y)⟩, (hW2.set gb m _ (Nat.le_refl _) (by omega)).drewN 1⟩, by simp [intOf]; omega⟩
    · obtain rfl : m = x.pins.length := by omega
      have hIC1 : ICs cs (x.pins.map (nmOf names)) := by have := HIC.out; rwa [renTo_all] at this
      have hOR0 := hIC1.own kB (by rw [List.length_map]; exact hcb) hmb
      rw [List.length_map] at hOR0
      have kZ2 := hW2.blk kZA (by omega)
      have hb2 := hW2.below hbA (by omega)
      have HOS := Lib.hid hOR0.sl
      have hZg := kZ2.lt
      clear hIC1 hOR0 HIC
      go_wp2_with fail
      refine (HNM.out _ _ HOS.out).mono ?_
      rintro e w3 ⟨v3, rfl, hO3, hb3⟩
      replace kZ2 := Blk.by hb3 kZ2
      have hb4 := below_on hb3 hb2
      obtain ⟨a3, c3, rfl⟩ := hO3.len
      have HO3 := Lib.hid hO3
      have qZ := kZ2.cell
      have fZ := kZ2.free
      have lZ := kZ2.lt
      have sW := hW2.size
      clear hO3 cD
      go_wp2
      refine bodyPost_ret (v := .agg #[.int .i64 x.kind, .slice a3 NZ.length c3, .int .i64 x.wd, .int .i64 x.len]) (by simp [results, Tryz.results67, go_sem, *]) rfl ⟨_, rfl, ?_, blwT⟩
      refine OwnI.low (lo := wr.heap.size) ?_ (by omega)
      repeat (first | (with_reducible exact HO3.out) | ((with_reducible refine OwnI.apart ?_ _ _ _ ?_); rotate_left; focus omega))
set_option maxRecDepth 100000 in
set_option maxHeartbeats 2000000 in
theorem same_any (x y : Dv) (names : List Int) (sx sy sn : Value) (w : World) (h : IntSl w sx x.pins) (h' : IntSl w sy y.pins) (hn : IntSl w sn names) (hxl : x.pins.length ≤ 3) (hxn : x.pins ≠ []) (hxp : ∀ z ∈ x.pins, 0 ≤ z ∧ z < names.length) (hyl : y.pins.length ≤ 3) :
    Calls Tryz.prog 70 #[.agg #[.int .i64 x.kind, sx, .int .i64 x.wd, .int .i64 x.len], .agg #[.int .i64 y.kind, sy, .int .i64 y.wd, .int .i64 y.len], sn] w fun e w' => e = .returned (.bool (isoD names x y)) ∧ Below w.heap.size w w' := by
  have HB := Lib.hid (show isoD names x y = decide (devcmp x.kind y.kind (normz x.kind (x.pins.map (nmOf names))) (normz y.kind y.pins) x.wd y.wd x.len y.len = 0) from rfl)
  have HX := Lib.hid h
  have HY := Lib.hid h'
  have HN := Lib.hid hn
  have HM := Lib.hid (fun w h h' => moved_any x names sx sn w h h' hxl hxn hxp)
  have HN1 := Lib.hid (fun sv w h => specNorm_any x.kind x.wd x.len sv (x.pins.map (nmOf names)) w h (by simp; omega))
  have HN2 := Lib.hid (fun w h => specNorm_any y.kind y.wd y.len sy y.pins w h (by omega))
  have HC := Lib.hid (fun s1 s2 w h h' => specCompareDevices_any x.kind x.wd x.len y.kind y.wd y.len s1 s2 (normz x.kind (x.pins.map (nmOf names))) (normz y.kind y.pins) w h h')
  have hml : (x.pins.map (nmOf names)).length = x.pins.length := List.length_map _
  generalize x.pins.map (nmOf names) = mx at *
  generalize normz x.kind mx = nx at *
  generalize normz y.kind y.pins = ny at *
  generalize devcmp x.kind y.kind nx ny x.wd y.wd x.len y.len = r at *
  generalize isoD names x y = q at *
  obtain ⟨k1, xs, d1, l1⟩ := x
  obtain ⟨k2, ys, d2, l2⟩ := y
  dsimp only at *
  obtain ⟨a, c, rfl⟩ := h.len
  obtain ⟨a', c', rfl⟩ := h'.len
  obtain ⟨an, cn, rfl⟩ := hn.len
  clear h h' hn hml hxn hxp
  go_enter Tryz.func70, Tryz.ntmps70
  go_wp2_with fail
  go_region_held3 ((fun w' => (Blk w' (w.heap.size) #[.int .i64 k1, .slice a xs.length c, .int .i64 d1, .int .i64 l1] 62 ∧ ∀ o, w'.cell? ⟨w.heap.size, o, none⟩ = (#[.int .i64 k1, .slice a xs.length c, .int .i64 d1, .int .i64 l1] : Array Value)[o]?) ∧ (Blk w' (w.heap.size + 1) #[.int .i64 k2, .slice a' ys.length c', .int .i64 d2, .int .i64 l2] 62 ∧ ∀ o, w'.cell? ⟨w.heap.size + 1, o, none⟩ = (#[.int .i64 k2, .slice a' ys.length c', .int .i64 d2, .int .i64 l2] : Array Value)[o]?) ∧ Below w.heap.size w w')) (((try (obtain ⟨⟨hS0, _⟩, ⟨hS1, _⟩, hSB⟩ := hHeld)); refine ⟨Blk.both ?_, Blk.both ?_, ?_⟩ <;> first | ((repeat (first | (with_reducible assumption) | (with_reducible refine Blk.drewN ?_ _) | (with_reducible refine Blk.drew ?_) | ((with_reducible refine Blk.new _ ?_); focus (first | omega | (simp; done) | (simp; omega))) | (with_reducible refine Blk.past ?_ _) | ((with_reducible refine Blk.apart ?_ _ _ _ ?_); rotate_left; focus (first | omega | (simp; done) | (simp; omega))) | (with_reducible refine Blk.by (by assumption) ?_))); done) | ((repeat (first | (with_reducible exact Below.refl _ _) | (with_reducible refine below_drewN ?_ _) | (with_reducible refine Below.drew ?_) | (with_reducible refine below_al ?_ _) | (with_reducible refine below_on (by assumption) ?_) | ((with_reducible refine Below.setCell ?_ ?_ _); rotate_left; focus (first | omega | (simp; done) | (simp; omega))) | (with_reducible assumption))); done)))
    (first | (go_at_call 120; refine (HM.out _ (HX.out.by blwT) (HN.out.by blwT)).mono ?_; rintro e w1 ⟨v1, rfl, hO1, hb1⟩; have HO1 := Lib.hid hO1; obtain ⟨a1, c1, rfl⟩ := hO1.len; clear hO1) | (go_at_call_of 60 (Value.slice a1 mx.length c1); refine (HN1.out _ _ HO1.out).mono ?_; rintro e w2 ⟨v2, rfl, hO2, hb2⟩; have HO2 := Lib.hid hO2.sl; obtain ⟨a2, c2, rfl⟩ := hO2.len; clear hO2) | (go_at_call_of 60 (Value.slice a' ys.length c'); refine (HN2.out _ (HY.out.by blwT)).mono ?_; rintro e w3 ⟨v3, rfl, hO3, hb3⟩; have HO3 := Lib.hid hO3.sl; obtain ⟨a3, c3, rfl⟩ := hO3.len; clear hO3) | (go_at_call 59; refine (HC.out _ _ _ (HO2.out.by hb3) HO3.out).mono ?_; rintro e w4 ⟨rfl, hb4⟩))
  go_wp2
  go_ret
  exact ⟨ret_bool (by rw [HB.out, Bool.eq_iff_iff]; simp), blwT⟩
theorem Bld.lit0 {w : World} {g lo hi : Nat} (h : Blk w g #[] 62) (hlo : lo ≤ g) (hhi : g < hi) (hs : hi ≤ w.heap.size) : Bld w lo hi (.slice (some ⟨g, 0, none⟩) 0 0) [] :=
  ⟨hs, [], fun _ => 0, ⟨rfl, .inr ⟨g, 0, #[], rfl, hlo, h, Nat.le_refl _, by unfold maxLen; omega, rfl, rfl⟩⟩, rfl, (fun g' hg' => by
    have e : g = g' := by injection hg'
    omega), by intro i x s h; simp at h, by intro i j h; simp at h⟩
theorem list_pushDn {ops : Array Oper} {rest : List Oper} {o : Oper} {a : Act} {w : World} {Q : Exit → Act → World → Prop} (hgd : o.guard = none) (s x : Operand)
    (ho : o.op = .call { callee := .builtin .append, args := #[s, x], argTypes := #[32, 32] })
    (lo hi : Nat) (v : Value) (ds : List Dv) (N : Nat) (hN : ds.length = N) (hs : a.eval s = v) (hB : Bld w lo hi v ds) (nb : Nat) (d : Dv) (pv : Value) (fb : Nat) (hx : a.eval x = .slice (some ⟨nb, 0, none⟩) 1 1)
    (hnb : Blk w nb #[.int .i64 d.kind, pv, .int .i64 d.wd, .int .i64 d.len] 62) (hpv : OwnR w fb (fb + 1) pv d.pins) (hlo : lo ≤ hi) (hhi : hi ≤ fb) (hfb : fb < w.heap.size) (hn : N ≤ 1000)
    (hK : ∀ a' c' w', Bld w' lo w'.heap.size (.slice a' (N + 1) c') (ds ++ [d]) → Within lo hi w w' → wpList Tryz.prog ops Q rest (a.put o.dst (.slice a' (N + 1) c')) w') : wpList Tryz.prog ops Q (o :: rest) a w := by
  subst hN
  exact list_push hgd s x ho lo hi v ds hs hB nb d pv fb hx hnb hpv hlo hhi hfb hn hK
theorem ren_in {names pins : List Int} {kind wd len : Int} (hl : 2 ≤ pins.length) : ∃ Z, normz kind (pins.map (nmOf names)) = Z ∧ Z ≠ [] ∧ nzD (renD names ⟨kind, pins, wd, len⟩) = ⟨kind, Z, wd, len⟩ :=
  ⟨_, rfl, (fun e => by have := length_normz kind (pins.map (nmOf names)); rw [e] at this; simp at this; omega), rfl⟩
set_option maxRecDepth 100000 in
set_option maxHeartbeats 4000000 in
theorem l30Equal_any (xs ys : List Dv) (s1 s2 : Value) (w : World) (h : DvSl w s1 xs) (h' : DvSl w s2 ys) (hl : xs.length ≤ 1000) (hl' : ys.length ≤ 1000) :
    Calls Tryz.prog 144 #[s1, s2] w fun e w' => e = .returned (.bool (decide (xs = ys))) ∧ Below w.heap.size w w' := by
  have HX := Lib.hid h
  have HY := Lib.hid h'
  obtain ⟨a1, c1, rfl⟩ := h.sized
  obtain ⟨a2, c2, rfl⟩ := h'.sized
  have HCP := Lib.hid (fun (x y : Dv) s1 s2 w h h' => specCompareDevices_any x.kind x.wd x.len y.kind y.wd y.len s1 s2 x.pins y.pins w h h')
  have HZ := Lib.hid (fun (x y : Dv) => (show devcmp x.kind y.kind x.pins y.pins x.wd y.wd x.len y.len = dcf x y from rfl))
  clear h h'
  by_cases hxy : xs.length = ys.length
  · have HEQ := Lib.hid (show (∀ k, k < xs.length → xs[k]? = ys[k]?) → xs = ys from fun h => List.ext_getElem? (fun i => by
      by_cases hi : i < xs.length
      · exact h i hi
      · rw [show xs[i]? = none by simp; omega, show ys[i]? = none by simp; omega]))
    rw [← hxy] at HY ⊢
    have HL := Lib.hid hxy
    obtain ⟨n, hn⟩ : ∃ n, xs.length = n := ⟨_, rfl⟩
    rw [hn] at HX HY HEQ hl ⊢
    have HN := Lib.hid hn
    clear hxy hn hl'
    go_enter Tryz.func144, Tryz.ntmps144
    go_wp2
    go_loopw [5] (fun i wr => ∃ k : Nat, k ≤ n ∧ i = .int .i64 k ∧ Hid (∀ j, j < k → xs[j]? = ys[j]?) ∧ Below w.heap.size w wr) (fun i _ => n - (intOf i).toNat)
    case atStart => exact ⟨0, Nat.zero_le _, rfl, Lib.hid (by intro j h; omega), blwT⟩
    case round =>
      obtain ⟨k, hk, rfl, HI, hb⟩ := hrel
      by_cases hlt : k < n
      · have i1 : (k : Int) < (n : Int) := by omega
        have i2 : decide (k < n) = true := decide_eq_true hlt
        obtain ⟨x, hx⟩ : ∃ x, xs[k]? = some x := ⟨_, List.getElem?_eq_getElem (by rw [HN.out]; exact hlt)⟩
        obtain ⟨y, hy⟩ : ∃ y, ys[k]? = some y := ⟨_, List.getElem?_eq_getElem (by rw [← HL.out, HN.out]; exact hlt)⟩
        rcases HX.out with ⟨_, _, _, h2⟩ | ⟨xb, xo, xc, he, _, _, h4⟩
        · rw [h2] at hx; simp at hx
        obtain ⟨rfl, rfl⟩ : a1 = some ⟨xb, xo, none⟩ ∧ c1 = xc := by
          simp only [Value.slice.injEq] at he
          exact ⟨he.1, he.2.2⟩
        rcases HY.out with ⟨_, _, _, h2⟩ | ⟨yb, yo, yc, he', _, _, h4'⟩
        · rw [h2] at hy; simp at hy
        obtain ⟨rfl, rfl⟩ : a2 = some ⟨yb, yo, none⟩ ∧ c2 = yc := by
          simp only [Value.slice.injEq] at he'
          exact ⟨he'.1, he'.2.2⟩
        obtain ⟨sx, x1, x2, x3, x4, x5⟩ := (h4 k x hx).by hb
        obtain ⟨sy, y1, y2, y3, y4, y5⟩ := (h4' k y hy).by hb
        obtain ⟨px, cx, rfl⟩ := x5.len
        obtain ⟨py, cy, rfl⟩ := y5.len
        have HXP := Lib.hid x5
        have HYP := Lib.hid y5
        have HXK := Lib.hid hx
        have HYK := Lib.hid hy
        obtain ⟨R, hR⟩ : ∃ R, dcf x y = R := ⟨_, rfl⟩
        have hC := HCP.out x y
        rw [HZ.out x y, hR] at hC
        have HC := Lib.hid hC
        have HDC := Lib.hid hR
        clear hC hR
        clear hx hy x5 y5 he he' h4 h4' HCP HZ
        go_upto_region 6 with fail
        have HSB : ∀ w1 : World, Below wr.heap.size wr w1 → (fun w' => w'.cell? ⟨xb, xo + k * 4, none⟩ = some (.int .i64 x.kind) ∧ w'.cell? ⟨xb, xo + k * 4 + 1, none⟩ = some (.slice px x.pins.length cx) ∧ w'.cell? ⟨xb, xo + k * 4 + 2, none⟩ = some (.int .i64 x.wd) ∧ w'.cell? ⟨xb, xo + k * 4 + 3, none⟩ = some (.int .i64 x.len) ∧ w'.cell? ⟨yb, yo + k * 4, none⟩ = some (.int .i64 y.kind) ∧ w'.cell? ⟨yb, yo + k * 4 + 1, none⟩ = some (.slice py y.pins.length cy) ∧ w'.cell? ⟨yb, yo + k * 4 + 2, none⟩ = some (.int .i64 y.wd) ∧ w'.cell? ⟨yb, yo + k * 4 + 3, none⟩ = some (.int .i64 y.len) ∧ Below wr.heap.size wr w') w1 := fun w1 h => ⟨cell_by' h x1, cell_by' h x2, cell_by' h x3, cell_by' h x4, cell_by' h y1, cell_by' h y2, cell_by' h y3, cell_by' h y4, h⟩
        go_region_held3 (fun w' => w'.cell? ⟨xb, xo + k * 4, none⟩ = some (.int .i64 x.kind) ∧ w'.cell? ⟨xb, xo + k * 4 + 1, none⟩ = some (.slice px x.pins.length cx) ∧ w'.cell? ⟨xb, xo + k * 4 + 2, none⟩ = some (.int .i64 x.wd) ∧ w'.cell? ⟨xb, xo + k * 4 + 3, none⟩ = some (.int .i64 x.len) ∧ w'.cell? ⟨yb, yo + k * 4, none⟩ = some (.int .i64 y.kind) ∧ w'.cell? ⟨yb, yo + k * 4 + 1, none⟩ = some (.slice py y.pins.length cy) ∧ w'.cell? ⟨yb, yo + k * 4 + 2, none⟩ = some (.int .i64 y.wd) ∧ w'.cell? ⟨yb, yo + k * 4 + 3, none⟩ = some (.int .i64 y.len) ∧ Below wr.heap.size wr w')
          (((try (obtain ⟨_, _, _, _, _, _, _, _, hSB⟩ := hHeld)); refine HSB _ ?_; ((repeat (first | (with_reducible exact Below.refl _ _) | (with_reducible refine below_drewN ?_ _) | (with_reducible refine Below.drew ?_) | (with_reducible refine below_al ?_ _) | (with_reducible refine below_on (by assumption) ?_) | ((with_reducible refine Below.setCell ?_ ?_ _); rotate_left; focus (first | omega | (simp; done) | (simp; omega))) | (with_reducible assumption))); done)))
          (first | (go_at_call 59; refine (HC.out _ _ _ (HXP.out.by blwT) (HYP.out.by blwT)).mono ?_; rintro e w1 ⟨rfl, hb1⟩))
        all_goals
          have hb2 : Below w.heap.size w w1 := below_on hb1 (below_on (below_of_drewN wr 1) hb)
          by_cases hr0 : R = 0
          · subst hr0
            have hxy : x = y := dcf_zero.1 HDC.out
            have HI2 := Lib.hid (show ∀ j, j < k + 1 → xs[j]? = ys[j]? from fun j hj => by
              by_cases e : j = k
              · subst e; rw [HXK.out, HYK.out, hxy]
              · exact HI.out j (by omega))
            clear hxy x1 x2 x3 x4 y1 y2 y3 y4
            go_wp2
            exact ⟨⟨k + 1, by omega, by go_num, HI2, hb2⟩, by simp [intOf]; omega⟩
          · have r1 : (R == 0) = false := by simpa using hr0
            have r2 : (R != 0) = true := by simpa using hr0
            have hne : Hid (¬ xs = ys) := Lib.hid (fun e => hr0 (by
              have h1 := HXK.out
              rw [e, HYK.out] at h1
              rw [← HDC.out, dcf_zero.2 (Option.some.inj h1).symm]))
            clear hr0 x1 x2 x3 x4 y1 y2 y3 y4
            go_wp2
            go_ret
            exact ⟨ret_bool (decide_eq_false hne.out).symm, hb2⟩
      · obtain rfl : n = k := by omega
        have i1 : ¬ (n : Int) < (n : Int) := by omega
        have hr := Lib.hid (HEQ.out (fun j hj => HI.out j hj))
        go_wp2
        go_ret
        exact ⟨ret_bool (decide_eq_true hr.out).symm, blwT⟩
  · have hne : ¬ xs = ys := fun e => hxy (by rw [e])
    rw [decide_eq_false hne]
    have e1 : ((xs.length : Int) != (ys.length : Int)) = true := by simp; omega
    have e2 : ((xs.length : Int) == (ys.length : Int)) = false := by simp; omega
    clear hxy hne HX HY
    generalize xs.length = n1 at *
    generalize ys.length = n2 at *
    go_enter Tryz.func144, Tryz.ntmps144
    go_wp2
    go_ret
    exact ⟨rfl, blwT⟩
set_option maxRecDepth 100000 in
set_option maxHeartbeats 8000000 in
theorem l30Inner_any (x : Nl) (names : List Int) (v sn : Value) (w : World) (h : NlV w v x) (hn : IntSl w sn names) (hl : x.ds.length ≤ 24) (hd : ∀ d ∈ x.ds, 2 ≤ d.pins.length ∧ d.pins.length ≤ 3 ∧ ∀ p ∈ d.pins, 0 ≤ p ∧ p < (names.length : Int)) :
    Calls Tryz.prog 145 #[v, sn] w fun e w' => ∃ v', e = .returned v' ∧ OwnDs w' w.heap.size w'.heap.size v' (innerS x.ds names) ∧ Below w.heap.size w w' := by
  obtain ⟨s1, s2, rfl, hds, hps⟩ := h
  obtain ⟨nets, ds, ps⟩ := x
  dsimp only at *
  have HD := Lib.hid hds
  have HN := Lib.hid hn
  have HPN := Lib.hid hd
  obtain ⟨a1, c1, rfl⟩ := hds.sized
  obtain ⟨a2, c2, rfl⟩ := hps.sized
  obtain ⟨an, cn, rfl⟩ := hn.len
  obtain ⟨L2, hL2⟩ : ∃ L, ps.length = L := ⟨_, rfl⟩
  obtain ⟨L, hL⟩ : ∃ L, ds.length = L := ⟨_, rfl⟩
  rw [hL2]
  rw [hL] at HD hl ⊢
  have HL := Lib.hid hL
  have HSR := Lib.hid (fun ds sv w h hn hp => specSorted_any ds sv w h hn hp)
  have HMV := Lib.hid (fun d sx w h h' a b c => moved_any d names sx (.slice an names.length cn) w h h' a b c)
  have HNM := Lib.hid (fun k wd ln sv zs w h hn => specNorm_any k wd ln sv zs w h hn)
  have HST := Lib.hid (fun k d (h : ds[k]? = some d) => innTo_step names h)
  have HLE := Lib.hid (fun k => innTo_len ds names k)
  have HAL := Lib.hid (show srtD (innTo ds names L) = innerS ds names from by rw [← hL]; exact innTo_all ds names)
  have HIS := Lib.hid (fun (pins : List Int) (j : Nat) (p : Int) (h : pins[j]? = some p) => inTo_step names h)
  clear hds hps hn hd hL hL2
  go_enter Tryz.func145, Tryz.ntmps145
  go_wp2
  go_loopw [5, 6] (fun ov i wr => ∃ (k hi m c : Nat) (ga : Option Addr), k ≤ L ∧ i = .int .i64 k ∧ ov = .slice ga m c ∧ m ≤ 24 ∧ Hid (Bld wr (w.heap.size + 1) hi (.slice ga m c) (innTo ds names k)) ∧ w.heap.size + 1 ≤ hi ∧ hi ≤ wr.heap.size ∧ Blk wr w.heap.size #[.int .i64 nets, .slice a1 L c1, .slice a2 L2 c2] 35 ∧ Below w.heap.size w wr) (fun _ i _ => L - (intOf i).toNat)
  case atStart =>
    have hB : Blk ((w.alloc (.cells #[.int .i64 nets, .slice a1 L c1, .slice a2 L2 c2] 35)).alloc (.cells #[] 62)) (w.heap.size + 1) #[] 62 := Blk.new _ (by simp)
    exact ⟨0, w.heap.size + 2, 0, 0, _, Nat.zero_le _, rfl, rfl, by omega, Lib.hid (Bld.lit0 hB (by omega) (by omega) (by simp)), by omega, by simp, blkT, blwT⟩
  case round =>
    obtain ⟨k, hi, m, c, ga, hk, rfl, rfl, hm, HB, hhi, hhs, kA, hb⟩ := hrel
    have qA := kA.cell
    have lA := kA.lt
    by_cases hlt : k < L
    · obtain ⟨d, hd⟩ : ∃ d, ds[k]? = some d := ⟨_, List.getElem?_eq_getElem (by rw [HL.out]; exact hlt)⟩
      obtain ⟨hp2, hp3, hpr⟩ := HPN.out d (List.mem_of_getElem? hd)
      have hml : (innTo ds names k).length = m := by
        obtain ⟨_, _, e⟩ := HB.out.sized
        simp only [Value.slice.injEq] at e
        exact e.2.1.symm
      have hmk : m ≤ k := by rw [← hml]; exact HLE.out k
      have HST1 := Lib.hid (HST.out k d hd)
      rcases HD.out with ⟨_, _, _, h2⟩ | ⟨db, dof, dc, he, _, _, h4⟩
      · rw [h2] at hd; simp at hd
      obtain ⟨rfl, rfl⟩ : a1 = some ⟨db, dof, none⟩ ∧ c1 = dc := by
        simp only [Value.slice.injEq] at he
        exact ⟨he.1, he.2.2⟩
      obtain ⟨sx, x1, x2, x3, x4, x5⟩ := (h4 k d hd).by hb
      obtain ⟨px, cx, rfl⟩ := x5.len
      obtain ⟨kd, pins, wd, ln⟩ := d
      dsimp only at *
      have HXP := Lib.hid x5
      have HPR := Lib.hid hpr
      have HML := Lib.hid hml
      obtain ⟨P, hP⟩ : ∃ P, pins.length = P := ⟨_, rfl⟩
      rw [hP] at x2 HXP hp2 hp3
      have HPL := Lib.hid hP
      have HIA := Lib.hid (show inTo names pins P = inD names ⟨kd, pins, wd, ln⟩ from by rw [← hP]; exact inTo_all names ⟨kd, pins, wd, ln⟩)
      have i1 : (k : Int) < (L : Int) := by omega
      have i2 : decide (k < L) = true := decide_eq_true hlt
      clear hd he h4 x5 hpr hml hP
      go_wp2
      obtain ⟨wo, rfl⟩ : ∃ z : World, z = wr := ⟨_, rfl⟩
      go_loopw [7, 8] (fun b j wy => ∃ q : Nat, q ≤ P ∧ j = .int .i64 q ∧ b = .bool (inTo names pins q) ∧ wy = wo) (fun _ j _ => P - (intOf j).toNat)
      case atStart => exact ⟨0, Nat.zero_le _, rfl, rfl, rfl⟩
      case round =>
        obtain ⟨q, hq, rfl, rfl, rfl⟩ := hrel
        by_cases hql : q < P
        · have j1 : (q : Int) < (P : Int) := by omega
          have j2 : decide (q < P) = true := decide_eq_true hql
          obtain ⟨pz, hpz⟩ : ∃ pz, pins[q]? = some pz := ⟨_, List.getElem?_eq_getElem (by rw [HPL.out]; exact hql)⟩
          have HI1 := Lib.hid (HIS.out pins q pz hpz)
          obtain ⟨pn, rfl⟩ : ∃ n : Nat, pz = n := ⟨pz.toNat, by have := HPR.out pz (List.mem_of_getElem? hpz); omega⟩
          have hpn := (HPR.out _ (List.mem_of_getElem? hpz)).2
          cases hin : inTo names pins q with
          | true =>
            rw [hin, Bool.true_and] at HI1
            obtain ⟨pb, po, pc, hep, _, c5⟩ := HXP.out.nm (by rw [HPL.out]; omega)
            obtain ⟨rfl, rfl⟩ : px = some ⟨pb, po, none⟩ ∧ cx = pc := by
              simp only [Value.slice.injEq] at hep
              exact ⟨hep.1, hep.2.2⟩
            have cp := c5 q (by rw [HPL.out]; exact hql)
            have e5 : nmOf pins (q : Int) = pn := by unfold nmOf; rw [Int.toNat_natCast, List.getD_eq_getElem?_getD, hpz]; rfl
            rw [e5] at cp
            obtain ⟨nb, no, nc, hen, _, c6⟩ := (HN.out.by hb).nm (by omega)
            obtain ⟨rfl, rfl⟩ : an = some ⟨nb, no, none⟩ ∧ cn = nc := by
              simp only [Value.slice.injEq] at hen
              exact ⟨hen.1, hen.2.2⟩
            have cz := c6 pn (by omega)
            obtain ⟨z, hz⟩ : ∃ z, nmOf names (pn : Int) = z := ⟨_, rfl⟩
            rw [hz] at cz HI1
            have j3 : decide (pn < names.length) = true := decide_eq_true (by omega)
            clear c5 c6 hep hen hpz e5 hz
            generalize names.length = NL at *
            by_cases hz0 : 0 ≤ z
            · have j4 : decide (0 ≤ z) = true := decide_eq_true hz0
              rw [j4] at HI1
              go_wp2
              exact ⟨⟨q + 1, by omega, by go_num, by rw [HI1.out], (by first | trivial | rfl)⟩, by simp [intOf]; omega⟩
            · have j4 : decide (0 ≤ z) = false := decide_eq_false hz0
              rw [j4] at HI1
              go_wp2
              exact ⟨⟨q + 1, by omega, by go_num, by rw [HI1.out], (by first | trivial | rfl)⟩, by simp [intOf]; omega⟩
          | false =>
            rw [hin, Bool.false_and] at HI1
            clear hpz
            go_wp2
            exact ⟨⟨q + 1, by omega, by go_num, by rw [HI1.out], (by first | trivial | rfl)⟩, by simp [intOf]; omega⟩
        · obtain rfl : P = q := by omega
          have j1 : ¬ (P : Int) < (P : Int) := by omega
          rw [HIA.out]
          cases hin : inD names ⟨kd, pins, wd, ln⟩ with
          | true =>
            rw [hin, if_pos rfl] at HST1
            obtain ⟨Z, hZ, hZ0, hZd⟩ := ren_in (names := names) (kind := kd) (wd := wd) (len := ln) (pins := pins) (by rw [HPL.out]; omega)
            rw [hZd] at HST1
            clear hZd
            go_wp2_with fail
            refine (HMV.out ⟨kd, pins, wd, ln⟩ _ _ HXP.out (HN.out.by hb) (by dsimp only; rw [HPL.out]; omega) (by dsimp only; intro e; have h := HPL.out; rw [e] at h; simp at h; omega) (by dsimp only; intro p hp; have := HPR.out p hp; omega)).mono ?_
            rintro e w1 ⟨v1, rfl, hI1, hb1⟩
            obtain ⟨p1, cc1, rfl⟩ := hI1.len
            dsimp only at hI1 ⊢
            rw [List.length_map, HPL.out] at hI1 ⊢
            have HI1 := Lib.hid hI1
            have hb1w := below_on hb1 hb
            clear hI1
            go_wp2_with fail
            refine (HNM.out kd wd ln _ (pins.map (nmOf names)) _ HI1.out (by rw [List.length_map, HPL.out]; omega)).mono ?_
            rintro e w2 ⟨v2, rfl, hO2, hb2⟩
            rw [hZ] at hO2
            obtain ⟨fb, hf1, hf2, hOR⟩ := hO2.pin hZ0
            obtain ⟨p2, cc2, rfl⟩ := hOR.sl.len
            have HOR := Lib.hid hOR
            have hs1 := hb1.size
            have hs2 := hb2.size
            have HB2 := Lib.hid ((HB.out.by hb1).by hb2)
            have kA2 := Blk.by hb2 (Blk.by hb1 kA)
            have hb2w := below_on hb2 hb1w
            have hsw := hb.size
            clear hO2 hOR hZ hb1 hb2 HI1 qA lA x1 x2 x3 x4
            go_wp2_with (refine list_pushDn (by rfl) _ _ (by rfl) (w.heap.size + 1) hi (.slice ga m c) (innTo ds names k) m HML.out (by rfl) (HB2.out.by blwT) w2.heap.size ⟨kd, Z, wd, ln⟩ (.slice p2 Z.length cc2) fb (by rfl) (Blk.new _ rfl) (OwnR.by ((Below.refl _ w2).alloc (Nat.le_refl _) _) HOR.out) (by omega) (by omega) (by simp; omega) (by omega) ?_; intro a9 c9 w9 hB9 hw9; have HB9 := Lib.hid hB9; clear hB9)
            have hs9 := hw9.size
            have hs9' : w2.heap.size ≤ w9.heap.size := by simp at hs9; omega
            exact ⟨⟨k + 1, w9.heap.size, m + 1, c9, a9, by omega, by go_num, rfl, by omega, Lib.hid (by rw [HST1.out]; exact HB9.out), by omega, by omega, hw9.blk (kA2.past _) (by omega), hw9.below (below_on ((Below.refl _ w2).alloc (Nat.le_refl _) _) hb2w) (by omega)⟩, by simp [intOf]; omega⟩
          | false =>
            rw [hin, if_neg (by simp), List.append_nil] at HST1
            go_wp2
            exact ⟨⟨k + 1, hi, m, c, ga, by omega, by go_num, rfl, by omega, Lib.hid (by rw [HST1.out]; exact HB.out), by omega, by omega, kA, hb⟩, by simp [intOf]; omega⟩
    · obtain rfl : L = k := by omega
      have i1 : ¬ (L : Int) < (L : Int) := by omega
      have hsl := HB.out.own.sl
      go_wp2_with fail
      refine (HSR.out _ _ _ hsl (by have := HLE.out L; omega) (fun d hd => ?_)).mono ?_
      · unfold innTo at hd
        obtain ⟨d0, h0, rfl⟩ := List.mem_map.1 hd
        have hm0 := (List.mem_filter.1 h0).1
        have := HPN.out d0 (List.mem_of_mem_take hm0)
        have hln : (nzD (renD names d0)).pins.length = d0.pins.length := by
          show (normz d0.kind (d0.pins.map (nmOf names))).length = _
          rw [length_normz, List.length_map]
        exact ⟨by omega, fun e => by rw [e] at hln; simp at hln; omega⟩
      rintro e w1 ⟨v1, rfl, hO, hb1⟩
      rw [HAL.out] at hO
      have hsz := hb.size
      go_wp2
      go_ret
      exact ⟨v1, rfl, hO.wide (by omega) (Nat.le_refl _), below_on hb1 hb⟩
def smlB (x : Nl) : Bool := decide (x.nets ≤ 10) && decide (x.ds.length ≤ 10)
noncomputable def cpS (x y : Nl) (z : List Int) : List Int := grd (x.ds.map fun d => nzD (renD z d)) (y.ds.map nzD) x.ds.length
noncomputable def cmpF (x y : Nl) : Option (List Int) := if mayB x y = true then (srchS x y true).head? else none
noncomputable def cmpR (x y : Nl) : List Int × List Int :=
  if (nlB x && nlB y) = true then (if (smlB x && smlB y) = true then (match cmpF x y with | some z => (z, cpS x y z) | none => ([], [])) else ([], [])) else ([], [])
noncomputable def cmpC (x y : Nl) : Int :=
  if (nlB x && nlB y) = true then (if (smlB x && smlB y) = true then (match cmpF x y with | some _ => 0 | none => 5) else 3) else 1
def preB (x y : Nl) : Bool := decide (x.nets = y.nets) && (decide (x.ds.length = y.ds.length) && decide (namD x.ps y.ps = -1))
theorem pre_facts {x y : Nl} (h : preB x y = true) : y.nets = x.nets ∧ y.ds.length = x.ds.length ∧ y.ps.length = x.ps.length ∧ ∀ (i : Nat) (a b : Pt), x.ps[i]? = some a → y.ps[i]? = some b → b.name = a.name := by
  simp only [preB, Bool.and_eq_true, decide_eq_true_eq] at h
  obtain ⟨h1, h2, h3⟩ := h
  obtain ⟨h4, h5⟩ := namD_no h3
  exact ⟨h1.symm, h2.symm, h4, h5⟩
theorem ref_lens {x : Nl} (hx : nlB x = true) : ((refNet x).1.1.length : Int) = x.nets ∧ (refNet x).1.2.length = x.ds.length := by
  have hr : refNet x = refN x 64 (iniS x) 0 := by unfold refNet; rw [if_pos hx]
  have := coB_lens (coB_refN 64 (iniS x) 0 (coB_ini hx))
  rw [hr]
  exact ⟨this.1, this.2.1⟩
theorem iso_may {x y : Nl} {p q : List Int} (H : NlIso x y p q) (hx : nlB x = true) (hy : nlB y = true) : mayB x y = true := by
  obtain ⟨c1, c2⟩ := colors_of H hx hy (ref_lens hx) (ref_lens hy)
  simp only [mayB, Bool.and_eq_true, decide_eq_true_eq]
  exact ⟨H.nets.symm, H.len.symm, names_of H, sizes_of H hx hy, c1, c2⟩
theorem cmpF_pre {x y : Nl} (hx : nlB x = true) (hy : nlB y = true) : cmpF x y = if preB x y = true then (srchS x y true).head? else none := by
  unfold cmpF
  by_cases hp : preB x y = true
  · rw [if_pos hp]
    obtain ⟨f1, f2, f3, f4⟩ := pre_facts hp
    by_cases hm : mayB x y = true
    · rw [if_pos hm]
    · rw [if_neg hm]
      cases hs : srchS x y true with
      | nil => rfl
      | cons z l =>
        obtain ⟨_, _, _, H⟩ := srchS_iso hx hy f1 f2 f3 f4 (one := true) (z := z) (by rw [hs]; simp)
        exact absurd (iso_may H hx hy) hm
  · rw [if_neg hp, if_neg (fun hm => hp (by
      simp only [mayB, Bool.and_eq_true, decide_eq_true_eq] at hm
      simp only [preB, Bool.and_eq_true, decide_eq_true_eq]
      exact ⟨hm.1, hm.2.1, hm.2.2.1⟩))]
theorem cmpF_iso {x y : Nl} (hx : nlB x = true) (hy : nlB y = true) {z : List Int} (h : cmpF x y = some z) : goodN x.nets.toNat z ∧ z.length = x.nets.toNat ∧ fitB x y z = true ∧ NlIso x y z (cpS x y z) := by
  rw [cmpF_pre hx hy] at h
  split at h
  · rename_i hp
    obtain ⟨f1, f2, f3, f4⟩ := pre_facts hp
    exact srchS_iso hx hy f1 f2 f3 f4 (List.mem_of_mem_head? (by rw [h]; exact rfl))
  · cases h
end Go.Proofs.YtifbffianbgeaaaGreat
