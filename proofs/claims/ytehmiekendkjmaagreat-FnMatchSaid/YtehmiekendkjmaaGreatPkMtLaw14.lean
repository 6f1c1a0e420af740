/- Contracts and plain laws, part 14, for the statement's proof. -/
import Derived.Test.YtehmiekendkjmaaGreatPkMtLaw13
import Derived.BigQuiet
import Derived.Deep.DeepCutAuto
import Derived.Deep.CutRange
namespace Go.Proofs.YtehmiekendkjmaaGreat
open Go.RowKit
set_option linter.unusedVariables false
set_option linter.unusedSimpArgs false
def srTo (g : Nat → List (List Int)) (one : Bool) : Nat → List (List Int)
  | 0 => []
  | k + 1 => if (one && decide (0 < (srTo g one k).length)) = true then srTo g one k else srTo g one k ++ g k
def srch (fit : List Int → Bool) (col : Nat → Nat → Bool) (n : Nat) (one : Bool) : Nat → List Int → List (List Int)
  | 0, nets => [nets]
  | r + 1, nets => srTo (fun k => if (col nets.length k && (!nets.contains (k : Int) && fit (nets ++ [(k : Int)]))) = true then srch fit col n one r (nets ++ [(k : Int)]) else []) one n
section
variable {g : Nat → List (List Int)} {one : Bool}
theorem srTo_stop {k : Nat} (h1 : one = true) (h : 0 < (srTo g one k).length) : ∀ m, srTo g one (k + m) = srTo g one k
  | 0 => rfl
  | m + 1 => by
    show (if (one && decide (0 < (srTo g one (k + m)).length)) = true then srTo g one (k + m) else srTo g one (k + m) ++ g (k + m)) = _
    rw [srTo_stop h1 h m, if_pos (by rw [h1] at h ⊢; simp [h])]
theorem srTo_sub {z : List Int} : ∀ {n : Nat}, z ∈ srTo g one n → ∃ k, k < n ∧ z ∈ g k
  | 0, h => by cases h
  | n + 1, h => by
    unfold srTo at h
    split at h
    · obtain ⟨k, a, b⟩ := srTo_sub h; exact ⟨k, by omega, b⟩
    · rcases List.mem_append.1 h with h | h
      · obtain ⟨k, a, b⟩ := srTo_sub h; exact ⟨k, by omega, b⟩
      · exact ⟨n, by omega, h⟩
end
section
variable {fit : List Int → Bool} {col : Nat → Nat → Bool} {n : Nat} {one : Bool}
theorem srch_sound {z : List Int} : ∀ (r : Nat) (nets : List Int), goodN n nets → fit nets = true → (∀ i, i < nets.length → col i (nmOf nets (i : Int)).toNat = true) → nets.length + r = n → z ∈ srch fit col n one r nets →
    goodN n z ∧ z.length = n ∧ fit z = true ∧ (∀ i, i < n → col i (nmOf z (i : Int)).toNat = true) ∧ z.take nets.length = nets
  | 0, nets, hg, hf, hc, hl, h => by
    have e : z = nets := by simpa [srch] using h
    subst e
    exact ⟨hg, by omega, hf, fun i hi => hc i (by omega), List.take_length⟩
  | r + 1, nets, hg, hf, hc, hl, h => by
    obtain ⟨k, hk, hz⟩ := srTo_sub h
    (try dsimp only at hz)
    split at hz
    · rename_i q
      simp only [Bool.and_eq_true, Bool.not_eq_true', List.contains_eq_mem, decide_eq_false_iff_not] at q
      obtain ⟨q1, q2, q3⟩ := q
      obtain ⟨a, b, c, d, e⟩ := srch_sound r (nets ++ [(k : Int)]) ⟨by
          rw [List.nodup_append]
          exact ⟨hg.1, by simp, fun u hu v hv e => by rw [List.mem_singleton] at hv; subst e; subst hv; exact q2 hu⟩, fun u hu => by
          rcases List.mem_append.1 hu with hu | hu
          · exact hg.2 u hu
          · rw [List.mem_singleton] at hu; omega⟩ q3 (fun i hi => by
          rw [List.length_append, List.length_singleton] at hi
          by_cases e : i = nets.length
          · subst e
            have : nmOf (nets ++ [(k : Int)]) (nets.length : Int) = k := by unfold nmOf; simp [List.getD_eq_getElem?_getD]
            rw [this]; simpa using q1
          · have : nmOf (nets ++ [(k : Int)]) (i : Int) = nmOf nets (i : Int) := by unfold nmOf; rw [Int.toNat_natCast, List.getD_eq_getElem?_getD, List.getD_eq_getElem?_getD, List.getElem?_append_left (by omega)]
            rw [this]; exact hc i (by omega)) (by rw [List.length_append, List.length_singleton]; omega) hz
      refine ⟨a, b, c, d, ?_⟩
      rw [List.length_append, List.length_singleton] at e
      have := congrArg (List.take nets.length) e
      rw [List.take_take, Nat.min_eq_left (by omega), List.take_left] at this
      exact this
    · cases hz
end
def grd (A B : List Dv) : Nat → List Int
  | 0 => []
  | k + 1 => grd A B k ++ [((((List.range B.length).find? fun j : Nat => !(grd A B k).contains (j : Int) && decide (B[j]? = A[k]?)).getD 0 : Nat) : Int)]
theorem nodup_sub_len : ∀ {a b : List Int}, a.Nodup → (∀ z ∈ a, z ∈ b) → a.length ≤ b.length
  | [], b, _, _ => by simp
  | x :: a, b, hn, h => by
    have hx := h x (by simp)
    have hn' := List.nodup_cons.1 hn
    have := nodup_sub_len (a := a) (b := b.erase x) hn'.2 (fun z hz => by
      have : z ≠ x := fun e => hn'.1 (e ▸ hz)
      exact (List.mem_erase_of_ne this).2 (h z (by simp [hz])))
    rw [List.length_erase_of_mem hx] at this
    have hp := List.length_pos_of_mem hx
    rw [List.length_cons]; omega
theorem cnt_idx {α : Type} [DecidableEq α] (B : List α) (a : α) : ((List.range B.length).filter fun j => decide (B[j]? = some a)).length = B.count a := by
  have h : ∀ k, k ≤ B.length → ((List.range k).filter fun j => decide (B[j]? = some a)).length = (B.take k).count a := by
    intro k hk
    induction k with
    | zero => simp
    | succ k ih =>
      have e : B[k]? = some B[k] := List.getElem?_eq_getElem (by omega)
      rw [List.range_succ, List.filter_append, List.length_append, ih (by omega), take_snoc_of B k _ e, List.count_append, List.count_singleton]
      congr 1
      by_cases q : B[k] = a
      · rw [List.filter_cons_of_pos (by simp [e, q])]; simp [q]
      · rw [List.filter_cons_of_neg (by simp [e, q])]; simp [q]
  have := h _ (Nat.le_refl _)
  rwa [List.take_length] at this
structure GrdOk (A B : List Dv) (k : Nat) : Prop where
  len : (grd A B k).length = k
  nodup : (grd A B k).Nodup
  range : ∀ z ∈ grd A B k, 0 ≤ z ∧ z < (B.length : Int)
  same : (grd A B k).map (fun z => B[z.toNat]?) = (A.take k).map some
theorem grd_next {A B : List Dv} (hp : A.Perm B) {k : Nat} (hk : k < A.length) (h : GrdOk A B k) : ∃ j : Nat, j < B.length ∧ ¬ (j : Int) ∈ grd A B k ∧ B[j]? = A[k]? := by
  have ea : A[k]? = some A[k] := List.getElem?_eq_getElem hk
  by_cases hex : ∃ j : Nat, j < B.length ∧ ¬ (j : Int) ∈ grd A B k ∧ B[j]? = A[k]?
  · exact hex
  · exfalso
    have hall : ∀ j, j < B.length → B[j]? = some A[k] → (j : Int) ∈ grd A B k := fun j hj e => by
      by_cases q : (j : Int) ∈ grd A B k
      · exact q
      · exact absurd ⟨j, hj, q, by rw [e, ea]⟩ hex
    have h1 := cnt_idx B A[k]
    have h2 : (((List.range B.length).filter fun j => decide (B[j]? = some A[k])).map fun j : Nat => (j : Int)).length ≤ ((grd A B k).filter fun z => decide (B[z.toNat]? = some A[k])).length := by
      refine nodup_sub_len ?_ (fun z hz => ?_)
      · have : ((List.range B.length).filter fun j => decide (B[j]? = some A[k])).Nodup := (List.nodup_range).sublist List.filter_sublist
        exact List.Pairwise.map (fun j : Nat => (j : Int)) (fun a b h e => h (by omega)) this
      · obtain ⟨j, hj, rfl⟩ := List.mem_map.1 hz
        rw [List.mem_filter, List.mem_range] at hj
        rw [List.mem_filter]
        exact ⟨hall j hj.1 (by simpa using hj.2), by simpa using hj.2⟩
    rw [List.length_map, h1] at h2
    have h3 : ((grd A B k).filter fun z => decide (B[z.toNat]? = some A[k])).length = (A.take k).count A[k] := by
      have e := congrArg (List.countP (fun o => decide (o = some A[k]))) h.same
      rw [List.countP_map, List.countP_map] at e
      rw [← List.countP_eq_length_filter]
      refine Eq.trans ?_ (e.trans ?_)
      · rfl
      · rw [List.count]
        congr 1
        funext a
        rw [Bool.eq_iff_iff]
        simp [Function.comp]
    rw [h3, ← hp.count_eq] at h2
    have h4 : A.count A[k] = (A.take k).count A[k] + (A.drop k).count A[k] := by rw [← List.count_append, List.take_append_drop]
    have h5 : 0 < (A.drop k).count A[k] := by
      exact List.count_pos_iff.2 (by rw [List.drop_eq_getElem_cons hk]; exact List.mem_cons_self)
    omega
theorem grd_pick {A B : List Dv} {k : Nat} (h : ∃ j : Nat, j < B.length ∧ ¬ (j : Int) ∈ grd A B k ∧ B[j]? = A[k]?) :
    ∃ j : Nat, grd A B (k + 1) = grd A B k ++ [(j : Int)] ∧ j < B.length ∧ ¬ (j : Int) ∈ grd A B k ∧ B[j]? = A[k]? ∧ ∀ i : Nat, i < j → ¬ (¬ (i : Int) ∈ grd A B k ∧ B[i]? = A[k]?) := by
  obtain ⟨j0, a, b, c⟩ := h
  cases hf : (List.range B.length).find? fun j : Nat => !(grd A B k).contains (j : Int) && decide (B[j]? = A[k]?) with
  | none =>
    have := List.find?_eq_none.1 hf j0 (List.mem_range.2 a)
    simp at this
    exact absurd c (this b)
  | some j =>
    refine ⟨j, by rw [grd, hf]; rfl, ?_⟩
    have h1 := List.find?_some hf
    have h2 := List.mem_of_find?_eq_some hf
    rw [List.mem_range] at h2
    simp only [Bool.and_eq_true, Bool.not_eq_true', List.contains_eq_mem, decide_eq_false_iff_not, decide_eq_true_eq] at h1
    refine ⟨h2, h1.1, h1.2, fun i hi q => ?_⟩
    obtain ⟨_, us, bs, e, hn⟩ := List.find?_eq_some_iff_append.1 hf
    have hil : us.length = j := by
      have e1 : (us ++ j :: bs)[us.length]? = some j := by simp
      rw [← e, List.getElem?_range (by have := congrArg List.length e; simp at this; omega)] at e1
      simpa using e1
    have him : i ∈ us := by
      have e1 : (List.range B.length)[i]? = some i := List.getElem?_range (by omega)
      rw [e, List.getElem?_append_left (by omega)] at e1
      exact List.mem_of_getElem? e1
    have := hn i him
    simp [q.1, q.2] at this
theorem grd_ok {A B : List Dv} (hp : A.Perm B) : ∀ k, k ≤ A.length → GrdOk A B k
  | 0, _ => ⟨rfl, by simp [grd], by simp [grd], by simp [grd]⟩
  | k + 1, hk => by
    have ih := grd_ok hp k (by omega)
    obtain ⟨j, e, h1, h2, h3, _⟩ := grd_pick (grd_next hp (by omega) ih)
    have ea : A[k]? = some A[k] := List.getElem?_eq_getElem (by omega)
    refine ⟨by rw [e, List.length_append, ih.len]; rfl, ?_, ?_, ?_⟩
    · rw [e, List.nodup_append]
      exact ⟨ih.nodup, by simp, fun a ha b hb q => by rw [List.mem_singleton] at hb; subst q; subst hb; exact h2 ha⟩
    · intro z hz
      rw [e] at hz
      rcases List.mem_append.1 hz with hz | hz
      · exact ih.range z hz
      · rw [List.mem_singleton] at hz; omega
    · rw [e, List.map_append, ih.same, take_snoc_of A k _ ea, List.map_append]
      simp [h3, ea]
theorem pt_in {x : Nl} (h : nlB x = true) {p : Pt} (hp : p ∈ x.ps) : 0 ≤ p.net ∧ p.net < x.nets := by
  obtain ⟨_, _, _, _, h5⟩ := nlB_facts h
  obtain ⟨i, hi, e⟩ := List.mem_iff_getElem.1 hp
  have := h5 i hi
  have e2 : x.ps[i]? = some p := by rw [List.getElem?_eq_getElem hi, e]
  unfold ptOk at this
  rw [e2] at this
  simp only [Bool.and_eq_true] at this
  have := inB_iff.1 this.2.1
  omega
theorem good_perm {n : Nat} {z : List Int} (hg : goodN n z) (hz : z.length = n) : permB z (n : Int) = true := permB_iff.2 ⟨by omega, hg.1, hg.2⟩
theorem full_perm {x y : Nl} {n : Nat} {z : List Int} (hx : ∀ d ∈ x.ds, dvB (n : Int) d = true) (hy : ∀ d ∈ y.ds, dvB (n : Int) d = true) (hg : goodN n z) (hz : z.length = n) (h : fitI x y z = true) :
    (x.ds.map fun d => nzD (renD z d)).Perm (y.ds.map nzD) := by
  unfold fitI at h
  have h := srtD_eq.1 (of_decide_eq_true h)
  rw [List.filter_eq_self.2 (fun d hd => by
    rw [List.all_eq_true]
    intro p hp
    have := dvB_in (hx d hd) hp
    simpa using (by omega : p < (z.length : Int)))] at h
  rw [List.filter_eq_self.2 (fun d hd => by
    obtain ⟨e, he, rfl⟩ := List.mem_map.1 hd
    rw [nz_all _ (dvB_Two (hy e he)), List.all_eq_true]
    intro p hp
    have := dvB_in (hy e he) hp
    obtain ⟨i, hi⟩ := permB_has (good_perm hg hz) p this.1 this.2
    simpa using List.mem_of_getElem? hi)] at h
  exact h
theorem iso_of {x y : Nl} (hx : nlB x = true) (hy : nlB y = true) (hn : y.nets = x.nets) (hl : y.ds.length = x.ds.length) (hpl : y.ps.length = x.ps.length) (hnm : ∀ (i : Nat) (a b : Pt), x.ps[i]? = some a → y.ps[i]? = some b → b.name = a.name)
    {z : List Int} (hg : goodN x.nets.toNat z) (hz : z.length = x.nets.toNat) (hf : fitB x y z = true) :
    NlIso x y z (grd (x.ds.map fun d => nzD (renD z d)) (y.ds.map nzD) x.ds.length) := by
  obtain ⟨⟨n0, n1⟩, _, _, hdx, _⟩ := nlB_facts hx
  obtain ⟨_, _, _, hdy, _⟩ := nlB_facts hy
  obtain ⟨n, hnn⟩ : ∃ n : Nat, x.nets = n := ⟨x.nets.toNat, by omega⟩
  rw [hn, hnn] at hdy
  rw [hnn] at hdx
  have hnt : x.nets.toNat = n := by omega
  rw [hnt] at hg hz
  unfold fitB at hf
  rw [hn, hnt] at hf
  simp only [Bool.and_eq_true] at hf
  obtain ⟨hf1, hf2⟩ := hf
  rw [fit_same hdx hdy hg] at hf2
  have hperm := full_perm hdx hdy hg hz hf2
  have ok := grd_ok hperm x.ds.length (by simp)
  refine ⟨by rw [hnn]; exact good_perm hg hz, permB_iff.2 ⟨by rw [ok.len], ok.nodup, fun q hq => by have := ok.range q hq; rw [List.length_map, hl] at this; exact this⟩, hn, hl, fun i d hd => ?_, hpl, fun i a ha => ?_⟩
  · have hi := (List.getElem?_eq_some_iff.1 hd).1
    have h1 := congrArg (fun l => l[i]?) ok.same
    (try dsimp only at h1)
    rw [List.getElem?_map, List.getElem?_map, nm_get (by rw [ok.len]; exact hi), List.getElem?_take_of_lt hi, List.getElem?_map, hd] at h1
    simp only [Option.map_some, Option.some.injEq, List.getElem?_map] at h1
    obtain ⟨e, he, e2⟩ := Option.map_eq_some_iff.1 h1
    exact ⟨e, he, (nz_eqv (dvB_Two (hdx d (List.mem_of_getElem? hd))) (dvB_Two (hdy e (List.mem_of_getElem? he)))).1 e2.symm⟩
  · have hi := (List.getElem?_eq_some_iff.1 ha).1
    have hb : y.ps[i]? = some (y.ps[i]'(by omega)) := List.getElem?_eq_getElem (by omega)
    refine ⟨_, hb, hnm i a _ ha hb, ?_⟩
    have h1 : prtLR x.ps y.ps (lefTo n z.length) (rigTo n z z.length) i = true := by
      have := hf1
      simp only [allB, List.all_eq_true, List.mem_range] at this
      exact this i hi
    unfold prtLR at h1
    rw [ha, hb] at h1
    simp only [decide_eq_true_eq] at h1
    have ra := pt_in hx (List.mem_of_getElem? ha)
    have rb := pt_in hy (List.mem_of_getElem? hb)
    rw [nm_lefTo ra.1 (by omega), if_pos (by omega)] at h1
    obtain ⟨k, hk⟩ := permB_has (good_perm hg hz) _ rb.1 (by omega)
    have hkl := (List.getElem?_eq_some_iff.1 hk).1
    have e3 : nmOf z (k : Int) = (y.ps[i]'(by omega)).net := by have := nm_get hkl; rw [hk] at this; exact (Option.some.inj this).symm
    rw [← e3, nm_rig hg hkl] at h1
    rw [h1]; exact e3.symm
theorem iota_map {α : Type} (B : List α) (d : α) : (iota B.length).map (fun z => (B[z.toNat]?).getD d) = B := by
  apply List.ext_getElem?
  intro i
  by_cases h : i < B.length
  · simp [iota, h]
  · have : B[i]? = none := by simp; omega
    simp [iota, h, this]
theorem NlIso.perm {x y : Nl} {p q : List Int} (H : NlIso x y p q) (hx : nlB x = true) (hy : nlB y = true) : (x.ds.map fun d => nzD (renD p d)).Perm (y.ds.map nzD) := by
  obtain ⟨_, _, _, hdx, _⟩ := nlB_facts hx
  obtain ⟨_, _, _, hdy, _⟩ := nlB_facts hy
  have hq := permB_perm H.pq
  have hql := (permB_iff.1 H.pq).1
  have h2 := hq.map (fun z => ((y.ds.map nzD)[z.toNat]?).getD ⟨0, [], 0, 0⟩)
  have e1 : q.length = (y.ds.map nzD).length := by rw [List.length_map, H.len]; omega
  rw [e1, iota_map] at h2
  refine List.Perm.trans (List.Perm.of_eq ?_) h2
  apply List.ext_getElem?
  intro i
  by_cases hi : i < x.ds.length
  · have hd : x.ds[i]? = some x.ds[i] := List.getElem?_eq_getElem hi
    obtain ⟨e, he, hv⟩ := H.dev i _ hd
    have eq := nm_get (zs := q) (i := i) (by omega)
    rw [List.getElem?_map, List.getElem?_map, hd, eq]
    simp only [Option.map_some, List.getElem?_map, he, Option.getD_some, Option.some.injEq]
    exact (nz_eqv (dvB_Two (hdx _ (List.mem_of_getElem? hd))) (dvB_Two (hdy e (List.mem_of_getElem? he)))).2 hv
  · have a : x.ds[i]? = none := by simp; omega
    have b : q[i]? = none := by simp; omega
    rw [List.getElem?_map, List.getElem?_map, a, b]; rfl
def colB (cx cy : List Int) (i k : Nat) : Bool := decide (nmOf cx (i : Int) = nmOf cy (k : Int))
noncomputable def srchS (x y : Nl) (one : Bool) : List (List Int) := srch (fitB x y) (colB (refNet x).1.1 (refNet y).1.1) x.nets.toNat one x.nets.toNat []
theorem fit_root {x y : Nl} (hx : nlB x = true) (hy : nlB y = true) (hn : y.nets = x.nets) (hpl : y.ps.length = x.ps.length) : fitB x y [] = true := by
  obtain ⟨⟨n0, n1⟩, _, _, hdx, _⟩ := nlB_facts hx
  obtain ⟨_, _, _, hdy, _⟩ := nlB_facts hy
  obtain ⟨n, hnn⟩ : ∃ n : Nat, x.nets = n := ⟨x.nets.toNat, by omega⟩
  have hnt : x.nets.toNat = n := by omega
  rw [hn, hnn] at hdy
  rw [hnn] at hdx
  unfold fitB
  rw [hn, hnt, fit_same hdx hdy ⟨by simp, by simp⟩, Bool.and_eq_true]
  constructor
  · refine allB_yes (fun i hi => ?_)
    have ha : x.ps[i]? = some x.ps[i] := List.getElem?_eq_getElem hi
    have hb : y.ps[i]? = some (y.ps[i]'(by omega)) := List.getElem?_eq_getElem (by omega)
    have ra := pt_in hx (List.mem_of_getElem? ha)
    have rb := pt_in hy (List.mem_of_getElem? hb)
    unfold prtLR
    rw [ha, hb]
    simp only [decide_eq_true_eq]
    rw [nm_lefTo ra.1 (by omega), if_neg (by simp; omega)]
    exact (nm_rig_no (nets := []) ⟨by simp, by simp⟩ rb.1 (by omega) (by simp)).symm
  · unfold fitI
    rw [decide_eq_true_eq]
    have e : ∀ (P : Int → Bool) (hP : ∀ p, 0 ≤ p → P p = false) (ds : List Dv), (∀ d ∈ ds, dvB (n : Int) d = true) → ds.filter (fun d => d.pins.all P) = [] := fun P hP ds h => by
      rw [List.filter_eq_nil_iff]
      intro d hd hc
      have h2 := dvB_pins (h d hd)
      have hc := List.all_eq_true.1 hc
      cases hp : d.pins with
      | nil => rw [hp] at h2; simp at h2
      | cons a s =>
        have ha : a ∈ d.pins := by rw [hp]; simp
        have := hc a ha
        rw [hP a (h2.2.2 a ha).1] at this; cases this
    rw [e _ (fun p hp => by simpa using hp) x.ds hdx, List.filter_map]
    rw [show y.ds.filter ((fun d : Dv => d.pins.all fun p => ([] : List Int).contains p) ∘ nzD) = y.ds.filter (fun d => d.pins.all fun p => ([] : List Int).contains p) from filter_cong (fun d hd => nz_all _ (dvB_Two (hdy d hd)))]
    rw [e _ (fun p hp => by simp) y.ds hdy]
    rfl
theorem srchS_iso {x y : Nl} (hx : nlB x = true) (hy : nlB y = true) (hn : y.nets = x.nets) (hl : y.ds.length = x.ds.length) (hpl : y.ps.length = x.ps.length) (hnm : ∀ (i : Nat) (a b : Pt), x.ps[i]? = some a → y.ps[i]? = some b → b.name = a.name)
    {one : Bool} {z : List Int} (h : z ∈ srchS x y one) : goodN x.nets.toNat z ∧ z.length = x.nets.toNat ∧ fitB x y z = true ∧ NlIso x y z (grd (x.ds.map fun d => nzD (renD z d)) (y.ds.map nzD) x.ds.length) := by
  obtain ⟨a, b, c, _, _⟩ := srch_sound x.nets.toNat [] ⟨by simp, by simp⟩ (fit_root hx hy hn hpl) (fun i hi => by simp at hi) (by simp) h
  exact ⟨a, b, c, iso_of hx hy hn hl hpl hnm a b c⟩
theorem ba_loop (d : Array UInt8) : ∀ (n i : Nat) (r : List UInt8), d.size - i = n → ByteArray.toList.loop ⟨d⟩ i r = r.reverse ++ d.toList.drop i
  | 0, i, r, h => by
    rw [ByteArray.toList.loop]
    have hs : (ByteArray.mk d).size = d.size := rfl
    have hl : d.toList.length = d.size := Array.length_toList
    rw [if_neg (by omega), List.drop_eq_nil_of_le (by omega), List.append_nil]
  | n + 1, i, r, h => by
    rw [ByteArray.toList.loop]
    have hs : (ByteArray.mk d).size = d.size := rfl
    have hl : d.toList.length = d.size := Array.length_toList
    rw [if_pos (by omega), ba_loop d n (i + 1) _ (by omega), List.drop_eq_getElem_cons (by omega : i < d.toList.length)]
    have : (ByteArray.mk d).get! i = d.toList[i]'(by omega) := by
      show d[i]! = _
      rw [getElem!_pos d i (by omega)]
      exact (Array.getElem_toList _).symm
    rw [this, List.reverse_cons, List.append_assoc]; rfl
theorem ba_toList (s : ByteArray) : s.toList = s.data.toList := by
  cases s
  unfold ByteArray.toList
  rw [ba_loop _ _ 0 [] rfl]; rfl
theorem ba_inj {a b : ByteArray} (h : a.toList = b.toList) : a = b := by
  rw [ba_toList, ba_toList] at h
  exact ByteArray.ext (Array.toList_inj.1 h)
def fstNo (f : Nat → Bool) (n : Nat) : Int :=
  match (List.range n).find? (fun i => !f i) with
  | some i => (i : Int)
  | none => -1
theorem fstNo_none {f : Nat → Bool} {n : Nat} (h : ∀ i, i < n → f i = true) : fstNo f n = -1 := by
  unfold fstNo
  rw [List.find?_eq_none.2 (fun i hi => by simp [h i (List.mem_range.1 hi)])]
theorem fstNo_at {f : Nat → Bool} {n k : Nat} (hk : k < n) (h1 : f k = false) (h : ∀ i, i < k → f i = true) : fstNo f n = k := by
  unfold fstNo
  cases hf : (List.range n).find? (fun i => !f i) with
  | none =>
    have := List.find?_eq_none.1 hf k (List.mem_range.2 hk)
    simp [h1] at this
  | some j =>
    have hj := List.find?_some hf
    simp only [Bool.not_eq_true'] at hj
    obtain ⟨_, us, bs, e, hn⟩ := List.find?_eq_some_iff_append.1 hf
    have hlt := List.mem_range.1 (List.mem_of_find?_eq_some hf)
    have hil : us.length = j := by
      have e1 : (us ++ j :: bs)[us.length]? = some j := by simp
      rw [← e, List.getElem?_range (by have := congrArg List.length e; simp at this; omega)] at e1
      simpa using e1
    have h2 : ¬ j < k := fun q => by rw [h j q] at hj; cases hj
    have h3 : ¬ k < j := fun q => by
      have e1 : (List.range n)[k]? = some k := List.getElem?_range hk
      rw [e, List.getElem?_append_left (by omega)] at e1
      have := hn k (List.mem_of_getElem? e1)
      simp [h1] at this
    have : j = k := by omega
    subst this; rfl
theorem fstNo_cases (f : Nat → Bool) (n : Nat) : (fstNo f n = -1 ∧ ∀ i, i < n → f i = true) ∨ ∃ k : Nat, k < n ∧ fstNo f n = k ∧ f k = false ∧ ∀ i, i < k → f i = true := by
  by_cases h : ∃ k, k < n ∧ f k = false
  · have : ∀ m, (∀ i, i < m → f i = true) ∨ ∃ k, k < m ∧ f k = false ∧ ∀ i, i < k → f i = true := by
      intro m
      induction m with
      | zero => exact .inl (fun i hi => by omega)
      | succ m ih =>
        rcases ih with ih | ⟨k, a, b, c⟩
        · cases q : f m with
          | true =>
            exact .inl (fun i hi => by
              by_cases e : i = m
              · subst e; exact q
              · exact ih i (by omega))
          | false => exact .inr ⟨m, by omega, q, ih⟩
        · exact .inr ⟨k, by omega, b, c⟩
    rcases this n with h2 | ⟨k, a, b, c⟩
    · obtain ⟨k, a, b⟩ := h
      rw [h2 k a] at b; cases b
    · exact .inr ⟨k, a, fstNo_at a b c, b, c⟩
  · have h2 : ∀ i, i < n → f i = true := fun i hi => by
      cases q : f i with
      | true => rfl
      | false => exact absurd ⟨i, hi, q⟩ h
    exact .inl ⟨fstNo_none h2, h2⟩
def namAt (ps qs : List Pt) (i : Nat) : Bool :=
  match ps[i]?, qs[i]? with
  | some p, some q => p.name.toList == q.name.toList
  | _, _ => false
def namD (ps qs : List Pt) : Int := fstNo (namAt ps qs) (max ps.length qs.length)
def szD (d : Dv) : Dv := ⟨d.kind, [], d.wd, d.len⟩
def szL (ds : List Dv) : List Dv := srtD (ds.map szD)
def sizD (ds es : List Dv) : Int := fstNo (fun i => decide ((szL ds)[i]? = (szL es)[i]?)) ds.length
def colD (a b : List Int) : Int := fstNo (fun c => decide (a.count (c : Int) = b.count (c : Int))) 24
theorem names_of {x y : Nl} {p q : List Int} (H : NlIso x y p q) : namD x.ps y.ps = -1 := by
  refine fstNo_none (fun i hi => ?_)
  have := H.plen
  have ha : x.ps[i]? = some (x.ps[i]'(by omega)) := List.getElem?_eq_getElem (by omega)
  obtain ⟨b, hb, e, _⟩ := H.port i _ ha
  unfold namAt
  rw [ha, hb]
  simp [e]
theorem sizes_of {x y : Nl} {p q : List Int} (H : NlIso x y p q) (hx : nlB x = true) (hy : nlB y = true) : sizD x.ds y.ds = -1 := by
  have h := (H.perm hx hy).map szD
  rw [List.map_map, List.map_map] at h
  have e1 : x.ds.map (szD ∘ fun d => nzD (renD p d)) = x.ds.map szD := List.map_congr_left (fun d _ => rfl)
  have e2 : y.ds.map (szD ∘ nzD) = y.ds.map szD := List.map_congr_left (fun d _ => rfl)
  rw [e1, e2] at h
  have : szL x.ds = szL y.ds := srtD_eq.2 h
  exact fstNo_none (fun i _ => by rw [this]; simp)
theorem col_perm {a b : List Int} {p : List Int} {n : Nat} (hp : permB p (n : Int) = true) (ha : a.length = n) (hb : b.length = n) (h : ∀ i : Nat, i < n → nmOf a (i : Int) = nmOf b (nmOf p (i : Int))) : a.Perm b := by
  have h1 := (permB_perm hp).map (fun z => (b[z.toNat]?).getD 0)
  have hl := (permB_iff.1 hp).1
  rw [show p.length = b.length by omega, iota_map] at h1
  refine List.Perm.trans (List.Perm.of_eq ?_) h1
  apply List.ext_getElem?
  intro i
  by_cases hi : i < n
  · rw [nm_get (by omega), List.getElem?_map, nm_get (zs := p) (by omega), h i hi]
    unfold nmOf
    simp [List.getD_eq_getElem?_getD]
  · have e1 : a[i]? = none := by simp; omega
    have e2 : p[i]? = none := by simp; omega
    rw [List.getElem?_map, e1, e2]; rfl
theorem colD_perm {a b : List Int} (h : a.Perm b) : colD a b = -1 := fstNo_none (fun c _ => by rw [h.count_eq]; simp)
theorem colors_of {x y : Nl} {p q : List Int} (H : NlIso x y p q) (hx : nlB x = true) (hy : nlB y = true)
    (lx : ((refNet x).1.1.length : Int) = x.nets ∧ (refNet x).1.2.length = x.ds.length) (ly : ((refNet y).1.1.length : Int) = y.nets ∧ (refNet y).1.2.length = y.ds.length) :
    colD (refNet x).1.1 (refNet y).1.1 = -1 ∧ colD (refNet x).1.2 (refNet y).1.2 = -1 := by
  obtain ⟨n, hn⟩ : ∃ n : Nat, x.nets = n := ⟨x.nets.toNat, by have := (nlB_facts hx).1; omega⟩
  have hc := (H.net hx hy).2
  have hpp := H.pp
  rw [hn] at hpp
  constructor
  · exact colD_perm (col_perm hpp (by omega) (by have := H.nets; omega) (fun i hi => hc.1 i (by omega)))
  · exact colD_perm (col_perm H.pq lx.2 (by have := H.len; omega) hc.2)
noncomputable def mayB (x y : Nl) : Bool := decide (x.nets = y.nets) && (decide (x.ds.length = y.ds.length) && (decide (namD x.ps y.ps = -1) && (decide (sizD x.ds y.ds = -1) && (decide (colD (refNet x).1.1 (refNet y).1.1 = -1) && decide (colD (refNet x).1.2 (refNet y).1.2 = -1)))))
theorem namD_no {ps qs : List Pt} (h : namD ps qs = -1) : qs.length = ps.length ∧ ∀ (i : Nat) (a b : Pt), ps[i]? = some a → qs[i]? = some b → b.name = a.name := by
  rcases fstNo_cases (namAt ps qs) (max ps.length qs.length) with ⟨_, h2⟩ | ⟨k, _, e, _⟩
  · have hl : qs.length = ps.length := by
      by_cases q : ps.length < qs.length
      · have := h2 ps.length (by omega)
        unfold namAt at this
        rw [show ps[ps.length]? = none by simp] at this
        simp at this
      · by_cases q2 : qs.length < ps.length
        · have := h2 qs.length (by omega)
          unfold namAt at this
          rw [show qs[qs.length]? = none by simp, List.getElem?_eq_getElem q2] at this
          simp at this
        · omega
    refine ⟨hl, fun i a b ha hb => ?_⟩
    have hi := (List.getElem?_eq_some_iff.1 ha).1
    have := h2 i (by omega)
    unfold namAt at this
    rw [ha, hb] at this
    simp only [beq_iff_eq] at this
    have e : b.name.toList = a.name.toList := this.symm
    exact ba_inj e
  · unfold namD at h; omega
theorem mem_portTo {ps : List Pt} {net : Int} {k j : Nat} : (j : Int) ∈ portTo ps net k ↔ j < k ∧ ∃ p, ps[j]? = some p ∧ p.net = net := by
  unfold portTo
  rw [List.mem_map]
  constructor
  · rintro ⟨i, hi, e⟩
    rw [List.mem_filter, List.mem_range] at hi
    have : i = j := by omega
    subst this
    refine ⟨hi.1, ?_⟩
    cases hp : ps[i]? with
    | none => rw [hp] at hi; simp at hi
    | some p => rw [hp] at hi; exact ⟨p, rfl, by simpa using hi.2⟩
  · rintro ⟨h1, p, hp, e⟩
    exact ⟨j, by rw [List.mem_filter, List.mem_range, hp]; exact ⟨h1, by simpa using e⟩, rfl⟩
theorem nm_rig_snoc {n : Nat} {nets : List Int} {k : Int} (hg : goodN n (nets ++ [k])) {b : Int} (h0 : 0 ≤ b) (h1 : b < n) :
    nmOf (rigTo n (nets ++ [k]) (nets ++ [k]).length) b = if b = k then (nets.length : Int) else nmOf (rigTo n nets nets.length) b := by
  have hg' : goodN n nets := ⟨(List.nodup_append.1 hg.1).1, fun z hz => hg.2 z (List.mem_append.2 (.inl hz))⟩
  have hl : (nets ++ [k]).length = nets.length + 1 := by simp
  have hin : ∀ i : Nat, i < nets.length → nmOf (nets ++ [k]) (i : Int) = nmOf nets (i : Int) := fun i hi => by
    unfold nmOf; rw [Int.toNat_natCast, List.getD_eq_getElem?_getD, List.getD_eq_getElem?_getD, List.getElem?_append_left hi]
  have hk : nmOf (nets ++ [k]) (nets.length : Int) = k := by unfold nmOf; simp [List.getD_eq_getElem?_getD]
  by_cases e : b = k
  · rw [if_pos e, e]
    have := nm_rig hg (i := nets.length) (by omega)
    rw [hk] at this; exact this
  · rw [if_neg e]
    by_cases hb : b ∈ nets
    · obtain ⟨i, hi, rfl⟩ := mem_nm hb
      have a1 := nm_rig hg (i := i) (by omega)
      rw [hin i hi] at a1
      rw [a1, nm_rig hg' hi]
    · rw [nm_rig_no hg' h0 h1 hb]
      exact nm_rig_no hg h0 h1 (fun h => by
        rcases List.mem_append.1 h with h | h
        · exact hb h
        · exact e (by simpa using h))
theorem port_step {ps qs : List Pt} {n : Nat} {nets : List Int} {k : Int} (hp : ∀ p ∈ ps, 0 ≤ p.net ∧ p.net < (n : Int)) (hq : ∀ p ∈ qs, 0 ≤ p.net ∧ p.net < (n : Int)) (hl : qs.length = ps.length) (hg : goodN n (nets ++ [k]))
    (h : allB (prtLR ps qs (lefTo n nets.length) (rigTo n nets nets.length)) ps.length = true) :
    allB (prtLR ps qs (lefTo n (nets ++ [k]).length) (rigTo n (nets ++ [k]) (nets ++ [k]).length)) ps.length = decide (portTo ps (nets.length : Int) ps.length = portTo qs k qs.length) := by
  have hll : (nets ++ [k]).length = nets.length + 1 := by simp
  have at_ : ∀ j, j < ps.length → ∃ a b, ps[j]? = some a ∧ qs[j]? = some b ∧ (0 ≤ a.net ∧ a.net < (n : Int)) ∧ (0 ≤ b.net ∧ b.net < (n : Int)) := fun j hj => by
    have ha : ps[j]? = some ps[j] := List.getElem?_eq_getElem hj
    have hb : qs[j]? = some (qs[j]'(by omega)) := List.getElem?_eq_getElem (by omega)
    exact ⟨_, _, ha, hb, hp _ (List.mem_of_getElem? ha), hq _ (List.mem_of_getElem? hb)⟩
  have old : ∀ j a b, j < ps.length → ps[j]? = some a → qs[j]? = some b → (if a.net < (nets.length : Int) then a.net else -1) = nmOf (rigTo n nets nets.length) b.net := fun j a b hj ha hb => by
    have := h
    simp only [allB, List.all_eq_true, List.mem_range] at this
    have := this j hj
    unfold prtLR at this
    rw [ha, hb] at this
    have h2 := of_decide_eq_true this
    have r := hp _ (List.mem_of_getElem? ha)
    rw [nm_lefTo r.1 r.2] at h2
    exact h2
  have new : ∀ j a b, j < ps.length → ps[j]? = some a → qs[j]? = some b → prtLR ps qs (lefTo n (nets ++ [k]).length) (rigTo n (nets ++ [k]) (nets ++ [k]).length) j = decide ((if a.net < (nets.length : Int) + 1 then a.net else -1) = if b.net = k then (nets.length : Int) else nmOf (rigTo n nets nets.length) b.net) := fun j a b hj ha hb => by
    have r := hp _ (List.mem_of_getElem? ha)
    have s := hq _ (List.mem_of_getElem? hb)
    unfold prtLR
    rw [ha, hb]
    dsimp only
    rw [nm_lefTo r.1 r.2, nm_rig_snoc hg s.1 s.2, hll]
    simp
  have lt : ∀ j a b, j < ps.length → ps[j]? = some a → qs[j]? = some b → nmOf (rigTo n nets nets.length) b.net < (nets.length : Int) := fun j a b hj ha hb => by
    rw [← old j a b hj ha hb]; split <;> omega
  have iff : allB (prtLR ps qs (lefTo n (nets ++ [k]).length) (rigTo n (nets ++ [k]) (nets ++ [k]).length)) ps.length = true ↔ ∀ j a b, j < ps.length → ps[j]? = some a → qs[j]? = some b → (a.net = (nets.length : Int) ↔ b.net = k) := by
    constructor
    · intro hA j a b hj ha hb
      simp only [allB, List.all_eq_true, List.mem_range] at hA
      have h2 := hA j hj
      rw [new j a b hj ha hb] at h2
      have h2 := of_decide_eq_true h2
      have := lt j a b hj ha hb
      have := (hp _ (List.mem_of_getElem? ha)).1
      constructor
      · intro e
        by_cases q : b.net = k
        · exact q
        · rw [if_neg q, if_pos (by omega)] at h2; omega
      · intro e
        rw [if_pos e] at h2
        split at h2 <;> omega
    · intro hA
      refine allB_yes (fun j hj => ?_)
      obtain ⟨a, b, ha, hb, r, s⟩ := at_ j hj
      rw [new j a b hj ha hb]
      have h1 := hA j a b hj ha hb
      have h2 := old j a b hj ha hb
      refine decide_eq_true ?_
      by_cases q : b.net = k
      · rw [if_pos q, if_pos (by have := h1.2 q; omega)]; exact h1.2 q
      · have : ¬ a.net = (nets.length : Int) := fun e => q (h1.1 e)
        rw [if_neg q, ← h2]
        by_cases q2 : a.net < (nets.length : Int)
        · rw [if_pos q2, if_pos (by omega)]
        · rw [if_neg q2, if_neg (by omega)]
  have iff2 : portTo ps (nets.length : Int) ps.length = portTo qs k qs.length ↔ ∀ j a b, j < ps.length → ps[j]? = some a → qs[j]? = some b → (a.net = (nets.length : Int) ↔ b.net = k) := by
    constructor
    · intro e j a b hj ha hb
      have m1 := mem_portTo (ps := ps) (net := (nets.length : Int)) (k := ps.length) (j := j)
      have m2 := mem_portTo (ps := qs) (net := k) (k := qs.length) (j := j)
      rw [e] at m1
      have := m1.symm.trans m2
      rw [ha, hb] at this
      constructor
      · intro q
        obtain ⟨_, p, hp', h'⟩ := this.1 ⟨hj, a, rfl, q⟩
        cases hp'; exact h'
      · intro q
        obtain ⟨_, p, hp', h'⟩ := this.2 ⟨by omega, b, rfl, q⟩
        cases hp'; exact h'
    · intro hA
      unfold portTo
      rw [hl]
      congr 1
      refine List.filter_congr (fun j hj => ?_)
      obtain ⟨a, b, ha, hb, _, _⟩ := at_ j (List.mem_range.1 hj)
      rw [ha, hb]
      exact decide_eq_decide.2 (hA j a b (List.mem_range.1 hj) ha hb)
  rw [Bool.eq_iff_iff, iff, decide_eq_true_iff, iff2]
theorem fit_step {x y : Nl} {nets : List Int} {k : Int} (hx : nlB x = true) (hy : nlB y = true) (hn : y.nets = x.nets) (hpl : y.ps.length = x.ps.length) (hg : goodN x.nets.toNat (nets ++ [k])) (h : fitB x y nets = true) :
    fitB x y (nets ++ [k]) = (decide (portTo x.ps (nets.length : Int) x.ps.length = portTo y.ps k y.ps.length) && fitI x y (nets ++ [k])) := by
  obtain ⟨⟨n0, n1⟩, _, _, hdx, _⟩ := nlB_facts hx
  obtain ⟨_, _, _, hdy, _⟩ := nlB_facts hy
  obtain ⟨n, hnn⟩ : ∃ n : Nat, x.nets = n := ⟨x.nets.toNat, by omega⟩
  have hnt : x.nets.toNat = n := by omega
  rw [hn, hnn] at hdy
  rw [hnn] at hdx
  rw [hnt] at hg
  unfold fitB at h ⊢
  rw [hn, hnt] at h ⊢
  rw [Bool.and_eq_true] at h
  rw [fit_same hdx hdy hg, port_step (fun p hp => by have := pt_in hx hp; omega) (fun p hp => by have := pt_in hy hp; omega) hpl hg h.1]
theorem srTo_next {g : Nat → List (List Int)} {one : Bool} {k : Nat} (h : ¬ (one && decide (0 < (srTo g one k).length)) = true) : srTo g one (k + 1) = srTo g one k ++ g k := by
  show (if _ then _ else _) = _
  rw [if_neg h]
def smlB (x : Nl) : Bool := decide (x.nets ≤ 10) && decide (x.ds.length ≤ 10)
noncomputable def cpS (x y : Nl) (z : List Int) : List Int := grd (x.ds.map fun d => nzD (renD z d)) (y.ds.map nzD) x.ds.length
noncomputable def cmpF (x y : Nl) : Option (List Int) := if mayB x y = true then (srchS x y true).head? else none
noncomputable def cmpR (x y : Nl) : List Int × List Int :=
  if (nlB x && nlB y) = true then (if (smlB x && smlB y) = true then (match cmpF x y with | some z => (z, cpS x y z) | none => ([], [])) else ([], [])) else ([], [])
noncomputable def cmpC (x y : Nl) : Int :=
  if (nlB x && nlB y) = true then (if (smlB x && smlB y) = true then (match cmpF x y with | some _ => 0 | none => 5) else 3) else 1
def preB (x y : Nl) : Bool := decide (x.nets = y.nets) && (decide (x.ds.length = y.ds.length) && decide (namD x.ps y.ps = -1))
theorem pre_facts {x y : Nl} (h : preB x y = true) : y.nets = x.nets ∧ y.ds.length = x.ds.length ∧ y.ps.length = x.ps.length ∧ ∀ (i : Nat) (a b : Pt), x.ps[i]? = some a → y.ps[i]? = some b → b.name = a.name := by
  simp only [preB, Bool.and_eq_true, decide_eq_true_eq] at h
  obtain ⟨h1, h2, h3⟩ := h
  obtain ⟨h4, h5⟩ := namD_no h3
  exact ⟨h1.symm, h2.symm, h4, h5⟩
theorem ref_lens {x : Nl} (hx : nlB x = true) : ((refNet x).1.1.length : Int) = x.nets ∧ (refNet x).1.2.length = x.ds.length := by
  have hr : refNet x = refN x 64 (iniS x) 0 := by unfold refNet; rw [if_pos hx]
  have := coB_lens (coB_refN 64 (iniS x) 0 (coB_ini hx))
  rw [hr]
  exact ⟨this.1, this.2.1⟩
theorem iso_may {x y : Nl} {p q : List Int} (H : NlIso x y p q) (hx : nlB x = true) (hy : nlB y = true) : mayB x y = true := by
  obtain ⟨c1, c2⟩ := colors_of H hx hy (ref_lens hx) (ref_lens hy)
  simp only [mayB, Bool.and_eq_true, decide_eq_true_eq]
  exact ⟨H.nets.symm, H.len.symm, names_of H, sizes_of H hx hy, c1, c2⟩
theorem cmpF_pre {x y : Nl} (hx : nlB x = true) (hy : nlB y = true) : cmpF x y = if preB x y = true then (srchS x y true).head? else none := by
  unfold cmpF
  by_cases hp : preB x y = true
  · rw [if_pos hp]
    obtain ⟨f1, f2, f3, f4⟩ := pre_facts hp
    by_cases hm : mayB x y = true
    · rw [if_pos hm]
    · rw [if_neg hm]
      cases hs : srchS x y true with
      | nil => rfl
      | cons z l =>
        obtain ⟨_, _, _, H⟩ := srchS_iso hx hy f1 f2 f3 f4 (one := true) (z := z) (by rw [hs]; simp)
        exact absurd (iso_may H hx hy) hm
  · rw [if_neg hp, if_neg (fun hm => hp (by
      simp only [mayB, Bool.and_eq_true, decide_eq_true_eq] at hm
      simp only [preB, Bool.and_eq_true, decide_eq_true_eq]
      exact ⟨hm.1, hm.2.1, hm.2.2.1⟩))]
theorem cmpF_iso {x y : Nl} (hx : nlB x = true) (hy : nlB y = true) {z : List Int} (h : cmpF x y = some z) : goodN x.nets.toNat z ∧ z.length = x.nets.toNat ∧ fitB x y z = true ∧ NlIso x y z (cpS x y z) := by
  rw [cmpF_pre hx hy] at h
  split at h
  · rename_i hp
    obtain ⟨f1, f2, f3, f4⟩ := pre_facts hp
    exact srchS_iso hx hy f1 f2 f3 f4 (List.mem_of_mem_head? (by rw [h]; exact rfl))
  · cases h
noncomputable def expR (x y : Nl) : (Int × Int × Int) × Int :=
  if (nlB x && nlB y) = true then
    (if x.nets = y.nets then
      (if x.ds.length = y.ds.length then
        (if namD x.ps y.ps = -1 then
          (if sizD x.ds y.ds = -1 then
            (if colD (refNet x).1.1 (refNet y).1.1 = -1 then
              (if colD (refNet x).1.2 (refNet y).1.2 = -1 then
                (if (smlB x && smlB y) = true then (match cmpF x y with | some _ => ((0, 0, 0), 0) | none => ((7, 0, 0), 0)) else ((0, 0, 0), 3))
              else ((6, colD (refNet x).1.2 (refNet y).1.2, 0), 0))
            else ((5, colD (refNet x).1.1 (refNet y).1.1, 0), 0))
          else ((4, sizD x.ds y.ds, 0), 0))
        else ((3, namD x.ps y.ps, 0), 0))
      else ((2, (x.ds.length : Int), (y.ds.length : Int)), 0))
    else ((1, x.nets, y.nets), 0))
  else ((0, 0, 0), 1)
theorem isoD_eq (z : List Int) (d e : Dv) : isoD z d e = decide (nzD (renD z d) = nzD e) := by
  unfold isoD
  rw [show devcmp d.kind e.kind (normz d.kind (d.pins.map (nmOf z))) (normz e.kind e.pins) d.wd e.wd d.len e.len = dcf (nzD (renD z d)) (nzD e) from rfl]
  exact decide_eq_decide.2 dcf_zero
theorem dev_pick {xs ys : List Dv} {z : List Int} (hp : (xs.map fun d => nzD (renD z d)).Perm (ys.map nzD)) {k : Nat} (hk : k < xs.length) :
    ∃ j : Nat, grd (xs.map fun d => nzD (renD z d)) (ys.map nzD) (k + 1) = grd (xs.map fun d => nzD (renD z d)) (ys.map nzD) k ++ [(j : Int)] ∧ j < ys.length ∧ (grd (xs.map fun d => nzD (renD z d)) (ys.map nzD) k).contains (j : Int) = false ∧
      (∀ d e, xs[k]? = some d → ys[j]? = some e → isoD z d e = true) ∧ ∀ i : Nat, i < j → (grd (xs.map fun d => nzD (renD z d)) (ys.map nzD) k).contains (i : Int) = false → ∀ d e, xs[k]? = some d → ys[i]? = some e → isoD z d e = false := by
  have ok := grd_ok hp k (by rw [List.length_map]; omega)
  obtain ⟨j, h1, h2, h3, h4, h5⟩ := grd_pick (grd_next hp (by rw [List.length_map]; exact hk) ok)
  refine ⟨j, h1, by simpa using h2, by simpa using h3, fun d e hd he => ?_, fun i hi hc d e hd he => ?_⟩
  · rw [isoD_eq]
    rw [List.getElem?_map, List.getElem?_map, hd, he] at h4
    exact decide_eq_true (Option.some.inj h4).symm
  · rw [isoD_eq]
    refine decide_eq_false (fun q => h5 i hi ⟨by simpa using hc, ?_⟩)
    rw [List.getElem?_map, List.getElem?_map, hd, he]
    simp [q]
def HasN (w : World) (g n : Nat) (zs : List Int) : Prop := ∃ cs : Array Value, Blk w g cs 2 ∧ cs.size = n ∧ ICs cs zs
theorem HasN.by {w w' : World} {g n : Nat} {zs : List Int} (hb : Below w.heap.size w w') (h : HasN w g n zs) : HasN w' g n zs := by
  obtain ⟨cs, a, b⟩ := h; exact ⟨cs, Blk.by hb a, b⟩
theorem HasN.sl {w : World} {g n : Nat} {zs : List Int} (h : HasN w g n zs) (hz : zs.length = n) (hn : n ≤ 1000) : IntSl w (.slice (some ⟨g, 0, none⟩) n n) zs := by
  obtain ⟨cs, a, b, c⟩ := h
  have : OwnR w g (g + 1) (.slice (some ⟨g, 0, none⟩) zs.length n) zs := ICs.own c a (by omega) (by unfold maxLen; omega)
  rw [hz] at this
  exact this.sl
theorem HasN.nm {w : World} {g n i : Nat} {zs : List Int} (h : HasN w g n zs) (hz : zs.length = n) (hi : i < n) : w.cell? ⟨g, i, none⟩ = some (.int .i64 (nmOf zs (i : Int))) := by
  obtain ⟨cs, a, b, c⟩ := h
  exact (a.cell i).trans (c i _ (nm_get (by omega)))
theorem nm_map {p r : List Int} {k : Int} (h0 : 0 ≤ k) (h1 : k < p.length) : nmOf (p.map (nmOf r)) k = nmOf r (nmOf p k) := by
  have e := nm_get (zs := p) (i := k.toNat) (by omega)
  rw [Int.toNat_of_nonneg h0] at e
  conv => lhs; unfold nmOf
  rw [List.getD_eq_getElem?_getD, List.getElem?_map, e]; rfl
theorem nm_inv {zs : List Int} {n : Int} (hp : permB zs n = true) {i : Int} (h0 : 0 ≤ i) (h1 : i < n) : nmOf (invS zs) (nmOf zs i) = i := by
  have hl := (permB_iff.1 hp).1
  have e := thru_inv hp
  rw [show thruS zs (invS zs) = zs.map (nmOf (invS zs)) from rfl] at e
  rw [← nm_map h0 (by omega), e]
  unfold nmOf
  rw [List.getD_eq_getElem?_getD, iota_get _ _ (by omega)]
  show ((i.toNat : Nat) : Int) = i
  omega
theorem nm_inv' {zs : List Int} {n : Int} (hp : permB zs n = true) {i : Int} (h0 : 0 ≤ i) (h1 : i < n) : nmOf zs (nmOf (invS zs) i) = i := by
  have hl := (permB_iff.1 hp).1
  have e := inv_thru hp
  rw [show thruS (invS zs) zs = (invS zs).map (nmOf zs) from rfl] at e
  rw [← nm_map h0 (by rw [length_invS]; omega), e]
  unfold nmOf
  rw [List.getD_eq_getElem?_getD, iota_get _ _ (by omega)]
  show ((i.toNat : Nat) : Int) = i
  omega
theorem map_perm {zs ys : List Int} {n : Int} (hp : permB zs n = true) (hq : permB ys n = true) : permB (zs.map (nmOf ys)) n = true := by
  obtain ⟨a, b, c⟩ := permB_iff.1 hp
  refine permB_iff.2 ⟨by rw [List.length_map]; exact a, ?_, fun z hz => ?_⟩
  · have h : ∀ (l : List Int), (∀ z ∈ l, 0 ≤ z ∧ z < n) → l.Nodup → (l.map (nmOf ys)).Nodup := by
      intro l
      induction l with
      | nil => simp
      | cons u l ih =>
        intro hr hn
        rw [List.map_cons, List.nodup_cons]
        rw [List.nodup_cons] at hn
        refine ⟨fun hm => ?_, ih (fun z hz => hr z (by simp [hz])) hn.2⟩
        obtain ⟨v, hv, e⟩ := List.mem_map.1 hm
        have := nmP_inj hq (hr v (by simp [hv])) (hr u (by simp)) e
        subst this
        exact hn.1 hv
    exact h zs c b
  · obtain ⟨u, hu, rfl⟩ := List.mem_map.1 hz
    exact (nmP hq (c u hu).1 (c u hu).2).2
theorem ren_ren {p r : List Int} {d : Dv} (h : ∀ k ∈ d.pins, 0 ≤ k ∧ k < p.length) : renD (p.map (nmOf r)) d = renD r (renD p d) := by
  obtain ⟨kd, ps, wd, ln⟩ := d
  unfold renD
  dsimp only at h ⊢
  rw [List.map_map]
  congr 1
  exact List.map_congr_left (fun k hk => nm_map (h k hk).1 (h k hk).2)
section
variable {x y z : Nl} {p q r s : List Int}
theorem NlIso.trans (H : NlIso x y p q) (K : NlIso y z r s) (hx : nlB x = true) (hy : nlB y = true) (hz : nlB z = true) : NlIso x z (p.map (nmOf r)) (q.map (nmOf s)) := by
  obtain ⟨_, _, _, hdx, _⟩ := nlB_facts hx
  obtain ⟨_, _, _, hdy, _⟩ := nlB_facts hy
  obtain ⟨_, _, _, hdz, _⟩ := nlB_facts hz
  have hpl := (permB_iff.1 H.pp).1
  have hql := (permB_iff.1 H.pq).1
  have k1 := K.pp
  rw [H.nets] at k1
  have k2 := K.pq
  rw [H.len] at k2
  refine ⟨map_perm H.pp k1, map_perm H.pq k2, K.nets.trans H.nets, K.len.trans H.len, fun i d hd => ?_, K.plen.trans H.plen, fun i a ha => ?_⟩
  · have hi := (List.getElem?_eq_some_iff.1 hd).1
    obtain ⟨e, he, h1⟩ := H.dev i d hd
    obtain ⟨hq0, hq1⟩ := (nmP H.pq (i := (i : Int)) (by omega) (by omega)).2
    obtain ⟨f, hf, h2⟩ := K.dev _ e he
    rw [Int.toNat_of_nonneg hq0] at hf
    refine ⟨f, by rw [nm_map (by omega) (by omega)]; exact hf, ?_⟩
    have t1 := dvB_Two (hdx d (List.mem_of_getElem? hd))
    have t2 := dvB_Two (hdy e (List.mem_of_getElem? he))
    have t3 := dvB_Two (hdz f (List.mem_of_getElem? hf))
    refine (nz_eqv t1 t3).1 ?_
    rw [ren_ren (fun k hk => by have := dvB_in (hdx d (List.mem_of_getElem? hd)) hk; omega), ← nz_ren r (t1.ren p), (nz_eqv t1 t2).2 h1, nz_ren r t2, (nz_eqv t2 t3).2 h2]
  · obtain ⟨b, hb, n1, m1⟩ := H.port i a ha
    obtain ⟨c, hc, n2, m2⟩ := K.port i b hb
    have := pt_in hx (List.mem_of_getElem? ha)
    exact ⟨c, hc, n2.trans n1, by rw [m2, m1, nm_map this.1 (by omega)]⟩
theorem NlIso.symm (H : NlIso x y p q) (hx : nlB x = true) (hy : nlB y = true) : NlIso y x (invS p) (invS q) := by
  obtain ⟨_, _, _, hdx, _⟩ := nlB_facts hx
  obtain ⟨_, _, _, hdy, _⟩ := nlB_facts hy
  have hpl := (permB_iff.1 H.pp).1
  have hql := (permB_iff.1 H.pq).1
  have i1 := permB_invS H.pp
  have i2 := permB_invS H.pq
  refine ⟨by rw [H.nets]; exact i1, by rw [H.len]; exact i2, H.nets.symm, H.len.symm, fun j e he => ?_, H.plen.symm, fun j b hb => ?_⟩
  · have hj := (List.getElem?_eq_some_iff.1 he).1
    rw [H.len] at hj
    obtain ⟨h0, h1⟩ := (nmP i2 (i := (j : Int)) (by omega) (by omega)).2
    have hback := nm_inv' H.pq (i := (j : Int)) (by omega) (by omega)
    obtain ⟨i, hi⟩ : ∃ i : Nat, nmOf (invS q) (j : Int) = i := ⟨_, (Int.toNat_of_nonneg h0).symm⟩
    rw [hi] at hback h1
    have hd : x.ds[i]? = some (x.ds[i]'(by omega)) := List.getElem?_eq_getElem (by omega)
    obtain ⟨e', he', hv⟩ := H.dev i _ hd
    rw [hback, Int.toNat_natCast, he] at he'
    obtain rfl := Option.some.inj he'
    refine ⟨_, by rw [hi, Int.toNat_natCast]; exact hd, ?_⟩
    have t1 := dvB_Two (hdx _ (List.mem_of_getElem? hd))
    have t2 := dvB_Two (hdy e (List.mem_of_getElem? he))
    refine (nz_eqv t2 t1).1 ?_
    rw [← nz_ren _ t2, ← (nz_eqv t1 t2).2 hv, nz_ren _ (t1.ren p), ← ren_ren (fun k hk => by have := dvB_in (hdx _ (List.mem_of_getElem? hd)) hk; omega)]
    have : renD (p.map (nmOf (invS p))) (x.ds[i]'(by omega)) = x.ds[i]'(by omega) := by
      have hin : ∀ k ∈ (x.ds[i]'(by omega)).pins, nmOf (p.map (nmOf (invS p))) k = k := fun k hk => by
        have := dvB_in (hdx _ (List.mem_of_getElem? hd)) hk
        rw [nm_map this.1 (by omega), nm_inv H.pp this.1 this.2]
      generalize x.ds[i]'(by omega) = d at hin ⊢
      obtain ⟨kd, ps, wd, ln⟩ := d
      unfold renD
      dsimp only at hin ⊢
      rw [List.map_congr_left (g := id) hin, List.map_id]
    rw [this]
  · have hj := (List.getElem?_eq_some_iff.1 hb).1
    have ha : x.ps[j]? = some (x.ps[j]'(by rw [← H.plen]; exact hj)) := List.getElem?_eq_getElem _
    obtain ⟨b', hb', n1, m1⟩ := H.port j _ ha
    rw [hb] at hb'
    obtain rfl := Option.some.inj hb'
    have := pt_in hx (List.mem_of_getElem? ha)
    exact ⟨_, ha, n1.symm, by rw [m1, nm_inv H.pp this.1 this.2]⟩
end
noncomputable def fstR (x y : Nl) : List Int × List Int := match cmpF x y with | some z => (z, cpS x y z) | none => ([], [])
theorem own_below {a w : World} (h : Below a.heap.size a w) : OwnPr w a.heap.size w.heap.size (.agg #[.slice none 0 0, .slice none 0 0]) ([], []) ∧ Below a.heap.size a w :=
  ⟨⟨_, _, a.heap.size, a.heap.size, a.heap.size, a.heap.size, rfl, .inl ⟨_, _, rfl, rfl⟩, .inl ⟨_, _, rfl, rfl⟩, ⟨Nat.le_refl _, h.size⟩, ⟨Nat.le_refl _, h.size⟩, .inl (Nat.le_refl _)⟩, h⟩
def rowZ (d : Dv) : List Int := [d.kind, d.wd, d.len]
def rowsTo (ds : List Dv) (k : Nat) : List (List Int) := (ds.take k).map rowZ
noncomputable def rowsS (ds : List Dv) : List (List Int) := (szL ds).map rowZ
theorem lcmp_rowZ {a b : Dv} (ha : a.pins = []) (hb : b.pins = []) : lcmp (rowZ a) (rowZ b) = dcf a b := by
  unfold rowZ dcf devcmp or2
  rw [ha, hb]
  simp only [lcmp]
  repeat' split
  all_goals first | rfl | omega | simp_all
theorem szL_pins {ds : List Dv} {a : Dv} (h : a ∈ szL ds) : a.pins = [] := by
  unfold szL at h
  obtain ⟨d, _, rfl⟩ := List.mem_map.1 ((srtD_perm _).mem_iff.1 h)
  rfl
theorem rowsS_perm (ds : List Dv) : (rowsS ds).Perm (ds.map rowZ) := by
  unfold rowsS szL
  have h := (srtD_perm (ds.map szD)).map rowZ
  rw [List.map_map] at h
  exact h
theorem rowsS_pw (ds : List Dv) : (rowsS ds).Pairwise (fun a b => lcmp a b ≤ 0) := by
  unfold rowsS
  rw [List.pairwise_map]
  have h : (szL ds).Pairwise (fun x y => dlt y x = false) := srtD_pairwise _
  refine List.Pairwise.imp_of_mem (fun {a b} ha hb hab => ?_) h
  rw [lcmp_flip, lcmp_rowZ (szL_pins hb) (szL_pins ha)]
  have := of_decide_eq_false hab
  omega
theorem rowsS_of {ds : List Dv} {qs : List (List Int)} (h1 : qs.Perm (ds.map rowZ)) (h2 : qs.Pairwise (fun a b => lcmp a b ≤ 0)) : qs = rowsS ds :=
  List.Perm.eq_of_pairwise (le := fun a b => lcmp a b ≤ 0) (fun a b _ _ hab hba => by
    have := lcmp_flip a b
    exact (lcmp_zero a b).1 (by omega)) h2 (rowsS_pw ds) (h1.trans (rowsS_perm ds).symm)
theorem length_rowsS (ds : List Dv) : (rowsS ds).length = ds.length := by
  have := (rowsS_perm ds).length_eq
  rw [List.length_map] at this; exact this
theorem rowsS_get {ds es : List Dv} (i : Nat) : decide ((rowsS ds)[i]? = (rowsS es)[i]?) = decide ((szL ds)[i]? = (szL es)[i]?) := by
  refine decide_eq_decide.2 ?_
  unfold rowsS
  rw [List.getElem?_map, List.getElem?_map]
  cases h1 : (szL ds)[i]? with
  | none => cases h2 : (szL es)[i]? <;> simp
  | some a =>
    cases h2 : (szL es)[i]? with
    | none => simp
    | some b =>
      have ha := szL_pins (List.mem_of_getElem? h1)
      have hb := szL_pins (List.mem_of_getElem? h2)
      obtain ⟨k, p, w, l⟩ := a
      obtain ⟨k', p', w', l'⟩ := b
      dsimp only at ha hb
      subst ha hb
      simp [rowZ]
theorem sizD_rows (ds es : List Dv) : sizD ds es = fstNo (fun i => decide ((rowsS ds)[i]? = (rowsS es)[i]?)) ds.length := by
  unfold sizD
  congr 1
  funext i
  exact (rowsS_get i).symm
theorem rowsTo_step {ds : List Dv} {k : Nat} {d : Dv} (h : ds[k]? = some d) : rowsTo ds (k + 1) = rowsTo ds k ++ [rowZ d] := by
  unfold rowsTo
  rw [take_snoc_of ds k d h, List.map_append]
  rfl
theorem BldL.prs {w : World} {lo hi g n c : Nat} {ls : List (List Int)} (h : BldL w lo hi (.slice (some ⟨g, 0, none⟩) n c) ls) (hn : ls.length = n) : ∃ (ps : List (Value × List Int)) (cs : Array Value), ps.map (·.2) = ls ∧ Blk w g cs 30 ∧ (∀ (i : Nat) p, ps[i]? = some p → cs[i]? = some p.1) ∧ (∀ p ∈ ps, p.1.oneCell' = true ∧ ∀ w', Off g w w' → IntSl w' p.1 p.2) ∧ n ≤ c ∧ c ≤ maxLen ∧ ps.length = n := by
  subst hn
  obtain ⟨hs, vs, f, ⟨hlen, h1⟩, h2, h3, h4⟩ := h
  rcases h1 with ⟨h1, _⟩ | ⟨g', cap, cur, e1, e2, e3, e4, e5, e6, e7⟩
  · cases h1
  · simp only [Value.slice.injEq, Option.some.injEq, Addr.mk.injEq, and_true] at e1
    obtain ⟨rfl, _, rfl⟩ := e1
    refine ⟨vs.zip ls, cur, by rw [List.map_snd_zip (by omega)], e3, fun i p hp => ?_, fun p hp => ?_, e4, e5, by simp [h2]⟩
    · have hi' : i < (vs.zip ls).length := (List.getElem?_eq_some_iff.1 hp).1
      have hi : i < vs.length ∧ i < ls.length := by simp at hi'; omega
      rw [List.getElem?_eq_getElem hi', List.getElem_zip] at hp
      injection hp with hp
      subst hp
      have h6 : (cur.toList.take (ls.length * 1))[i]? = some vs[i] := by rw [e7]; exact List.getElem?_eq_getElem hi.1
      rw [List.getElem?_take_of_lt (by omega)] at h6
      dsimp only
      have h7 : cur[i]? = some vs[i] := by simpa using h6
      exact h7
    · obtain ⟨i, hi', e⟩ := List.mem_iff_getElem.1 hp
      have hi : i < vs.length ∧ i < ls.length := by simp at hi'; omega
      rw [List.getElem_zip] at e
      subst e
      obtain ⟨a, b, d⟩ := h4 i ls[i] vs[i] (List.getElem?_eq_getElem hi.2) (List.getElem?_eq_getElem hi.1)
      refine ⟨a.sl.one, fun w' ho => OwnR.sl (OwnR.same (lo := f i) (hi := f i + 1) a (fun q h1 h2 => ?_))⟩
      obtain rfl : q = f i := by omega
      exact ho (f i) (by omega) (fun e => d (by rw [e]; rfl))
theorem list_pushLN {ops : Array Oper} {rest : List Oper} {o : Oper} {a : Act} {w : World} {Q : Exit → Act → World → Prop} (hgd : o.guard = none) (s x : Operand)
    (ho : o.op = .call { callee := .builtin .append, args := #[s, x], argTypes := #[75, 75] })
    (lo hi N : Nat) (v : Value) (ls : List (List Int)) (hN : ls.length = N) (hs : a.eval s = v) (hB : BldL w lo hi v ls) (nb : Nat) (d : List Int) (pv : Value) (fb : Nat) (hx : a.eval x = .slice (some ⟨nb, 0, none⟩) 1 1)
    (hnb : Blk w nb #[pv] 30) (hpv : OwnR w fb (fb + 1) pv d) (hlo : lo ≤ hi) (hhi : hi ≤ fb) (hfb : fb < w.heap.size) (hn : N ≤ 1000)
    (hK : ∀ g c' w', BldL w' lo w'.heap.size (.slice (some ⟨g, 0, none⟩) (N + 1) c') (ls ++ [d]) → Within lo hi w w' → wpList Tryz.prog ops Q rest (a.put o.dst (.slice (some ⟨g, 0, none⟩) (N + 1) c')) w') : wpList Tryz.prog ops Q (o :: rest) a w := by
  subst hN
  exact list_pushLG hgd s x ho lo hi v ls hs hB nb d pv fb hx hnb hpv hlo hhi hfb hn (fun g c' w' h1 _ _ h4 => hK g c' w' h1 h4)
set_option maxRecDepth 100000 in
theorem szc_any (s1 s2 : Value) (xs ys : List Int) (w : World) (h : IntSl w s1 xs) (h' : IntSl w s2 ys) :
    Calls Tryz.prog 72 #[s1, s2] w fun e w' => e = .returned (.int .i64 (lcmp xs ys)) ∧ ∃ n, w' = w.drewN n := by
  have HC := Lib.hid (slicesCompare_any s1 s2 xs ys w h h')
  obtain ⟨a, c, rfl⟩ := h.len
  obtain ⟨a', c', rfl⟩ := h'.len
  generalize lcmp xs ys = r at *
  clear h h'
  go_enter Tryz.func72, Tryz.ntmps72
  go_wp2_with fail
  refine HC.out.mono ?_
  rintro e w1 ⟨rfl, n, rfl⟩
  go_wp2
  go_ret
  exact ⟨rfl, n, rfl⟩
set_option maxRecDepth 100000 in
set_option maxHeartbeats 4000000 in
theorem sizesOf_any (x : Nl) (v : Value) (w : World) (h : NlV w v x) (hl : x.ds.length ≤ 24) :
    Calls Tryz.prog 42 #[v] w fun e w' => ∃ g c, e = .returned (.slice (some ⟨g, 0, none⟩) x.ds.length c) ∧ LlSl w' (.slice (some ⟨g, 0, none⟩) x.ds.length c) (rowsS x.ds) ∧ Below w.heap.size w w' := by
  have HLR := Lib.hid (length_rowsS x.ds)
  have HRS := Lib.hid (fun k d (h : x.ds[k]? = some d) => rowsTo_step h)
  have HRL := Lib.hid (show ∀ k, k ≤ x.ds.length → (rowsTo x.ds k).length = k from fun k hk => by unfold rowsTo; rw [List.length_map, List.length_take]; omega)
  have HR0 := Lib.hid (show rowsTo x.ds 0 = [] from rfl)
  have HRA := Lib.hid (show rowsTo x.ds x.ds.length = x.ds.map rowZ from by unfold rowsTo; rw [List.take_length])
  have HRO := Lib.hid (fun qs h1 h2 => @rowsS_of x.ds qs h1 h2)
  obtain ⟨s1, s2, rfl, hd, hp⟩ := h
  obtain ⟨nx, xs, ps⟩ := x
  dsimp only at *
  have HX := Lib.hid hd
  obtain ⟨a1, c1, rfl⟩ := hd.sized
  obtain ⟨a2, c2, rfl⟩ := hp.sized
  obtain ⟨n, hn⟩ : ∃ n, xs.length = n := ⟨_, rfl⟩
  obtain ⟨p, hpl⟩ : ∃ n, ps.length = n := ⟨_, rfl⟩
  rw [hpl]
  rw [hn] at HX hl HLR HRL HRA ⊢
  have HN := Lib.hid hn
  have HSF := Lib.hid (fun blk cap ps w cs hB hc he hn => sortFuncL_any 72 (enters_of Tryz.func72 (by kernel_rfl) rfl) (fun W s1 s2 xs ys h h' => szc_any s1 s2 xs ys W h h') blk cap ps w cs hB hc he hn)
  clear hd hp hn hpl
  have kA0 : Blk ((w.alloc (.cells #[.int .i64 nx, .slice a1 n c1, .slice a2 p c2] 27)).alloc (.cells #[] 30)) w.heap.size #[.int .i64 nx, .slice a1 n c1, .slice a2 p c2] 27 := (Blk.new _ rfl).past _
  have HB0 : Hid (BldL ((w.alloc (.cells #[.int .i64 nx, .slice a1 n c1, .slice a2 p c2] 27)).alloc (.cells #[] 30)) (w.heap.size + 1) (w.heap.size + 2) (.slice (some ⟨w.heap.size + 1, 0, none⟩) 0 0) (rowsTo xs 0)) := Lib.hid (by
    rw [HR0.out]
    exact ⟨by simp, [], fun _ => 0, ⟨rfl, .inr ⟨w.heap.size + 1, 0, #[], rfl, Nat.le_refl _, Blk.new _ (by simp), Nat.le_refl _, by unfold maxLen; omega, rfl, rfl⟩⟩, rfl, (fun g' hg' => by
      have e : w.heap.size + 1 = g' := by injection hg'
      omega), by intro i x s h; simp at h⟩)
  go_enter Tryz.func42, Tryz.ntmps42
  go_wp2
  go_loopw [3, 10] (fun ov iv wr => ∃ (k g c hi : Nat), k ≤ n ∧ ov = .slice (some ⟨g, 0, none⟩) k c ∧ iv = .int .i64 (k : Int) ∧ Hid (BldL wr (w.heap.size + 1) hi (.slice (some ⟨g, 0, none⟩) k c) (rowsTo xs k)) ∧ w.heap.size + 1 ≤ hi ∧ hi ≤ wr.heap.size ∧ Blk wr w.heap.size #[.int .i64 nx, .slice a1 n c1, .slice a2 p c2] 27 ∧ Below w.heap.size w wr) (fun _ iv _ => n - (intOf iv).toNat)
  case atStart => exact ⟨0, w.heap.size + 1, 0, w.heap.size + 2, Nat.zero_le _, rfl, rfl, HB0, by omega, by simp, kA0, blwT⟩
  case round =>
    clear HB0 kA0
    obtain ⟨k, g, c, hi, hk, rfl, rfl, HB, hhi, hhs, kA, hb⟩ := hrel
    by_cases hlt : k < n
    · have i1 : (k : Int) < (n : Int) := by omega
      have i2 : decide (k < n) = true := decide_eq_true hlt
      obtain ⟨d, hx⟩ : ∃ x, xs[k]? = some x := ⟨_, List.getElem?_eq_getElem (by rw [HN.out]; exact hlt)⟩
      have HRS1 := Lib.hid (HRS.out k d hx)
      rcases HX.out with ⟨_, _, _, h2⟩ | ⟨xb, xo, xc, he, _, _, h4⟩
      · rw [h2] at hx; simp at hx
      obtain ⟨rfl, rfl⟩ : a1 = some ⟨xb, xo, none⟩ ∧ c1 = xc := by
        simp only [Value.slice.injEq] at he
        exact ⟨he.1, he.2.2⟩
      obtain ⟨sx, x1, x2, x3, x4, x5⟩ := (h4 k d hx).by hb
      obtain ⟨px, cx, rfl⟩ := x5.len
      generalize d.pins.length = PX at *
      clear x5
      have lx := lt_of_cell x1
      dsimp only at lx
      clear hx he h4
      have hal : Below wr.heap.size wr (((wr.alloc (.cells #[.int .i64 d.kind, .slice px PX cx, .int .i64 d.wd, .int .i64 d.len] 54)).alloc (.cells #[.int .i64 d.kind, .int .i64 d.wd, .int .i64 d.len] 2)).alloc (.cells #[.slice (some ⟨wr.heap.size + 1, 0, none⟩) 3 3] 30)) := (((Below.refl _ wr).alloc (Nat.le_refl _) _).alloc (by simp) _).alloc (by simp; omega) _
      have kR : Blk (((wr.alloc (.cells #[.int .i64 d.kind, .slice px PX cx, .int .i64 d.wd, .int .i64 d.len] 54)).alloc (.cells #[.int .i64 d.kind, .int .i64 d.wd, .int .i64 d.len] 2)).alloc (.cells #[.slice (some ⟨wr.heap.size + 1, 0, none⟩) 3 3] 30)) (wr.heap.size + 1) #[.int .i64 d.kind, .int .i64 d.wd, .int .i64 d.len] 2 := (Blk.new _ (by simp)).past _
      have kS : Blk (((wr.alloc (.cells #[.int .i64 d.kind, .slice px PX cx, .int .i64 d.wd, .int .i64 d.len] 54)).alloc (.cells #[.int .i64 d.kind, .int .i64 d.wd, .int .i64 d.len] 2)).alloc (.cells #[.slice (some ⟨wr.heap.size + 1, 0, none⟩) 3 3] 30)) (wr.heap.size + 2) #[.slice (some ⟨wr.heap.size + 1, 0, none⟩) 3 3] 30 := Blk.new _ (by simp)
      have hOR : OwnR (((wr.alloc (.cells #[.int .i64 d.kind, .slice px PX cx, .int .i64 d.wd, .int .i64 d.len] 54)).alloc (.cells #[.int .i64 d.kind, .int .i64 d.wd, .int .i64 d.len] 2)).alloc (.cells #[.slice (some ⟨wr.heap.size + 1, 0, none⟩) 3 3] 30)) (wr.heap.size + 1) (wr.heap.size + 1 + 1) (.slice (some ⟨wr.heap.size + 1, 0, none⟩) 3 3) (rowZ d) := .inr ⟨wr.heap.size + 1, 3, _, rfl, Nat.le_refl _, Nat.lt_succ_self _, Nat.le_refl _, by unfold maxLen; omega, kR, fun i z hz => by
        unfold rowZ at hz
        rcases i with _ | _ | _ | i
        · simp at hz; subst hz; rfl
        · simp at hz; subst hz; rfl
        · simp at hz; subst hz; rfl
        · simp at hz⟩
      have HOR := Lib.hid hOR
      have HBA := Lib.hid (show BldL (((wr.alloc (.cells #[.int .i64 d.kind, .slice px PX cx, .int .i64 d.wd, .int .i64 d.len] 54)).alloc (.cells #[.int .i64 d.kind, .int .i64 d.wd, .int .i64 d.len] 2)).alloc (.cells #[.slice (some ⟨wr.heap.size + 1, 0, none⟩) 3 3] 30)) (w.heap.size + 1) hi (.slice (some ⟨g, 0, none⟩) k c) (rowsTo xs k) from HB.out.by hal)
      have kAA := Blk.by hal kA
      have hbA := below_on hal hb
      clear hOR kR hal
      go_wp2_with (refine list_pushLN (by rfl) _ _ (by rfl) (w.heap.size + 1) hi k (.slice (some ⟨g, 0, none⟩) k c) (rowsTo xs k) (HRL.out k hk) (by rfl) HBA.out (wr.heap.size + 2) (rowZ d) (.slice (some ⟨wr.heap.size + 1, 0, none⟩) 3 3) (wr.heap.size + 1) (by rfl) kS HOR.out (by omega) (by omega) (by simp) (by omega) ?_; intro g9 c9 w9 hB9 hW9; have HB9 := Lib.hid hB9; have kA9 := hW9.blk kAA (.inl (by omega)); have hb9 := hW9.below hbA (by omega); have hs9 := hW9.size; clear hB9 hW9)
      exact ⟨⟨k + 1, g9, c9, w9.heap.size, by omega, by rfl, by go_num, Lib.hid (by rw [HRS1.out]; exact HB9.out), by (try simp only [World.size_alloc] at hs9); omega, Nat.le_refl _, kA9, hb9⟩, by simp [intOf]; omega⟩
    · obtain rfl : n = k := by omega
      have i1 : ¬ (n : Int) < (n : Int) := by omega
      obtain ⟨ps, cs, hps, hBk, hcs, hone, hnc, hcm, hpn⟩ := HB.out.prs (HRL.out n (Nat.le_refl _))
      rw [HRA.out] at hps
      have hgo : w.heap.size ≤ g := by
        obtain ⟨_, vs, f, _, _, h3, _⟩ := HB.out
        have := h3 g rfl
        omega
      have HPS := Lib.hid hps
      have HON := Lib.hid hone
      have hsf := HSF.out g c ps wr cs hBk hcs hone (by omega)
      rw [hpn] at hsf
      have HSFX := Lib.hid hsf
      clear hsf hps hone hcs hlt
      go_wp2_with fail
      refine HSFX.out.mono ?_
      rintro e w9 ⟨rfl, qs, ds, hq1, hq2, hq3, hq4, hq5, hW⟩
      have hb9 : Below w.heap.size w w9 := hW.below hb (by omega)
      have hrows : qs.map (·.2) = rowsS xs := HRO.out _ (by rw [← HPS.out]; exact hq1.map _) (by rw [List.pairwise_map]; exact hq2)
      have hql : qs.length = n := by rw [hq1.length_eq]; exact hpn
      have hLl : LlSl w9 (.slice (some ⟨g, 0, none⟩) n c) (rowsS xs) := by
        rw [← hrows]
        refine .inr ⟨g, 0, c, by rw [List.length_map, hql], by rw [List.length_map, hql]; exact hnc, hcm, fun i r hr => ?_⟩
        rw [List.getElem?_map] at hr
        obtain ⟨q, hq, rfl⟩ : ∃ q, qs[i]? = some q ∧ q.2 = r := by
          cases h : qs[i]? with
          | none => rw [h] at hr; simp at hr
          | some t => rw [h] at hr; exact ⟨t, rfl, by simpa using hr⟩
        refine ⟨q.1, by rw [Nat.zero_add, hq3.cell]; exact hq5 i q hq, ?_⟩
        exact (HON.out q (hq1.mem_iff.1 (List.mem_of_getElem? hq))).2 w9 (fun k hk hne => hW.block k hk (by omega))
      have HLL := Lib.hid hLl
      clear hq1 hq2 hq3 hq4 hq5 hW hrows hql hLl hBk
      go_wp2
      go_ret
      exact ⟨g, c, rfl, HLL.out, hb9⟩
section
variable {w w' : World} {g n : Nat} {f : Nat → Int}
def CntB (w : World) (g : Nat) (f : Nat → Int) : Prop := ∃ cs : Array Value, Blk w g cs 108 ∧ cs.size = 24 ∧ ∀ i, i < 24 → cs[i]? = some (Value.int .i64 (f i))
theorem CntB.by (hb : Below w.heap.size w w') (h : CntB w g f) : CntB w' g f := by obtain ⟨cs, h1, h2⟩ := h; exact ⟨cs, Blk.by hb h1, h2⟩
theorem CntB.lt (h : CntB w g f) : g < w.heap.size := by obtain ⟨cs, h1, h2⟩ := h; exact h1.lt
theorem CntB.free (h : CntB w g f) : ∀ o, w.frozen? ⟨g, o, none⟩ = false := by obtain ⟨cs, h1, h2⟩ := h; exact h1.free
theorem CntB.at (h : CntB w g f) {i : Nat} (hi : i < 24) : w.cell? ⟨g, i, none⟩ = some (.int .i64 (f i)) := by obtain ⟨cs, h1, h2, h3⟩ := h; rw [h1.cell]; exact h3 i hi
theorem CntB.cong {f' : Nat → Int} (h : CntB w g f) (e : ∀ i, i < 24 → f' i = f i) : CntB w g f' := by obtain ⟨cs, h1, h2, h3⟩ := h; exact ⟨cs, h1, h2, fun i hi => by rw [e i hi]; exact h3 i hi⟩
theorem CntB.set (h : CntB w g f) {j : Nat} {y : Int} {f' : Nat → Int} (hj : j < 24) (hy : f' j = y) (hf : ∀ i, i ≠ j → f' i = f i) : CntB (w.setCell ⟨g, j, none⟩ (.int .i64 y)) g f' := by
  obtain ⟨cs, h1, h2, h3⟩ := h
  refine ⟨_, h1.set j _, by simpa using h2, fun i hi => ?_⟩
  by_cases e : i = j
  · subst e
    rw [Array.getElem?_setIfInBounds_self_of_lt (by omega), hy]
  · rw [Array.getElem?_setIfInBounds_ne (by omega), h3 i hi, hf i e]
theorem list_all_at {l : List Value} {v : Value} (h : ∀ u ∈ l, u = v) (i : Nat) (hi : i < l.length) : l[i]? = some v := by
  rw [List.getElem?_eq_getElem hi, h _ (List.getElem_mem hi)]
theorem cnt_new {w : World} (cs : Array Value) (hs : cs.toList.length = 24) (hz : ∀ u ∈ cs.toList, u = Value.int .i64 0) : CntB (w.alloc (.cells cs 108)) w.heap.size (fun _ => 0) := by
  refine ⟨_, Blk.new _ rfl, by simpa using hs, fun i hi => ?_⟩
  rw [← Array.getElem?_toList]
  exact list_all_at hz i (by omega)
theorem cnt_z24 (w : World) : CntB (w.alloc (.cells #[.int .i64 0, .int .i64 0, .int .i64 0, .int .i64 0, .int .i64 0, .int .i64 0, .int .i64 0, .int .i64 0, .int .i64 0, .int .i64 0, .int .i64 0, .int .i64 0, .int .i64 0, .int .i64 0, .int .i64 0, .int .i64 0, .int .i64 0, .int .i64 0, .int .i64 0, .int .i64 0, .int .i64 0, .int .i64 0, .int .i64 0, .int .i64 0] 108)) w.heap.size (fun _ => 0) := cnt_new #[.int .i64 0, .int .i64 0, .int .i64 0, .int .i64 0, .int .i64 0, .int .i64 0, .int .i64 0, .int .i64 0, .int .i64 0, .int .i64 0, .int .i64 0, .int .i64 0, .int .i64 0, .int .i64 0, .int .i64 0, .int .i64 0, .int .i64 0, .int .i64 0, .int .i64 0, .int .i64 0, .int .i64 0, .int .i64 0, .int .i64 0, .int .i64 0] rfl (by simp)
end
theorem cnt_sl {w : World} {g : Nat} {f : Nat → Int} (h : CntB w g f) : IntSl w (.slice (some ⟨g, 0, none⟩) 24 24) ((List.range 24).map f) := by
  refine .inr ⟨g, 0, 24, by simp, by simp, by unfold maxLen; omega, fun i x hx => ?_⟩
  have hi : i < 24 := by have := (List.getElem?_eq_some_iff.1 hx).1; simpa using this
  rw [List.getElem?_map, List.getElem?_range hi] at hx
  simp only [Option.map_some, Option.some.injEq] at hx
  rw [Nat.zero_add, h.at hi, hx]
theorem fidx_col (xs ys : List Int) : fidx (fun z => z != 0) ((List.range 24).map fun c : Nat => ((xs.count (c : Int) : Nat) : Int) - ((ys.count (c : Int) : Nat) : Int)) = colD xs ys := by
  have hget : ∀ (j : Nat) y, ((List.range 24).map fun c : Nat => ((xs.count (c : Int) : Nat) : Int) - ((ys.count (c : Int) : Nat) : Int))[j]? = some y → j < 24 ∧ y = ((xs.count (j : Int) : Nat) : Int) - ((ys.count (j : Int) : Nat) : Int) := fun j y h => by
    have hj : j < 24 := by have := (List.getElem?_eq_some_iff.1 h).1; simpa using this
    rw [List.getElem?_map, List.getElem?_range hj] at h
    simp only [Option.map_some, Option.some.injEq] at h
    exact ⟨hj, h.symm⟩
  unfold colD
  rcases fstNo_cases (fun c : Nat => decide (xs.count (c : Int) = ys.count (c : Int))) 24 with ⟨h1, h2⟩ | ⟨k, hk, h1, h2, h3⟩
  · rw [h1]
    refine fidx_miss (fun j y hy => ?_)
    obtain ⟨hj, rfl⟩ := hget j y hy
    have := of_decide_eq_true (h2 j hj)
    rw [this]; simp
  · rw [h1]
    refine fidx_hit (k := k) (x := ((xs.count (k : Int) : Nat) : Int) - ((ys.count (k : Int) : Nat) : Int)) (by rw [List.getElem?_map, List.getElem?_range hk]; rfl) ?_ (fun j y hj hy => ?_)
    · have := of_decide_eq_false h2
      simp only [bne_iff_ne]
      omega
    · obtain ⟨hj', rfl⟩ := hget j y hy
      have := of_decide_eq_true (h3 j hj)
      rw [this]; simp
set_option maxRecDepth 100000 in
theorem fcc_any (z : Int) (W : World) : Calls Tryz.prog 74 #[.int .i64 z] W fun e w' => e = .returned (.bool (z != 0)) ∧ w' = W := by
  go_enter Tryz.func74, Tryz.ntmps74
  go_wp2
  go_ret
  exact ⟨rfl, rfl⟩
set_option maxRecDepth 100000 in
set_option maxHeartbeats 4000000 in
theorem firstColor_any (xs ys : List Int) (s1 s2 : Value) (w : World) (h : IntSl w s1 xs) (h' : IntSl w s2 ys) (hl : xs.length ≤ 1000) (hl' : ys.length ≤ 1000) (hx : ∀ z ∈ xs, 0 ≤ z ∧ z < 24) (hy : ∀ z ∈ ys, 0 ≤ z ∧ z < 24) :
    Calls Tryz.prog 44 #[s1, s2] w fun e w' => e = .returned (.int .i64 (colD xs ys)) ∧ Below w.heap.size w w' := by
  rw [← fidx_col]
  have HX := Lib.hid h
  have HY := Lib.hid h'
  have HXR := Lib.hid hx
  have HYR := Lib.hid hy
  have egc : ∀ args w, (callFunc 74 args).run Tryz.prog w = .ok (.enter 74 args) w := enters_of Tryz.func74 (by kernel_rfl) rfl
  have HIX := Lib.hid (fun (zs : List Int) sv w (h : IntSl w sv zs) => indexFuncI_any 74 #[] egc (fun z => z != 0) sv zs w h (fun W z _ _ => by
    show Calls Tryz.prog 74 #[.int .i64 z] W _
    refine (fcc_any z W).mono ?_
    rintro e w' ⟨rfl, rfl⟩
    exact ⟨rfl, Below.refl _ _⟩))
  obtain ⟨a1, c1, rfl⟩ := h.len
  obtain ⟨a2, c2, rfl⟩ := h'.len
  obtain ⟨p, hpl⟩ : ∃ p, xs.length = p := ⟨_, rfl⟩
  obtain ⟨q, hql⟩ : ∃ q, ys.length = q := ⟨_, rfl⟩
  obtain ⟨RR, hRR⟩ : ∃ R, fidx (fun z => z != 0) ((List.range 24).map fun c : Nat => ((xs.count (c : Int) : Nat) : Int) - ((ys.count (c : Int) : Nat) : Int)) = R := ⟨_, rfl⟩
  rw [hRR]
  have HRR := Lib.hid hRR
  rw [hpl] at HX hl ⊢
  rw [hql] at HY hl' ⊢
  have HLP := Lib.hid hpl
  have HLQ := Lib.hid hql
  have HXA := Lib.hid (show xs.take p = xs from by rw [← hpl]; exact List.take_length)
  have HYA := Lib.hid (show ys.take q = ys from by rw [← hql]; exact List.take_length)
  clear h h' hpl hql hx hy hRR egc
  go_enter Tryz.func44, Tryz.ntmps44
  go_upto_region 1 with fail
  go_cut [5] from 10 to 10 (fun pv wx => pv = .pointer (some ⟨w.heap.size, 0, none⟩) ∧ Hid (CntB wx w.heap.size (fun _ => 0)) ∧ Hid (Below w.heap.size w wx))
  case first =>
    have HN := Lib.hid (cnt_z24 w)
    have hg : (w.alloc (.cells #[.int .i64 0, .int .i64 0, .int .i64 0, .int .i64 0, .int .i64 0, .int .i64 0, .int .i64 0, .int .i64 0, .int .i64 0, .int .i64 0, .int .i64 0, .int .i64 0, .int .i64 0, .int .i64 0, .int .i64 0, .int .i64 0, .int .i64 0, .int .i64 0, .int .i64 0, .int .i64 0, .int .i64 0, .int .i64 0, .int .i64 0, .int .i64 0] 108)).heap[w.heap.size]? = some (.cells #[.int .i64 0, .int .i64 0, .int .i64 0, .int .i64 0, .int .i64 0, .int .i64 0, .int .i64 0, .int .i64 0, .int .i64 0, .int .i64 0, .int .i64 0, .int .i64 0, .int .i64 0, .int .i64 0, .int .i64 0, .int .i64 0, .int .i64 0, .int .i64 0, .int .i64 0, .int .i64 0, .int .i64 0, .int .i64 0, .int .i64 0, .int .i64 0] 108 (0, 0)) := Blk.new (cs := #[.int .i64 0, .int .i64 0, .int .i64 0, .int .i64 0, .int .i64 0, .int .i64 0, .int .i64 0, .int .i64 0, .int .i64 0, .int .i64 0, .int .i64 0, .int .i64 0, .int .i64 0, .int .i64 0, .int .i64 0, .int .i64 0, .int .i64 0, .int .i64 0, .int .i64 0, .int .i64 0, .int .i64 0, .int .i64 0, .int .i64 0, .int .i64 0]) (T := 108) _ rfl
    have HG := Lib.hid hg
    clear hg
    refine wp_region_lit (wpList_plain rfl fun K hK => ?_)
    go_simp
    refine hK _ _ ?_
    refine wpList_plain rfl fun K hK => ?_
    go_simp
    refine hK _ _ ?_
    refine wpList_plain rfl fun K hK => ?_
    refine wp_store_row 108 _ _ rfl w.heap.size #[.int .i64 0, .int .i64 0, .int .i64 0, .int .i64 0, .int .i64 0, .int .i64 0, .int .i64 0, .int .i64 0, .int .i64 0, .int .i64 0, .int .i64 0, .int .i64 0, .int .i64 0, .int .i64 0, .int .i64 0, .int .i64 0, .int .i64 0, .int .i64 0, .int .i64 0, .int .i64 0, .int .i64 0, .int .i64 0, .int .i64 0, .int .i64 0] (by rfl) (by rfl) 108 #[.int .i64 0, .int .i64 0, .int .i64 0, .int .i64 0, .int .i64 0, .int .i64 0, .int .i64 0, .int .i64 0, .int .i64 0, .int .i64 0, .int .i64 0, .int .i64 0, .int .i64 0, .int .i64 0, .int .i64 0, .int .i64 0, .int .i64 0, .int .i64 0, .int .i64 0, .int .i64 0, .int .i64 0, .int .i64 0, .int .i64 0, .int .i64 0] HG.out (by kernel_rfl) rfl (by kernel_rfl) ?_
    rw [setRow_self _ _ _ _ _ HG.out]
    refine hK _ _ ?_
    refine wpList_nil ?_
    clear hK
    go_wp2
    go_meet
    exact ⟨rfl, HN, Lib.hid ((Below.refl _ w).alloc (Nat.le_refl _) _)⟩
  case rest =>
  obtain ⟨rfl, HC0, HB0⟩ := hcut
  go_wp2
  go_loopw [7, 13] (fun cv iv wr => ∃ i : Nat, i ≤ p ∧ iv = .int .i64 (i : Int) ∧ Hid (CntB wr w.heap.size (fun c => (((xs.take i).count (c : Int) : Nat) : Int))) ∧ Hid (Below w.heap.size w wr)) (fun _ iv _ => p - (intOf iv).toNat)
  case atStart => exact ⟨0, Nat.zero_le _, rfl, Lib.hid (HC0.out.cong (fun i _ => by simp)), HB0⟩
  case round =>
    clear HC0 HB0
    obtain ⟨i, hi, rfl, HF, HB⟩ := hrel
    by_cases hit : i < p
    · obtain ⟨z, hz⟩ : ∃ z, xs[i]? = some z := ⟨_, List.getElem?_eq_getElem (by rw [HLP.out]; exact hit)⟩
      obtain ⟨z0, z1⟩ := HXR.out z (List.mem_of_getElem? hz)
      obtain ⟨c, rfl⟩ : ∃ c : Nat, z = (c : Int) := ⟨z.toNat, by omega⟩
      have hc : c < 24 := by omega
      have hst := Lib.hid (fun k : Nat => count_take xs i (c : Int) hz (k : Int))
      obtain ⟨pb, po, pc, hep, _, c5⟩ := (HX.out.by HB.out).nm (by rw [HLP.out]; omega)
      obtain ⟨rfl, rfl⟩ : a1 = some ⟨pb, po, none⟩ ∧ c1 = pc := by
        simp only [Value.slice.injEq] at hep
        exact ⟨hep.1, hep.2.2⟩
      have cp := c5 i (by rw [HLP.out]; exact hit)
      have e5 : nmOf xs (i : Int) = (c : Int) := by unfold nmOf; rw [Int.toNat_natCast, List.getD_eq_getElem?_getD, hz]; rfl
      rw [e5] at cp
      have i1 : (i : Int) < (p : Int) := by omega
      have i2 : decide (i < p) = true := decide_eq_true hit
      have c1 : (c : Int) < 24 := z1
      have c0 : decide (c < 24) = true := decide_eq_true hc
      obtain ⟨t, ht⟩ : ∃ t : Int, ((((xs.take i).count (c : Int) : Nat) : Int)) = t := ⟨_, rfl⟩
      have htb : -1000 ≤ t ∧ t ≤ 1000 := by
        have h1 := List.count_le_length (a := (c : Int)) (l := xs.take i)
        have h2 := List.length_take_le i xs
        have h3 := HLP.out
        have h4 := List.count_le_length (a := (c : Int)) (l := xs)
        have h5 := HLP.out
        omega
      have qC := HF.out.at hc
      simp only [ht] at qC
      have lC := HF.out.lt
      have fC := HF.out.free
      have HST := Lib.hid (show CntB (wr.setCell ⟨w.heap.size, c, none⟩ (.int .i64 (t + 1))) w.heap.size (fun k => (((xs.take (i + 1)).count (k : Int) : Nat) : Int)) from
        HF.out.set hc (by have := hst.out c; rw [if_pos rfl] at this; rw [← ht, this]; omega) (fun k hk => by have := hst.out k; rw [if_neg (by omega)] at this; rw [this]; simp))
      have HBN := Lib.hid (show Below w.heap.size w (wr.setCell ⟨w.heap.size, c, none⟩ (.int .i64 (t + 1))) from HB.out.setCell (Nat.le_refl _) _)
      clear c5 hep e5 hz ht hst HF HB z0 z1
      go_wp2
      exact ⟨⟨i + 1, by omega, by go_num, HST, HBN⟩, by simp [intOf]; omega⟩
    · obtain rfl : p = i := by omega
      have i1 : ¬ (p : Int) < (p : Int) := by omega
      rw [HXA.out] at HF
      clear hit
      go_wp2
      go_loopw [9, 25] (fun cv iv wr => ∃ i : Nat, i ≤ q ∧ iv = .int .i64 (i : Int) ∧ Hid (CntB wr w.heap.size (fun c => ((xs.count (c : Int) : Nat) : Int) - (((ys.take i).count (c : Int) : Nat) : Int))) ∧ Hid (Below w.heap.size w wr)) (fun _ iv _ => q - (intOf iv).toNat)
      case atStart => exact ⟨0, Nat.zero_le _, rfl, Lib.hid (HF.out.cong (fun i _ => by simp)), HB⟩
      case round =>
        clear HF HB
        obtain ⟨i, hi, rfl, HF, HB⟩ := hrel
        by_cases hit : i < q
        · obtain ⟨z, hz⟩ : ∃ z, ys[i]? = some z := ⟨_, List.getElem?_eq_getElem (by rw [HLQ.out]; exact hit)⟩
          obtain ⟨z0, z1⟩ := HYR.out z (List.mem_of_getElem? hz)
          obtain ⟨c, rfl⟩ : ∃ c : Nat, z = (c : Int) := ⟨z.toNat, by omega⟩
          have hc : c < 24 := by omega
          have hst := Lib.hid (fun k : Nat => count_take ys i (c : Int) hz (k : Int))
          obtain ⟨pb, po, pc, hep, _, c5⟩ := (HY.out.by HB.out).nm (by rw [HLQ.out]; omega)
          obtain ⟨rfl, rfl⟩ : a2 = some ⟨pb, po, none⟩ ∧ c2 = pc := by
            simp only [Value.slice.injEq] at hep
            exact ⟨hep.1, hep.2.2⟩
          have cp := c5 i (by rw [HLQ.out]; exact hit)
          have e5 : nmOf ys (i : Int) = (c : Int) := by unfold nmOf; rw [Int.toNat_natCast, List.getD_eq_getElem?_getD, hz]; rfl
          rw [e5] at cp
          have i1 : (i : Int) < (q : Int) := by omega
          have i2 : decide (i < q) = true := decide_eq_true hit
          have c1 : (c : Int) < 24 := z1
          have c0 : decide (c < 24) = true := decide_eq_true hc
          obtain ⟨t, ht⟩ : ∃ t : Int, (((xs.count (c : Int) : Nat) : Int) - (((ys.take i).count (c : Int) : Nat) : Int)) = t := ⟨_, rfl⟩
          have htb : -1000 ≤ t ∧ t ≤ 1000 := by
            have h1 := List.count_le_length (a := (c : Int)) (l := ys.take i)
            have h2 := List.length_take_le i ys
            have h3 := HLQ.out
            have h4 := List.count_le_length (a := (c : Int)) (l := xs)
            have h5 := HLP.out
            omega
          have qC := HF.out.at hc
          simp only [ht] at qC
          have lC := HF.out.lt
          have fC := HF.out.free
          have HST := Lib.hid (show CntB (wr.setCell ⟨w.heap.size, c, none⟩ (.int .i64 (t - 1))) w.heap.size (fun k => ((xs.count (k : Int) : Nat) : Int) - (((ys.take (i + 1)).count (k : Int) : Nat) : Int)) from
            HF.out.set hc (by have := hst.out c; rw [if_pos rfl] at this; rw [← ht, this]; omega) (fun k hk => by have := hst.out k; rw [if_neg (by omega)] at this; rw [this]; simp))
          have HBN := Lib.hid (show Below w.heap.size w (wr.setCell ⟨w.heap.size, c, none⟩ (.int .i64 (t - 1))) from HB.out.setCell (Nat.le_refl _) _)
          clear c5 hep e5 hz ht hst HF HB z0 z1
          go_wp2
          exact ⟨⟨i + 1, by omega, by go_num, HST, HBN⟩, by simp [intOf]; omega⟩
        · obtain rfl : q = i := by omega
          have i2 : ¬ (q : Int) < (q : Int) := by omega
          rw [HYA.out] at HF
          have HIW := Lib.hid (HIX.out _ (.slice (some ⟨w.heap.size, 0, none⟩) 24 24) _ (cnt_sl HF.out))
          rw [HRR.out] at HIW
          have lC := HF.out.lt
          clear hit
          go_wp2_with fail
          refine HIW.out.mono ?_
          rintro e w9 ⟨rfl, hb9⟩
          have hb9w := below_on hb9 HB.out
          go_wp2
          go_ret
          exact ⟨rfl, hb9w⟩
theorem refined_n (x : Nl) (n : Nat) (hx : nlB x = true) (hn : x.nets = n) (v : Value) (w : World) (h : NlV w v x) :
    Calls Tryz.prog 39 #[v] w fun e w' => ∃ (a1 : Option Addr) (c1 : Nat) (a2 : Option Addr) (L c2 : Nat) (q : Int), e = .returned (.tuple #[.agg #[.slice a1 n c1, .slice a2 L c2], .int .i64 q]) ∧ OwnR w' w.heap.size w'.heap.size (.slice a1 n c1) (refNet x).1.1 ∧ OwnR w' w.heap.size w'.heap.size (.slice a2 L c2) (refNet x).1.2 ∧ (refNet x).1.2.length = L ∧ Below w.heap.size w w' := by
  have hR : refNet x = refN x 64 (iniS x) 0 := by unfold refNet; rw [if_pos hx]
  have hl : (refNet x).1.1.length = n := by have := (ref_lens hx).1; omega
  refine (refined_any x v w h hx).mono ?_
  rw [← hR]
  rintro e w' ⟨v', rfl, ⟨s1, s2, l1, h1, l2, h2, rfl, hO1, hO2, hi1, hi2, _⟩, hb⟩
  obtain ⟨a1, c1, rfl⟩ := hO1.sl.len
  obtain ⟨a2, c2, rfl⟩ := hO2.sl.len
  rw [hl] at hO1 ⊢
  exact ⟨a1, c1, a2, _, c2, _, rfl, OwnR.wide' hO1 hi1.1 hi1.2, OwnR.wide' hO2 hi2.1 hi2.2, rfl, hb⟩
end Go.Proofs.YtehmiekendkjmaaGreat
