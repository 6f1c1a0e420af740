/- Contracts and plain laws, part 11, for the statement's proof. -/
import Derived.Test.YtifbffianbgeaaaGreatPkAmsLaw10
import Derived.BigQuiet
import Derived.Deep.DeepCutAuto
import Derived.Deep.CutRange
namespace Go.Proofs.YtifbffianbgeaaaGreat
open Go.RowKit
set_option linter.unusedVariables false
set_option linter.unusedSimpArgs false
theorem mem_portTo {ps : List Pt} {net : Int} {k j : Nat} : (j : Int) ∈ portTo ps net k ↔ j < k ∧ ∃ p, ps[j]? = some p ∧ p.net = net := by
  unfold portTo
  rw [List.mem_map]
  constructor
  · rintro ⟨i, hi, e⟩
    rw [List.mem_filter, List.mem_range] at hi
    have : i = j := by omega
    subst this
    refine ⟨hi.1, ?_⟩
    cases hp : ps[i]? with
    | none => rw [hp] at hi; simp at hi
    | some p => rw [hp] at hi; exact ⟨p, rfl, by simpa using hi.2⟩
  · rintro ⟨h1, p, hp, e⟩
    exact ⟨j, by rw [List.mem_filter, List.mem_range, hp]; exact ⟨h1, by simpa using e⟩, rfl⟩
theorem nm_rig_snoc {n : Nat} {nets : List Int} {k : Int} (hg : goodN n (nets ++ [k])) {b : Int} (h0 : 0 ≤ b) (h1 : b < n) :
    nmOf (rigTo n (nets ++ [k]) (nets ++ [k]).length) b = if b = k then (nets.length : Int) else nmOf (rigTo n nets nets.length) b := by
  have hg' : goodN n nets := ⟨(List.nodup_append.1 hg.1).1, fun z hz => hg.2 z (List.mem_append.2 (.inl hz))⟩
  have hl : (nets ++ [k]).length = nets.length + 1 := by simp
  have hin : ∀ i : Nat, i < nets.length → nmOf (nets ++ [k]) (i : Int) = nmOf nets (i : Int) := fun i hi => by
    unfold nmOf; rw [Int.toNat_natCast, List.getD_eq_getElem?_getD, List.getD_eq_getElem?_getD, List.getElem?_append_left hi]
  have hk : nmOf (nets ++ [k]) (nets.length : Int) = k := by unfold nmOf; simp [List.getD_eq_getElem?_getD]
  by_cases e : b = k
  · rw [if_pos e, e]
    have := nm_rig hg (i := nets.length) (by omega)
    rw [hk] at this; exact this
  · rw [if_neg e]
    by_cases hb : b ∈ nets
    · obtain ⟨i, hi, rfl⟩ := mem_nm hb
      have a1 := nm_rig hg (i := i) (by omega)
      rw [hin i hi] at a1
      rw [a1, nm_rig hg' hi]
    · rw [nm_rig_no hg' h0 h1 hb]
      exact nm_rig_no hg h0 h1 (fun h => by
        rcases List.mem_append.1 h with h | h
        · exact hb h
        · exact e (by simpa using h))
theorem port_step {ps qs : List Pt} {n : Nat} {nets : List Int} {k : Int} (hp : ∀ p ∈ ps, 0 ≤ p.net ∧ p.net < (n : Int)) (hq : ∀ p ∈ qs, 0 ≤ p.net ∧ p.net < (n : Int)) (hl : qs.length = ps.length) (hg : goodN n (nets ++ [k]))
    (h : allB (prtLR ps qs (lefTo n nets.length) (rigTo n nets nets.length)) ps.length = true) :
    allB (prtLR ps qs (lefTo n (nets ++ [k]).length) (rigTo n (nets ++ [k]) (nets ++ [k]).length)) ps.length = decide (portTo ps (nets.length : Int) ps.length = portTo qs k qs.length) := by
  have hll : (nets ++ [k]).length = nets.length + 1 := by simp
  have at_ : ∀ j, j < ps.length → ∃ a b, ps[j]? = some a ∧ qs[j]? = some b ∧ (0 ≤ a.net ∧ a.net < (n : Int)) ∧ (0 ≤ b.net ∧ b.net < (n : Int)) := fun j hj => by
    have ha : ps[j]? = some ps[j] := List.getElem?_eq_getElem hj
    have hb : qs[j]? = some (qs[j]'(by omega)) := List.getElem?_eq_getElem (by omega)
    exact ⟨_, _, ha, hb, hp _ (List.mem_of_getElem? ha), hq _ (List.mem_of_getElem? hb)⟩
  have old : ∀ j a b, j < ps.length → ps[j]? = some a → qs[j]? = some b → (if a.net < (nets.length : Int) then a.net else -1) = nmOf (rigTo n nets nets.length) b.net := fun j a b hj ha hb => by
    have := h
    simp only [allB, List.all_eq_true, List.mem_range] at this
    have := this j hj
    unfold prtLR at this
    rw [ha, hb] at this
    have h2 := of_decide_eq_true this
    have r := hp _ (List.mem_of_getElem? ha)
    rw [nm_lefTo r.1 r.2] at h2
    exact h2
  have new : ∀ j a b, j < ps.length → ps[j]? = some a → qs[j]? = some b → prtLR ps qs (lefTo n (nets ++ [k]).length) (rigTo n (nets ++ [k]) (nets ++ [k]).length) j = decide ((if a.net < (nets.length : Int) + 1 then a.net else -1) = if b.net = k then (nets.length : Int) else nmOf (rigTo n nets nets.length) b.net) := fun j a b hj ha hb => by
    have r := hp _ (List.mem_of_getElem? ha)
    have s := hq _ (List.mem_of_getElem? hb)
    unfold prtLR
    rw [ha, hb]
    dsimp only
    rw [nm_lefTo r.1 r.2, nm_rig_snoc hg s.1 s.2, hll]
    simp
  have lt : ∀ j a b, j < ps.length → ps[j]? = some a → qs[j]? = some b → nmOf (rigTo n nets nets.length) b.net < (nets.length : Int) := fun j a b hj ha hb => by
    rw [← old j a b hj ha hb]; split <;> omega
  have iff : allB (prtLR ps qs (lefTo n (nets ++ [k]).length) (rigTo n (nets ++ [k]) (nets ++ [k]).length)) ps.length = true ↔ ∀ j a b, j < ps.length → ps[j]? = some a → qs[j]? = some b → (a.net = (nets.length : Int) ↔ b.net = k) := by
    constructor
    · intro hA j a b hj ha hb
      simp only [allB, List.all_eq_true, List.mem_range] at hA
      have h2 := hA j hj
      rw [new j a b hj ha hb] at h2
      have h2 := of_decide_eq_true h2
      have := lt j a b hj ha hb
      have := (hp _ (List.mem_of_getElem? ha)).1
      constructor
      · intro e
        by_cases q : b.net = k
        · exact q
        · rw [if_neg q, if_pos (by omega)] at h2; omega
      · intro e
        rw [if_pos e] at h2
        split at h2 <;> omega
    · intro hA
      refine allB_yes (fun j hj => ?_)
      obtain ⟨a, b, ha, hb, r, s⟩ := at_ j hj
      rw [new j a b hj ha hb]
      have h1 := hA j a b hj ha hb
      have h2 := old j a b hj ha hb
      refine decide_eq_true ?_
      by_cases q : b.net = k
      · rw [if_pos q, if_pos (by have := h1.2 q; omega)]; exact h1.2 q
      · have : ¬ a.net = (nets.length : Int) := fun e => q (h1.1 e)
        rw [if_neg q, ← h2]
        by_cases q2 : a.net < (nets.length : Int)
        · rw [if_pos q2, if_pos (by omega)]
        · rw [if_neg q2, if_neg (by omega)]
  have iff2 : portTo ps (nets.length : Int) ps.length = portTo qs k qs.length ↔ ∀ j a b, j < ps.length → ps[j]? = some a → qs[j]? = some b → (a.net = (nets.length : Int) ↔ b.net = k) := by
    constructor
    · intro e j a b hj ha hb
      have m1 := mem_portTo (ps := ps) (net := (nets.length : Int)) (k := ps.length) (j := j)
      have m2 := mem_portTo (ps := qs) (net := k) (k := qs.length) (j := j)
      rw [e] at m1
      have := m1.symm.trans m2
      rw [ha, hb] at this
      constructor
      · intro q
        obtain ⟨_, p, hp', h'⟩ := this.1 ⟨hj, a, rfl, q⟩
        cases hp'; exact h'
      · intro q
        obtain ⟨_, p, hp', h'⟩ := this.2 ⟨by omega, b, rfl, q⟩
        cases hp'; exact h'
    · intro hA
      unfold portTo
      rw [hl]
      congr 1
      refine List.filter_congr (fun j hj => ?_)
      obtain ⟨a, b, ha, hb, _, _⟩ := at_ j (List.mem_range.1 hj)
      rw [ha, hb]
      exact decide_eq_decide.2 (hA j a b (List.mem_range.1 hj) ha hb)
  rw [Bool.eq_iff_iff, iff, decide_eq_true_iff, iff2]
theorem fit_step {x y : Nl} {nets : List Int} {k : Int} (hx : nlB x = true) (hy : nlB y = true) (hn : y.nets = x.nets) (hpl : y.ps.length = x.ps.length) (hg : goodN x.nets.toNat (nets ++ [k])) (h : fitB x y nets = true) :
    fitB x y (nets ++ [k]) = (decide (portTo x.ps (nets.length : Int) x.ps.length = portTo y.ps k y.ps.length) && fitI x y (nets ++ [k])) := by
  obtain ⟨⟨n0, n1⟩, _, _, hdx, _⟩ := nlB_facts hx
  obtain ⟨_, _, _, hdy, _⟩ := nlB_facts hy
  obtain ⟨n, hnn⟩ : ∃ n : Nat, x.nets = n := ⟨x.nets.toNat, by omega⟩
  have hnt : x.nets.toNat = n := by omega
  rw [hn, hnn] at hdy
  rw [hnn] at hdx
  rw [hnt] at hg
  unfold fitB at h ⊢
  rw [hn, hnt] at h ⊢
  rw [Bool.and_eq_true] at h
  rw [fit_same hdx hdy hg, port_step (fun p hp => by have := pt_in hx hp; omega) (fun p hp => by have := pt_in hy hp; omega) hpl hg h.1]
theorem srTo_next {g : Nat → List (List Int)} {one : Bool} {k : Nat} (h : ¬ (one && decide (0 < (srTo g one k).length)) = true) : srTo g one (k + 1) = srTo g one k ++ g k := by
  show (if _ then _ else _) = _
  rw [if_neg h]
def preB (x y : Nl) : Bool := decide (x.nets = y.nets) && (decide (x.ds.length = y.ds.length) && decide (namD x.ps y.ps = -1))
theorem ref_lens {x : Nl} (hx : nlB x = true) : ((refNet x).1.1.length : Int) = x.nets ∧ (refNet x).1.2.length = x.ds.length := by
  have hr : refNet x = refN x 64 (iniS x) 0 := by unfold refNet; rw [if_pos hx]
  have := coB_lens (coB_refN 64 (iniS x) 0 (coB_ini hx))
  rw [hr]
  exact ⟨this.1, this.2.1⟩
def HasN (w : World) (g n : Nat) (zs : List Int) : Prop := ∃ cs : Array Value, Blk w g cs 2 ∧ cs.size = n ∧ ICs cs zs
theorem HasN.by {w w' : World} {g n : Nat} {zs : List Int} (hb : Below w.heap.size w w') (h : HasN w g n zs) : HasN w' g n zs := by
  obtain ⟨cs, a, b⟩ := h; exact ⟨cs, Blk.by hb a, b⟩
theorem HasN.sl {w : World} {g n : Nat} {zs : List Int} (h : HasN w g n zs) (hz : zs.length = n) (hn : n ≤ 1000) : IntSl w (.slice (some ⟨g, 0, none⟩) n n) zs := by
  obtain ⟨cs, a, b, c⟩ := h
  have : OwnR w g (g + 1) (.slice (some ⟨g, 0, none⟩) zs.length n) zs := ICs.own c a (by omega) (by unfold maxLen; omega)
  rw [hz] at this
  exact this.sl
theorem HasN.nm {w : World} {g n i : Nat} {zs : List Int} (h : HasN w g n zs) (hz : zs.length = n) (hi : i < n) : w.cell? ⟨g, i, none⟩ = some (.int .i64 (nmOf zs (i : Int))) := by
  obtain ⟨cs, a, b, c⟩ := h
  exact (a.cell i).trans (c i _ (nm_get (by omega)))
theorem nm_map {p r : List Int} {k : Int} (h0 : 0 ≤ k) (h1 : k < p.length) : nmOf (p.map (nmOf r)) k = nmOf r (nmOf p k) := by
  have e := nm_get (zs := p) (i := k.toNat) (by omega)
  rw [Int.toNat_of_nonneg h0] at e
  conv => lhs; unfold nmOf
  rw [List.getD_eq_getElem?_getD, List.getElem?_map, e]; rfl
theorem nm_inv {zs : List Int} {n : Int} (hp : permB zs n = true) {i : Int} (h0 : 0 ≤ i) (h1 : i < n) : nmOf (invS zs) (nmOf zs i) = i := by
  have hl := (permB_iff.1 hp).1
  have e := thru_inv hp
  rw [show thruS zs (invS zs) = zs.map (nmOf (invS zs)) from rfl] at e
  rw [← nm_map h0 (by omega), e]
  unfold nmOf
  rw [List.getD_eq_getElem?_getD, iota_get _ _ (by omega)]
  show ((i.toNat : Nat) : Int) = i
  omega
theorem nm_inv' {zs : List Int} {n : Int} (hp : permB zs n = true) {i : Int} (h0 : 0 ≤ i) (h1 : i < n) : nmOf zs (nmOf (invS zs) i) = i := by
  have hl := (permB_iff.1 hp).1
  have e := inv_thru hp
  rw [show thruS (invS zs) zs = (invS zs).map (nmOf zs) from rfl] at e
  rw [← nm_map h0 (by rw [length_invS]; omega), e]
  unfold nmOf
  rw [List.getD_eq_getElem?_getD, iota_get _ _ (by omega)]
  show ((i.toNat : Nat) : Int) = i
  omega
theorem map_perm {zs ys : List Int} {n : Int} (hp : permB zs n = true) (hq : permB ys n = true) : permB (zs.map (nmOf ys)) n = true := by
  obtain ⟨a, b, c⟩ := permB_iff.1 hp
  refine permB_iff.2 ⟨by rw [List.length_map]; exact a, ?_, fun z hz => ?_⟩
  · have h : ∀ (l : List Int), (∀ z ∈ l, 0 ≤ z ∧ z < n) → l.Nodup → (l.map (nmOf ys)).Nodup := by
      intro l
      induction l with
      | nil => simp
      | cons u l ih =>
        intro hr hn
        rw [List.map_cons, List.nodup_cons]
        rw [List.nodup_cons] at hn
        refine ⟨fun hm => ?_, ih (fun z hz => hr z (by simp [hz])) hn.2⟩
        obtain ⟨v, hv, e⟩ := List.mem_map.1 hm
        have := nmP_inj hq (hr v (by simp [hv])) (hr u (by simp)) e
        subst this
        exact hn.1 hv
    exact h zs c b
  · obtain ⟨u, hu, rfl⟩ := List.mem_map.1 hz
    exact (nmP hq (c u hu).1 (c u hu).2).2
theorem ren_ren {p r : List Int} {d : Dv} (h : ∀ k ∈ d.pins, 0 ≤ k ∧ k < p.length) : renD (p.map (nmOf r)) d = renD r (renD p d) := by
  obtain ⟨kd, ps, wd, ln⟩ := d
  unfold renD
  dsimp only at h ⊢
  rw [List.map_map]
  congr 1
  exact List.map_congr_left (fun k hk => nm_map (h k hk).1 (h k hk).2)
section
variable {x y z : Nl} {p q r s : List Int}
theorem NlIso.trans (H : NlIso x y p q) (K : NlIso y z r s) (hx : nlB x = true) (hy : nlB y = true) (hz : nlB z = true) : NlIso x z (p.map (nmOf r)) (q.map (nmOf s)) := by
  obtain ⟨_, _, _, hdx, _⟩ := nlB_facts hx
  obtain ⟨_, _, _, hdy, _⟩ := nlB_facts hy
  obtain ⟨_, _, _, hdz, _⟩ := nlB_facts hz
  have hpl := (permB_iff.1 H.pp).1
  have hql := (permB_iff.1 H.pq).1
  have k1 := K.pp
  rw [H.nets] at k1
  have k2 := K.pq
  rw [H.len] at k2
  refine ⟨map_perm H.pp k1, map_perm H.pq k2, K.nets.trans H.nets, K.len.trans H.len, fun i d hd => ?_, K.plen.trans H.plen, fun i a ha => ?_⟩
  · have hi := (List.getElem?_eq_some_iff.1 hd).1
    obtain ⟨e, he, h1⟩ := H.dev i d hd
    obtain ⟨hq0, hq1⟩ := (nmP H.pq (i := (i : Int)) (by omega) (by omega)).2
    obtain ⟨f, hf, h2⟩ := K.dev _ e he
    rw [Int.toNat_of_nonneg hq0] at hf
    refine ⟨f, by rw [nm_map (by omega) (by omega)]; exact hf, ?_⟩
    have t1 := dvB_Two (hdx d (List.mem_of_getElem? hd))
    have t2 := dvB_Two (hdy e (List.mem_of_getElem? he))
    have t3 := dvB_Two (hdz f (List.mem_of_getElem? hf))
    refine (nz_eqv t1 t3).1 ?_
    rw [ren_ren (fun k hk => by have := dvB_in (hdx d (List.mem_of_getElem? hd)) hk; omega), ← nz_ren r (t1.ren p), (nz_eqv t1 t2).2 h1, nz_ren r t2, (nz_eqv t2 t3).2 h2]
  · obtain ⟨b, hb, n1, m1⟩ := H.port i a ha
    obtain ⟨c, hc, n2, m2⟩ := K.port i b hb
    have := pt_in hx (List.mem_of_getElem? ha)
    exact ⟨c, hc, n2.trans n1, by rw [m2, m1, nm_map this.1 (by omega)]⟩
theorem NlIso.symm (H : NlIso x y p q) (hx : nlB x = true) (hy : nlB y = true) : NlIso y x (invS p) (invS q) := by
  obtain ⟨_, _, _, hdx, _⟩ := nlB_facts hx
  obtain ⟨_, _, _, hdy, _⟩ := nlB_facts hy
  have hpl := (permB_iff.1 H.pp).1
  have hql := (permB_iff.1 H.pq).1
  have i1 := permB_invS H.pp
  have i2 := permB_invS H.pq
  refine ⟨by rw [H.nets]; exact i1, by rw [H.len]; exact i2, H.nets.symm, H.len.symm, fun j e he => ?_, H.plen.symm, fun j b hb => ?_⟩
  · have hj := (List.getElem?_eq_some_iff.1 he).1
    rw [H.len] at hj
    obtain ⟨h0, h1⟩ := (nmP i2 (i := (j : Int)) (by omega) (by omega)).2
    have hback := nm_inv' H.pq (i := (j : Int)) (by omega) (by omega)
    obtain ⟨i, hi⟩ : ∃ i : Nat, nmOf (invS q) (j : Int) = i := ⟨_, (Int.toNat_of_nonneg h0).symm⟩
    rw [hi] at hback h1
    have hd : x.ds[i]? = some (x.ds[i]'(by omega)) := List.getElem?_eq_getElem (by omega)
    obtain ⟨e', he', hv⟩ := H.dev i _ hd
    rw [hback, Int.toNat_natCast, he] at he'
    obtain rfl := Option.some.inj he'
    refine ⟨_, by rw [hi, Int.toNat_natCast]; exact hd, ?_⟩
    have t1 := dvB_Two (hdx _ (List.mem_of_getElem? hd))
    have t2 := dvB_Two (hdy e (List.mem_of_getElem? he))
    refine (nz_eqv t2 t1).1 ?_
    rw [← nz_ren _ t2, ← (nz_eqv t1 t2).2 hv, nz_ren _ (t1.ren p), ← ren_ren (fun k hk => by have := dvB_in (hdx _ (List.mem_of_getElem? hd)) hk; omega)]
    have : renD (p.map (nmOf (invS p))) (x.ds[i]'(by omega)) = x.ds[i]'(by omega) := by
      have hin : ∀ k ∈ (x.ds[i]'(by omega)).pins, nmOf (p.map (nmOf (invS p))) k = k := fun k hk => by
        have := dvB_in (hdx _ (List.mem_of_getElem? hd)) hk
        rw [nm_map this.1 (by omega), nm_inv H.pp this.1 this.2]
      generalize x.ds[i]'(by omega) = d at hin ⊢
      obtain ⟨kd, ps, wd, ln⟩ := d
      unfold renD
      dsimp only at hin ⊢
      rw [List.map_congr_left (g := id) hin, List.map_id]
    rw [this]
  · have hj := (List.getElem?_eq_some_iff.1 hb).1
    have ha : x.ps[j]? = some (x.ps[j]'(by rw [← H.plen]; exact hj)) := List.getElem?_eq_getElem _
    obtain ⟨b', hb', n1, m1⟩ := H.port j _ ha
    rw [hb] at hb'
    obtain rfl := Option.some.inj hb'
    have := pt_in hx (List.mem_of_getElem? ha)
    exact ⟨_, ha, n1.symm, by rw [m1, nm_inv H.pp this.1 this.2]⟩
theorem NlIso.self (hx : nlB x = true) : NlIso x x (iota x.nets.toNat) (iota x.ds.length) := by
  obtain ⟨⟨n0, n1⟩, _, _, hdx, _⟩ := nlB_facts hx
  have hp : ∀ n : Nat, permB (iota n) (n : Int) = true := fun n => permB_iff.2 ⟨by rw [length_iota], by
    unfold iota
    exact List.Pairwise.map _ (fun a b h e => h (by omega)) List.nodup_range, fun z hz => by
    unfold iota at hz
    obtain ⟨i, hi, rfl⟩ := List.mem_map.1 hz
    rw [List.mem_range] at hi; omega⟩
  have hn : ∀ (n : Nat) (k : Int), 0 ≤ k → k < n → nmOf (iota n) k = k := fun n k h0 h1 => by
    unfold nmOf
    rw [List.getD_eq_getElem?_getD, iota_get _ _ (by omega)]
    show ((k.toNat : Nat) : Int) = k
    omega
  refine ⟨by have := hp x.nets.toNat; rwa [Int.toNat_of_nonneg n0] at this, hp _, rfl, rfl, fun i d hd => ?_, rfl, fun i a ha => ?_⟩
  · have hi := (List.getElem?_eq_some_iff.1 hd).1
    refine ⟨d, by rw [hn _ _ (by omega) (by omega)]; exact hd, rfl, rfl, rfl, .inl ?_⟩
    rw [List.map_congr_left (g := id) (fun k hk => ?_), List.map_id]
    have := dvB_in (hdx d (List.mem_of_getElem? hd)) hk
    exact hn _ k this.1 (by omega)
  · have := pt_in hx (List.mem_of_getElem? ha)
    exact ⟨a, ha, rfl, (hn _ _ this.1 (by omega)).symm⟩
end
noncomputable def autN (x : Nl) : Nat := (srchS x x false).length
theorem aut_mem {x : Nl} (hx : nlB x = true) {p : List Int} : p ∈ srchS x x false ↔ ∃ q, NlIso x x p q := by
  obtain ⟨⟨n0, n1⟩, _⟩ := nlB_facts hx
  constructor
  · intro h
    exact ⟨_, (srchS_iso hx hx rfl rfl rfl (fun i a b ha hb => by rw [ha] at hb; rw [Option.some.inj hb]) h).2.2.2⟩
  · rintro ⟨q, H⟩
    have hpp : permB p ((x.nets.toNat : Nat) : Int) = true := by rw [Int.toNat_of_nonneg n0]; exact H.pp
    obtain ⟨hg, hl⟩ := perm_good hpp
    exact srch_has rfl hg hl (fun m hm => fits_of H hx hx m hm) (fun i hi => cols_of H hx hx i hi) x.nets.toNat 0 (by simp)
theorem aut_le {x y : Nl} {p q : List Int} (H : NlIso x y p q) (hx : nlB x = true) (hy : nlB y = true) : autN x ≤ autN y := by
  have hpl := (permB_iff.1 H.pp).1
  have hS := H.symm hx hy
  have key : ((srchS x x false).map fun f => (invS p).map (nmOf (f.map (nmOf p)))).length ≤ (srchS y y false).length := by
    have sub : ∀ {α : Type} [DecidableEq α] {a b : List α}, a.Nodup → (∀ z ∈ a, z ∈ b) → a.length ≤ b.length := by
      intro α _ a
      induction a with
      | nil => intros; simp
      | cons u a ih =>
        intro b hn h
        have hu := h u (by simp)
        have hn' := List.nodup_cons.1 hn
        have := ih (b := b.erase u) hn'.2 (fun z hz => by
          have : z ≠ u := fun e => hn'.1 (e ▸ hz)
          exact (List.mem_erase_of_ne this).2 (h z (by simp [hz])))
        rw [List.length_erase_of_mem hu] at this
        have hp := List.length_pos_of_mem hu
        rw [List.length_cons]; omega
    refine sub ?_ (fun z hz => ?_)
    · have hin : ∀ f ∈ srchS x x false, permB f x.nets = true := fun f hf => by
        obtain ⟨g, G⟩ := (aut_mem hx).1 hf
        exact G.pp
      have hn : (srchS x x false).Nodup := srch_nodup _ _
      have inj : ∀ f g, permB f x.nets = true → permB g x.nets = true → (invS p).map (nmOf (f.map (nmOf p))) = (invS p).map (nmOf (g.map (nmOf p))) → f = g := by
        intro f g hf hg e
        have lf := (permB_iff.1 hf).1
        have lg := (permB_iff.1 hg).1
        apply List.ext_getElem?
        intro i
        by_cases hi : (i : Int) < x.nets
        · rw [nm_get (zs := f) (by omega), nm_get (zs := g) (by omega)]
          congr 1
          have hi' := (nmP H.pp (i := (i : Int)) (by omega) hi).2
          have e2 := congrArg (fun l => nmOf l (nmOf p (i : Int))) e
          (try dsimp only at e2)
          have hil : nmOf p (i : Int) < ((invS p).length : Int) := by rw [length_invS]; omega
          rw [nm_map hi'.1 hil, nm_map hi'.1 hil, nm_inv H.pp (by omega) hi, nm_map (by omega) (by omega), nm_map (by omega) (by omega)] at e2
          exact nmP_inj H.pp (nmP hf (by omega) hi).2 (nmP hg (by omega) hi).2 e2
        · have a : f[i]? = none := by simp; omega
          have b : g[i]? = none := by simp; omega
          rw [a, b]
      have go : ∀ l : List (List Int), (∀ f ∈ l, permB f x.nets = true) → l.Nodup → (l.map fun f => (invS p).map (nmOf (f.map (nmOf p)))).Nodup := by
        intro l
        induction l with
        | nil => simp
        | cons u l ih =>
          intro hr hn
          rw [List.map_cons, List.nodup_cons]
          rw [List.nodup_cons] at hn
          refine ⟨fun hm => ?_, ih (fun z hz => hr z (by simp [hz])) hn.2⟩
          obtain ⟨v, hv, e⟩ := List.mem_map.1 hm
          have := inj v u (hr v (by simp [hv])) (hr u (by simp)) e
          subst this
          exact hn.1 hv
      exact go _ hin hn
    · obtain ⟨f, hf, rfl⟩ := List.mem_map.1 hz
      obtain ⟨g, G⟩ := (aut_mem hx).1 hf
      exact (aut_mem hy).2 ⟨_, hS.trans (G.trans H hx hx hy) hy hx hy⟩
  rw [List.length_map] at key
  exact key
theorem aut_eq {x y : Nl} {p q : List Int} (H : NlIso x y p q) (hx : nlB x = true) (hy : nlB y = true) : autN x = autN y :=
  Nat.le_antisymm (aut_le H hx hy) (aut_le (H.symm hx hy) hy hx)
theorem aut_pos {x : Nl} (hx : nlB x = true) : 1 ≤ autN x := by
  have := srchS_ne hx hx (NlIso.self hx) false
  unfold autN
  exact List.length_pos_iff.2 this
def wayR : List Dv → Nat
  | [] => 1
  | a :: l => (l.count a + 1) * wayR l
theorem wayR_perm {a b : List Dv} (h : a.Perm b) : wayR a = wayR b := by
  induction h with
  | nil => rfl
  | cons a h ih => show (_ + 1) * _ = (_ + 1) * _; rw [ih, h.count_eq]
  | swap a b l =>
    show ((a :: l).count b + 1) * ((l.count a + 1) * wayR l) = ((b :: l).count a + 1) * ((l.count b + 1) * wayR l)
    by_cases e : a = b
    · subst e; rfl
    · rw [List.count_cons_of_ne e, List.count_cons_of_ne (fun h => e h.symm), ← Nat.mul_assoc, ← Nat.mul_assoc, Nat.mul_comm (l.count b + 1)]
  | trans _ _ i1 i2 => exact i1.trans i2
def wayTo (ds : List Dv) (k : Nat) : Nat := wayR ((ds.map nzD).take k).reverse
theorem wayTo_step (ds : List Dv) (k : Nat) (d : Dv) (h : ds[k]? = some d) : wayTo ds (k + 1) = (((ds.take k).map nzD).count (nzD d) + 1) * wayTo ds k := by
  unfold wayTo
  rw [take_snoc_of (ds.map nzD) k (nzD d) (by rw [List.getElem?_map, h]; rfl), List.reverse_append]
  show ((((ds.map nzD).take k).reverse).count (nzD d) + 1) * wayR (((ds.map nzD).take k).reverse) = _
  rw [List.count_reverse, List.map_take]
theorem way_map {f : Dv → Dv} : ∀ (l : List Dv), (∀ a ∈ l, ∀ b ∈ l, f a = f b → a = b) → wayR (l.map f) = wayR l
  | [], _ => rfl
  | a :: l, h => by
    show ((l.map f).count (f a) + 1) * _ = _
    rw [way_map l (fun u hu v hv => h u (by simp [hu]) v (by simp [hv]))]
    have : (l.map f).count (f a) = l.count a := by
      rw [List.count, List.countP_map, List.count]
      refine List.countP_congr (fun b hb => ?_)
      simp only [Function.comp, beq_iff_eq]
      exact ⟨fun e => h b (by simp [hb]) a (by simp) e, fun e => by rw [e]⟩
    rw [this]; rfl
theorem way_eq {x y : Nl} {p q : List Int} (H : NlIso x y p q) (hx : nlB x = true) (hy : nlB y = true) : wayTo x.ds x.ds.length = wayTo y.ds y.ds.length := by
  obtain ⟨_, _, _, hdx, _⟩ := nlB_facts hx
  have e : ∀ ds : List Dv, wayTo ds ds.length = wayR (ds.map nzD) := fun ds => by
    unfold wayTo
    rw [List.take_of_length_le (by rw [List.length_map]; exact Nat.le_refl _)]
    exact wayR_perm (List.reverse_perm _)
  have hpl := (permB_iff.1 H.pp).1
  rw [e, e, ← wayR_perm (H.perm hx hy)]
  have e2 : x.ds.map (fun d => nzD (renD p d)) = (x.ds.map nzD).map (fun d => nzD (renD p d)) := by
    rw [List.map_map]
    exact List.map_congr_left (fun d hd => (nz_ren p (dvB_Two (hdx d hd))).symm)
  rw [e2]
  refine (way_map _ (fun a ha b hb h => ?_)).symm
  obtain ⟨c, hc, rfl⟩ := List.mem_map.1 ha
  obtain ⟨d, hd, rfl⟩ := List.mem_map.1 hb
  rw [nz_ren p (dvB_Two (hdx c hc)), nz_ren p (dvB_Two (hdx d hd))] at h
  have back : ∀ c ∈ x.ds, nzD (renD (invS p) (nzD (renD p c))) = nzD c := fun c hc => by
    rw [nz_ren _ ((dvB_Two (hdx c hc)).ren p), ← ren_ren (fun k hk => by have := dvB_in (hdx c hc) hk; omega)]
    congr 1
    have hin : ∀ k ∈ c.pins, nmOf (p.map (nmOf (invS p))) k = k := fun k hk => by
      have := dvB_in (hdx c hc) hk
      rw [nm_map this.1 (by omega), nm_inv H.pp this.1 this.2]
    clear hc
    obtain ⟨kd, ps, wd, ln⟩ := c
    unfold renD
    dsimp only at hin ⊢
    rw [List.map_congr_left (g := id) hin, List.map_id]
  rw [← back c hc, ← back d hd, h]
theorem srTo_len {g : Nat → List (List Int)} {one : Bool} {m : Nat} (hg : ∀ k, (g k).length ≤ m) : ∀ n : Nat, (srTo g one n).length ≤ n * m
  | 0 => by simp [srTo]
  | n + 1 => by
    have := srTo_len (one := one) hg n
    have := hg n
    unfold srTo
    split
    · rw [Nat.add_mul]; omega
    · rw [List.length_append, Nat.add_mul]; omega
theorem srch_len {fit : List Int → Bool} {col : Nat → Nat → Bool} {n : Nat} {one : Bool} : ∀ (r : Nat) (nets : List Int), (srch fit col n one r nets).length ≤ n ^ r
  | 0, nets => by simp [srch]
  | r + 1, nets => by
    have := srTo_len (g := fun k => if (col nets.length k && (!nets.contains (k : Int) && fit (nets ++ [(k : Int)]))) = true then srch fit col n one r (nets ++ [(k : Int)]) else []) (one := one) (m := n ^ r) (fun k => by
      (try dsimp only)
      split
      · exact srch_len r _
      · simp) n
    rw [Nat.pow_succ, Nat.mul_comm]
    exact this
theorem wayR_le : ∀ (l : List Dv), l.length ≤ 10 → 1 ≤ wayR l ∧ wayR l ≤ 10 ^ l.length
  | [], _ => by simp [wayR]
  | a :: l, h => by
    rw [List.length_cons] at h ⊢
    obtain ⟨h1, h2⟩ := wayR_le l (by omega)
    have h3 : l.count a ≤ l.length := List.count_le_length
    constructor
    · show 1 ≤ (_ + 1) * _
      exact Nat.le_trans h1 (Nat.le_mul_of_pos_left _ (by omega))
    · show (_ + 1) * _ ≤ _
      rw [Nat.pow_succ, Nat.mul_comm]
      exact Nat.mul_le_mul h2 (by omega)
noncomputable def autR (x : Nl) : Int := if nlB x = true ∧ x.nets ≤ 7 ∧ x.ds.length ≤ 10 then ((autN x * wayTo x.ds x.ds.length : Nat) : Int) else -1
theorem aut_bd {x : Nl} (h : x.nets ≤ 7) (h0 : 0 ≤ x.nets) : autN x ≤ 823543 := by
  unfold autN srchS
  have h1 := srch_len (fit := fitB x x) (col := colB (refNet x).1.1 (refNet x).1.1) (n := x.nets.toNat) (one := false) x.nets.toNat []
  have h2 : x.nets.toNat ^ x.nets.toNat ≤ 7 ^ x.nets.toNat := Nat.pow_le_pow_left (by omega) _
  have h3 : 7 ^ x.nets.toNat ≤ 7 ^ 7 := Nat.pow_le_pow_right (by omega) (by omega)
  have h4 : (7 : Nat) ^ 7 = 823543 := by decide
  omega
theorem way_bd (ds : List Dv) (k : Nat) (h : ds.length ≤ 10) : 1 ≤ wayTo ds k ∧ wayTo ds k ≤ 10000000000 := by
  unfold wayTo
  have hl : ((ds.map nzD).take k).reverse.length ≤ 10 := by
    rw [List.length_reverse, List.length_take, List.length_map]; omega
  obtain ⟨a, b⟩ := wayR_le _ hl
  have h3 : 10 ^ ((ds.map nzD).take k).reverse.length ≤ 10 ^ 10 := Nat.pow_le_pow_right (by omega) hl
  have h4 : (10 : Nat) ^ 10 = 10000000000 := by decide
  exact ⟨a, by omega⟩
theorem nzc_step (ds : List Dv) (j : Nat) (e : Dv) (h : ds[j]? = some e) (t : Dv) : ((ds.take (j + 1)).map nzD).count t = ((ds.take j).map nzD).count t + if nzD e = t then 1 else 0 := by
  rw [take_map_snoc nzD ds j e h, List.count_append, List.count_singleton]
  simp only [beq_iff_eq]
theorem wayR_pos : ∀ l : List Dv, 1 ≤ wayR l
  | [] => Nat.le_refl 1
  | a :: l => by
    have := wayR_pos l
    show 1 ≤ (l.count a + 1) * wayR l
    exact Nat.mul_pos (Nat.succ_pos _) this
theorem ap_is {x : Nl} {z : List Int × List Int} (hx : nlB x = true) (h1 : permB z.1 x.nets = true) (h2 : permB z.2 (x.ds.length : Int) = true) : apR x z = ⟨x.nets, ordD z.2 (x.ds.map (renD z.1)), x.ps.map (renP z.1)⟩ := by
  unfold apR; rw [if_pos hx, if_pos ⟨h1, h2⟩]
theorem aut_ap {x : Nl} {z : List Int × List Int} (hx : nlB x = true) (h1 : permB z.1 x.nets = true) (h2 : permB z.2 (x.ds.length : Int) = true) : autR (apR x z) = autR x := by
  have H := ap_iso hx h1 h2
  have hy := ap_valid hx h1 h2
  rw [← ap_is hx h1 h2] at H hy
  unfold autR
  rw [H.nets, aut_eq H hx hy]
  by_cases h : x.nets ≤ 7 ∧ x.ds.length ≤ 10
  · rw [if_pos ⟨hy, h.1, by rw [H.len]; exact h.2⟩, if_pos ⟨hx, h.1, h.2⟩, way_eq H hx hy]
  · rw [if_neg (fun e => h ⟨e.2.1, by rw [← H.len]; exact e.2.2⟩), if_neg (fun e => h ⟨e.2.1, e.2.2⟩)]
theorem aut_ge {x : Nl} (hx : nlB x = true) (h7 : x.nets ≤ 7) (h10 : x.ds.length ≤ 10) : 1 ≤ autR x := by
  unfold autR
  rw [if_pos ⟨hx, h7, h10⟩]
  have h1 := aut_pos hx
  have h2 : 1 ≤ wayTo x.ds x.ds.length := wayR_pos _
  have h3 : 1 ≤ autN x * wayTo x.ds x.ds.length := Nat.mul_pos h1 h2
  omega
theorem aut_no {x : Nl} (h : ¬ (x.nets ≤ 7 ∧ x.ds.length ≤ 10)) : autR x = -1 := by
  unfold autR
  rw [if_neg (fun e => h ⟨e.2.1, e.2.2⟩)]
set_option maxRecDepth 100000 in
set_option maxHeartbeats 4000000 in
theorem equalFuncD_any (gf : Nat) (lb : Array Value) (eg : ∀ args w, (callFunc gf args).run Tryz.prog w = .ok (.enter gf args) w) (xs ys : List Dv) (s1 s2 : Value) (w : World) (h : DvSl w s1 xs) (h' : DvSl w s2 ys) (hl : xs.length ≤ 1000) (hl' : ys.length ≤ 1000)
    (hc : ∀ (W : World) (x y : Dv) (sx sy : Value), IntSl W sx x.pins → IntSl W sy y.pins → Calls Tryz.prog gf (#[.agg #[.int .i64 x.kind, sx, .int .i64 x.wd, .int .i64 x.len], .agg #[.int .i64 y.kind, sy, .int .i64 y.wd, .int .i64 y.len]] ++ lb) W fun e w' => e = .returned (.bool (decide (x = y))) ∧ Below W.heap.size W w') :
    Calls Tryz.prog 161 #[s1, s2, .func (.func gf) #[] lb] w fun e w' => e = .returned (.bool (decide (xs = ys))) ∧ Below w.heap.size w w' := by
  have HX := Lib.hid h
  have HY := Lib.hid h'
  have HC := Lib.hid hc
  obtain ⟨a1, c1, rfl⟩ := h.sized
  obtain ⟨a2, c2, rfl⟩ := h'.sized
  clear h h' hc
  by_cases hxy : xs.length = ys.length
  · have HEQ := Lib.hid (show (∀ k, k < xs.length → xs[k]? = ys[k]?) → xs = ys from fun h => List.ext_getElem? (fun i => by
      by_cases hi : i < xs.length
      · exact h i hi
      · rw [show xs[i]? = none by simp; omega, show ys[i]? = none by simp; omega]))
    rw [← hxy] at HY ⊢
    have HL := Lib.hid hxy
    obtain ⟨n, hn⟩ : ∃ n, xs.length = n := ⟨_, rfl⟩
    rw [hn] at HX HY HEQ hl ⊢
    have HN := Lib.hid hn
    clear hxy hn hl'
    go_enter Tryz.func161, Tryz.ntmps161
    go_wp2
    go_loopw [17] (fun i wr => ∃ k : Nat, k ≤ n ∧ i = .int .i64 k ∧ Hid (∀ j, j < k → xs[j]? = ys[j]?) ∧ Below w.heap.size w wr) (fun i _ => n - (intOf i).toNat)
    case atStart => exact ⟨0, Nat.zero_le _, rfl, Lib.hid (by intro j h; omega), blwT⟩
    case round =>
      obtain ⟨k, hk, rfl, HI, hb⟩ := hrel
      by_cases hlt : k < n
      · have i1 : (k : Int) < (n : Int) := by omega
        have i2 : decide (k < n) = true := decide_eq_true hlt
        obtain ⟨x, hx⟩ : ∃ x, xs[k]? = some x := ⟨_, List.getElem?_eq_getElem (by rw [HN.out]; exact hlt)⟩
        obtain ⟨y, hy⟩ : ∃ y, ys[k]? = some y := ⟨_, List.getElem?_eq_getElem (by rw [← HL.out, HN.out]; exact hlt)⟩
        rcases HX.out with ⟨_, _, _, h2⟩ | ⟨xb, xo, xc, he, _, _, h4⟩
        · rw [h2] at hx; simp at hx
        obtain ⟨rfl, rfl⟩ : a1 = some ⟨xb, xo, none⟩ ∧ c1 = xc := by
          simp only [Value.slice.injEq] at he
          exact ⟨he.1, he.2.2⟩
        rcases HY.out with ⟨_, _, _, h2⟩ | ⟨yb, yo, yc, he', _, _, h4'⟩
        · rw [h2] at hy; simp at hy
        obtain ⟨rfl, rfl⟩ : a2 = some ⟨yb, yo, none⟩ ∧ c2 = yc := by
          simp only [Value.slice.injEq] at he'
          exact ⟨he'.1, he'.2.2⟩
        obtain ⟨sx, x1, x2, x3, x4, x5⟩ := (h4 k x hx).by hb
        obtain ⟨sy, y1, y2, y3, y4, y5⟩ := (h4' k y hy).by hb
        have ly := lt_of_cell y1
        dsimp only at ly
        have y1' := cell_by' ((Below.refl _ wr).alloc (Nat.le_refl _) (.cells #[.int .i64 x.kind, sx, .int .i64 x.wd, .int .i64 x.len] 62)) y1
        have y2' := cell_by' ((Below.refl _ wr).alloc (Nat.le_refl _) (.cells #[.int .i64 x.kind, sx, .int .i64 x.wd, .int .i64 x.len] 62)) y2
        have y3' := cell_by' ((Below.refl _ wr).alloc (Nat.le_refl _) (.cells #[.int .i64 x.kind, sx, .int .i64 x.wd, .int .i64 x.len] 62)) y3
        have y4' := cell_by' ((Below.refl _ wr).alloc (Nat.le_refl _) (.cells #[.int .i64 x.kind, sx, .int .i64 x.wd, .int .i64 x.len] 62)) y4
        have HXP := Lib.hid x5
        have HYP := Lib.hid y5
        have HXK := Lib.hid hx
        have HYK := Lib.hid hy
        have hC := fun W => HC.out W x y sx sy
        obtain ⟨px, cx, rfl⟩ := x5.len
        obtain ⟨py, cy, rfl⟩ := y5.len
        obtain ⟨R, hR⟩ : ∃ R : Bool, decide (x = y) = R := ⟨_, rfl⟩
        rw [hR] at hC
        have HCC := Lib.hid hC
        have HDC := Lib.hid hR
        clear hC hR hx hy x5 y5 he he' h4 h4'
        cases R with
        | true =>
          have HI2 := Lib.hid (show ∀ j, j < k + 1 → xs[j]? = ys[j]? from fun j hj => by
            by_cases e : j = k
            · subst e; rw [HXK.out, HYK.out, of_decide_eq_true HDC.out]
            · exact HI.out j (by omega))
          go_wp2_with (go_at_fn gf; refine (HCC.out _ (HXP.out.by blwT) (HYP.out.by blwT)).mono ?_; rintro e w1 ⟨rfl, hb1⟩)
          exact ⟨⟨k + 1, by omega, by go_num, HI2, blwT⟩, by simp [intOf]; omega⟩
        | false =>
          have hne : Hid (¬ xs = ys) := Lib.hid (fun e => by
            have h1 := HXK.out
            rw [e, HYK.out] at h1
            exact of_decide_eq_false HDC.out (Option.some.inj h1).symm)
          go_wp2_with (go_at_fn gf; refine (HCC.out _ (HXP.out.by blwT) (HYP.out.by blwT)).mono ?_; rintro e w1 ⟨rfl, hb1⟩)
          go_ret
          exact ⟨ret_bool (decide_eq_false hne.out).symm, blwT⟩
      · obtain rfl : n = k := by omega
        have i1 : ¬ (n : Int) < (n : Int) := by omega
        have hr := Lib.hid (HEQ.out (fun j hj => HI.out j hj))
        go_wp2
        go_ret
        exact ⟨ret_bool (decide_eq_true hr.out).symm, blwT⟩
  · have hne : ¬ xs = ys := fun e => hxy (by rw [e])
    rw [decide_eq_false hne]
    have e1 : ((xs.length : Int) != (ys.length : Int)) = true := by simp; omega
    have e2 : ((xs.length : Int) == (ys.length : Int)) = false := by simp; omega
    clear hxy hne HX HY
    generalize xs.length = n1 at *
    generalize ys.length = n2 at *
    go_enter Tryz.func161, Tryz.ntmps161
    go_wp2
    go_ret
    exact ⟨rfl, blwT⟩
theorem filt_step {α : Type} {p : α → Bool} {xs : List α} {k : Nat} {x : α} (h : xs[k]? = some x) : (xs.take (k + 1)).filter p = (xs.take k).filter p ++ (if p x = true then [x] else []) := by
  rw [take_snoc_of xs k x h, List.filter_append]
  congr 1
  cases hp : p x <;> simp [hp]
def lowB (n : Nat) (d : Dv) : Bool := d.pins.all fun p => decide (p < (n : Int))
def amB (nets : List Int) (d : Dv) : Bool := d.pins.all fun p => nets.contains p
def mpTo (ds : List Dv) (nets : List Int) (k : Nat) : List Dv := ((ds.take k).filter (lowB nets.length)).map fun d => nzD (renD nets d)
def owTo (es : List Dv) (nets : List Int) (k : Nat) : List Dv := (es.take k).filter (amB nets)
theorem mpTo_step {ds : List Dv} (nets : List Int) {k : Nat} {d : Dv} (h : ds[k]? = some d) : mpTo ds nets (k + 1) = mpTo ds nets k ++ (if lowB nets.length d = true then [nzD (renD nets d)] else []) := by
  unfold mpTo
  rw [filt_step h, List.map_append]
  congr 1
  split <;> rfl
theorem owTo_step {es : List Dv} (nets : List Int) {k : Nat} {d : Dv} (h : es[k]? = some d) : owTo es nets (k + 1) = owTo es nets k ++ (if amB nets d = true then [d] else []) := filt_step h
theorem mpTo_len (ds : List Dv) (nets : List Int) (k : Nat) : (mpTo ds nets k).length ≤ k := by
  unfold mpTo
  rw [List.length_map]
  exact Nat.le_trans (List.length_filter_le _ _) (by rw [List.length_take]; omega)
theorem owTo_len (es : List Dv) (nets : List Int) (k : Nat) : (owTo es nets k).length ≤ k := by
  unfold owTo
  exact Nat.le_trans (List.length_filter_le _ _) (by rw [List.length_take]; omega)
theorem fitI_eq (x y : Nl) (nets : List Int) : fitI x y nets = decide (srtD (mpTo x.ds nets x.ds.length) = srtD (owTo (y.ds.map nzD) nets (y.ds.map nzD).length)) := by
  unfold fitI mpTo owTo lowB amB
  rw [List.take_length, List.take_length]
theorem amB_any (nets : List Int) (d : Dv) : d.pins.any (fun p => !nets.contains p) = !amB nets d := by
  unfold amB
  induction d.pins with
  | nil => rfl
  | cons a l ih => rw [List.any_cons, List.all_cons, ih, Bool.not_and]
theorem lowB_max {n : Nat} {d : Dv} {m : Int} (h1 : m ∈ d.pins) (h2 : ∀ z ∈ d.pins, z ≤ m) : lowB n d = decide (m ≤ (n : Int) - 1) := by
  unfold lowB
  rw [Bool.eq_iff_iff, List.all_eq_true, decide_eq_true_iff]
  constructor
  · intro h
    have := h m h1
    simp at this
    omega
  · intro h p hp
    have := h2 p hp
    simp
    omega
theorem UsedB.drop {w : World} {g n k : Nat} {zs : List Int} (h : UsedB w g n (zs ++ [(k : Int)])) (hk : k < n) (hc : zs.contains (k : Int) = false) : UsedB (w.setCell ⟨g, k, none⟩ (.bool false)) g n zs := by
  obtain ⟨cs, a, b, c⟩ := h
  refine ⟨_, a.set k _, by simpa using b, fun j hj => ?_⟩
  by_cases e : j = k
  · subst e
    rw [Array.getElem?_setIfInBounds_self_of_lt (by omega), hc]
  · rw [Array.getElem?_setIfInBounds_ne (by omega), c j hj]
    congr 2
    rw [List.contains_eq_mem, List.contains_eq_mem]
    refine decide_eq_decide.2 ⟨fun h => ?_, fun h => List.mem_append.2 (.inl h)⟩
    rcases List.mem_append.1 h with h | h
    · exact h
    · rw [List.mem_singleton] at h; omega
def stG (x y : Nl) (col : Nat → Nat → Bool) (n : Nat) (one : Bool) (r : Nat) (nets : List Int) (k : Nat) : List (List Int) :=
  if (col nets.length k && (!nets.contains (k : Int) && fitB x y (nets ++ [(k : Int)]))) = true then srch (fitB x y) col n one r (nets ++ [(k : Int)]) else []
set_option maxRecDepth 100000 in
set_option maxHeartbeats 2000000 in
theorem fits1_any (M U q n p B : Nat) (na nb : Int) (A1 A2 B1 B2 C1 C2 D1 D2 DB NV Y PA PB : Value) (nets : List Int) (w : World) (kB : w.cell? ⟨B, 0, none⟩ = some (.pointer (some ⟨M, 0, none⟩))) (kM : w.cell? ⟨M, 12, none⟩ = some (.slice (some ⟨U, 0, none⟩) n n)) (hU : UsedB w U n nets) (hp : p < n) (hn : n ≤ 1000) :
    Calls Tryz.prog 159 #[.int .i64 (p : Int), .pointer (some ⟨B, 0, none⟩)] w fun e w' => e = .returned (.bool (!nets.contains (p : Int))) ∧ w' = w := by
  obtain ⟨cU, fU, lU⟩ := hU.cell hp
  obtain ⟨R, hR⟩ : ∃ R, nets.contains (p : Int) = R := ⟨_, rfl⟩
  rw [hR] at cU ⊢
  have i1 : (p : Int) < (n : Int) := by omega
  have i2 : decide (p < n) = true := decide_eq_true hp
  clear hU hR fU
  go_enter Tryz.func159, Tryz.ntmps159
  go_wp2
  go_ret
  exact ⟨rfl, rfl⟩
set_option maxRecDepth 100000 in
set_option maxHeartbeats 2000000 in
theorem fits2_any (W : World) (x y : Dv) (sx sy : Value) (hx : IntSl W sx x.pins) (hy : IntSl W sy y.pins) :
    Calls Tryz.prog 162 #[.agg #[.int .i64 x.kind, sx, .int .i64 x.wd, .int .i64 x.len], .agg #[.int .i64 y.kind, sy, .int .i64 y.wd, .int .i64 y.len]] W fun e w' => e = .returned (.bool (decide (x = y))) ∧ Below W.heap.size W w' := by
  have HC := Lib.hid (fun W h h' => compareDevices_any x.kind x.wd x.len y.kind y.wd y.len sx sy x.pins y.pins W h h')
  have HX := Lib.hid hx
  have HY := Lib.hid hy
  have HD := Lib.hid (show decide (x = y) = decide (devcmp x.kind y.kind x.pins y.pins x.wd y.wd x.len y.len = 0) from decide_eq_decide.2 dcf_zero.symm)
  generalize devcmp x.kind y.kind x.pins y.pins x.wd y.wd x.len y.len = R at *
  generalize decide (x = y) = D at *
  obtain ⟨kx, xs, wx, ox⟩ := x
  obtain ⟨ky, ys, wy, oy⟩ := y
  dsimp only at *
  obtain ⟨a, c, rfl⟩ := hx.len
  obtain ⟨a', c', rfl⟩ := hy.len
  generalize xs.length = n1 at *
  generalize ys.length = n2 at *
  clear hx hy
  go_enter Tryz.func162, Tryz.ntmps162
  go_wp2_with fail
  refine (HC.out _ (HX.out.by blwT) (HY.out.by blwT)).mono ?_
  rintro e w1 ⟨rfl, hb1⟩
  go_wp2
  go_ret
  exact ⟨ret_bool (by rw [HD.out, Bool.eq_iff_iff]; simp), blwT⟩
theorem Tr.map_push (L : List Tr) (x : Tr) : (L ++ [x]).map (·.1) = L.map (·.1) ++ [x.1] := by simp
set_option maxRecDepth 100000 in
set_option maxHeartbeats 16000000 in
theorem fits_any (x y : Nl) (nets : List Int) (M U q lo hi m : Nat) (na nb : Int) (A1 A2 B1 B2 C1 C2 D1 D2 DB NV Y PA PB : Value) (w : World) (kM : Blk w M #[.int .i64 na, A1, A2, .int .i64 nb, B1, B2, C1, C2, D1, D2, DB, NV, .slice (some ⟨U, 0, none⟩) q q, Y, PA, PB] 127) (hA : DvSl w A1 x.ds) (hDB : OwnDs w lo hi DB (y.ds.map nzD)) (hhi : hi ≤ w.heap.size) (hN : IntSl w NV nets) (hm : nets.length = m) (hU : UsedB w U q nets)
    (hx : ∀ d ∈ x.ds, 2 ≤ d.pins.length ∧ d.pins.length ≤ 3 ∧ ∀ p ∈ d.pins, 0 ≤ p) (hy : ∀ d ∈ y.ds.map nzD, d.pins.length ≤ 3 ∧ ∀ p ∈ d.pins, 0 ≤ p ∧ p < (q : Int)) (hlx : x.ds.length ≤ 10) (hly : y.ds.length ≤ 10) (hmq : m ≤ 24) (hq : q ≤ 24) :
    Calls Tryz.prog 134 #[.pointer (some ⟨M, 0, none⟩)] w fun e w' => e = .returned (.bool (fitI x y nets)) ∧ Below w.heap.size w w' := by
  rw [fitI_eq]
  have hly' : (y.ds.map nzD).length ≤ 10 := by rw [List.length_map]; exact hly
  generalize y.ds.map nzD = es at *
  obtain ⟨nx, ds, ps⟩ := x
  dsimp only at *
  have HA := Lib.hid hA
  have HDB := Lib.hid hDB
  have HN := Lib.hid hN
  have HU := Lib.hid hU
  have HXP := Lib.hid hx
  have HYP := Lib.hid hy
  obtain ⟨a1, c1, rfl⟩ := hA.sized
  obtain ⟨db, dc, rfl⟩ := hDB.sl.sized
  obtain ⟨an, cn, rfl⟩ := hN.len
  obtain ⟨l1, hl1⟩ : ∃ l, ds.length = l := ⟨_, rfl⟩
  obtain ⟨l2, hl2⟩ : ∃ l, es.length = l := ⟨_, rfl⟩
  rw [hm] at kM HN
  rw [hl1] at kM HA hlx ⊢
  rw [hl2] at kM HDB hly' ⊢
  have HL1 := Lib.hid hl1
  have HL2 := Lib.hid hl2
  have HM := Lib.hid hm
  have HMS := Lib.hid (fun k d h => @mpTo_step ds nets k d h)
  have HOS := Lib.hid (fun k d h => @owTo_step es nets k d h)
  have HML := Lib.hid (mpTo_len ds nets)
  have HOL := Lib.hid (owTo_len es nets)
  have HM0 := Lib.hid (show mpTo ds nets 0 = [] from rfl)
  have HO0 := Lib.hid (show owTo es nets 0 = [] from rfl)
  have HMP := Lib.hid (fun (d : Dv) sx w (h : IntSl w sx d.pins) hn a b c => mappedO_any d nets sx (.slice an m cn) w h hn a b c)
  have HMX := Lib.hid (fun sv zs w h a b => max_any sv zs w h a b)
  have HLB := Lib.hid (fun (d : Dv) (z : Int) a b => @lowB_max nets.length d z a b)
  rw [hm] at HLB HMS
  have HAM := Lib.hid (fun d => amB_any nets d)
  have egc : ∀ args w, (callFunc 159 args).run Tryz.prog w = .ok (.enter 159 args) w := enters_of Tryz.func159 (by kernel_rfl) rfl
  have HCF := Lib.hid (fun B (w : World) sv (zs : List Int) (h : IntSl w sv zs) (kB : w.cell? ⟨B, 0, none⟩ = some (.pointer (some ⟨M, 0, none⟩))) (kM : w.cell? ⟨M, 12, none⟩ = some (.slice (some ⟨U, 0, none⟩) q q)) (hU : UsedB w U q nets) (hz : ∀ z ∈ zs, 0 ≤ z ∧ z < (q : Int)) =>
    containsFuncI_any 159 #[.pointer (some ⟨B, 0, none⟩)] egc (fun z => !nets.contains z) sv zs w h (fun W z hb hz' => by
      obtain ⟨z0, z1⟩ := hz z hz'
      obtain ⟨zn, rfl⟩ : ∃ zn : Nat, z = zn := ⟨z.toNat, by omega⟩
      show Calls Tryz.prog 159 #[.int .i64 (zn : Int), .pointer (some ⟨B, 0, none⟩)] W _
      refine (fits1_any M U q q zn B na nb (.slice a1 l1 c1) A2 B1 B2 C1 C2 D1 D2 (.slice db l2 dc) (.slice an m cn) Y PA PB nets W (cell_by' hb kB) (cell_by' hb kM) (hU.by hb) (by omega) (by omega)).mono ?_
      rintro e w' ⟨rfl, rfl⟩
      exact ⟨rfl, Below.refl _ _⟩))
  have HSF := Lib.hid (fun g n c L w h hn => sortFuncD_any 62 #[] (fun _ _ => rfl) dcmp_impl g n c L w h hn)
  have HEF := Lib.hid (fun xs ys s1 s2 w h h' a b => equalFuncD_any 162 #[] (enters_of Tryz.func162 (by kernel_rfl) rfl) xs ys s1 s2 w h h' a b (fun W x y sx sy hx hy => fits2_any W x y sx sy hx hy))
  have hmf : ∀ (fn : Fn) (first cap : Array Value) (w : World), (Instr.makeFunc fn first cap).run Tryz.prog w = .ok (.func fn first cap) w := fun _ _ _ _ => rfl
  have HHI := Lib.hid hhi
  clear hA hDB hN hU hx hy hl1 hl2 hm hly egc hhi
  have kM0 : Blk ((w.alloc (.cells #[.pointer (some ⟨M, 0, none⟩)] 123)).alloc (.cells #[] 62)) M #[.int .i64 na, .slice a1 l1 c1, A2, .int .i64 nb, B1, B2, C1, C2, D1, D2, .slice db l2 dc, .slice an m cn, .slice (some ⟨U, 0, none⟩) q q, Y, PA, PB] 127 := (kM.past _).past _
  have kB0 : Blk ((w.alloc (.cells #[.pointer (some ⟨M, 0, none⟩)] 123)).alloc (.cells #[] 62)) w.heap.size #[.pointer (some ⟨M, 0, none⟩)] 123 := (Blk.new _ rfl).past _
  have kR0 : RB ((w.alloc (.cells #[.pointer (some ⟨M, 0, none⟩)] 123)).alloc (.cells #[] 62)) (w.heap.size + 1) 0 0 [] := RB.lit (Blk.new _ (by simp))
  have hM := kM.lt
  have cM := kM.cell
  go_enter Tryz.func134, Tryz.ntmps134
  go_wp2
  clear cM
  go_loopw [4, 23] (fun ov iv wr => ∃ (k g n c : Nat) (L : List Tr), k ≤ l1 ∧ ov = .slice (some ⟨g, 0, none⟩) n c ∧ iv = .int .i64 (k : Int) ∧ Hid (RB wr g n c L) ∧ n ≤ k ∧ Hid (L.map (·.1) = mpTo ds nets k) ∧ w.heap.size < g ∧ g < wr.heap.size ∧ Blk wr w.heap.size #[.pointer (some ⟨M, 0, none⟩)] 123 ∧ Below w.heap.size w wr) (fun _ iv _ => l1 - (intOf iv).toNat)
  case atStart => exact ⟨0, w.heap.size + 1, 0, 0, [], Nat.zero_le _, rfl, rfl, Lib.hid kR0, Nat.le_refl _, Lib.hid HM0.out.symm, by omega, by simp, kB0, blwT⟩
  case round =>
    clear kM0 kB0 kR0
    obtain ⟨k, g, n, c, L, hk, rfl, rfl, HR, hnk, HL, hg, hgs, kB, hb⟩ := hrel
    have kMr := Blk.by hb kM
    by_cases hlt : k < l1
    · obtain ⟨d, hd⟩ : ∃ d, ds[k]? = some d := ⟨_, List.getElem?_eq_getElem (by rw [HL1.out]; exact hlt)⟩
      have hdp := HXP.out d (List.mem_of_getElem? hd)
      have HST := Lib.hid (HMS.out k d hd)
      rcases HA.out with ⟨_, _, _, h2⟩ | ⟨xb, xo, xc, he, _, _, h4⟩
      · rw [h2] at hd; simp at hd
      obtain ⟨rfl, rfl⟩ : a1 = some ⟨xb, xo, none⟩ ∧ c1 = xc := by
        simp only [Value.slice.injEq] at he
        exact ⟨he.1, he.2.2⟩
      obtain ⟨sx, x1, x2, x3, x4, x5⟩ := (h4 k d hd).by hb
      obtain ⟨px, cx, rfl⟩ := x5.len
      have HDP := Lib.hid hdp
      have HX5 := Lib.hid x5
      have HLBD := Lib.hid (fun z => HLB.out d z)
      obtain ⟨kd, pins, wd, ln⟩ := d
      dsimp only at *
      obtain ⟨P, hP⟩ : ∃ P, pins.length = P := ⟨_, rfl⟩
      rw [hP] at x2 HX5
      have HPL := Lib.hid hP
      have i1 : (k : Int) < (l1 : Int) := by omega
      have i2 : decide (k < l1) = true := decide_eq_true hlt
      have lx := lt_of_cell x1
      dsimp only at lx
      have cB := kB.cell
      have lB := kB.lt
      have cMr := kMr.cell
      have lMr := kMr.lt
      clear hd he h4 x5 hP hdp
      have hl3 : P ≤ 3 := by have := HDP.out.2.1; rw [HPL.out] at this; exact this
      go_wp2_with fail
      refine (HMX.out _ _ _ (HX5.out.by blwT) (fun e => by have h := HPL.out; have h' := HDP.out.1; rw [e] at h'; simp at h') (by rw [HPL.out]; omega)).mono ?_
      rintro e w1 ⟨mx, rfl, hm1, hm2, rfl⟩
      have HB1 := Lib.hid (HLBD.out mx hm1 hm2)
      have HLW := Lib.hid (show mx ≤ (m : Int) - 1 → ∀ z ∈ pins, 0 ≤ z ∧ z < (m : Int) from fun h z hz => by
        have h1 := hm2 z hz
        have h2 := HDP.out.2.2 z hz
        exact ⟨h2, by omega⟩)
      obtain ⟨wE, hwE⟩ : ∃ z : World, z = wr.alloc (.cells #[.int .i64 kd, .slice px P cx, .int .i64 wd, .int .i64 ln] 62) := ⟨_, rfl⟩
      have kD : Blk wE wr.heap.size #[.int .i64 kd, .slice px P cx, .int .i64 wd, .int .i64 ln] 62 := by rw [hwE]; exact Blk.new _ rfl
      have hbE : Below wr.heap.size wr wE := by rw [hwE]; exact (Below.refl _ wr).alloc (Nat.le_refl _) _
      have hsE : wr.heap.size < wE.heap.size := by rw [hwE]; simp
      (try rw [← hwE])
      have kBE := Blk.by hbE kB
      have kME := Blk.by hbE kMr
      have HRE := Lib.hid (HR.out.by hbE)
      have hbEw := below_on hbE hb
      clear hwE hm1 hm2 x1 x2 x3 x4 lx cB lB cMr lMr HMX
      by_cases hmx : mx ≤ (m : Int) - 1
      · have HB2 := HB1.out
        rw [decide_eq_true hmx] at HB2
        rw [HB2, if_pos rfl] at HST
        have HLW2 := Lib.hid (HLW.out hmx)
        clear HB2 HLW HLBD HB1
        go_upto_region 7 with fail
        have hS : (fun w' : World => Blk w' wr.heap.size #[.int .i64 kd, .slice px P cx, .int .i64 wd, .int .i64 ln] 62 ∧ Blk w' w.heap.size #[.pointer (some ⟨M, 0, none⟩)] 123 ∧ Blk w' M #[.int .i64 na, .slice (some ⟨xb, xo, none⟩) l1 c1, A2, .int .i64 nb, B1, B2, C1, C2, D1, D2, .slice db l2 dc, .slice an m cn, .slice (some ⟨U, 0, none⟩) q q, Y, PA, PB] 127) { wE with drawn := wE.drawn + 1 } := ⟨kD.drew, kBE.drew, kME.drew⟩
        refine wp_region_any (by kernel_rfl) (wpAny_of_E (S := fun w' : World => Blk w' wr.heap.size #[.int .i64 kd, .slice px P cx, .int .i64 wd, .int .i64 ln] 62 ∧ Blk w' w.heap.size #[.pointer (some ⟨M, 0, none⟩)] 123 ∧ Blk w' M #[.int .i64 na, .slice (some ⟨xb, xo, none⟩) l1 c1, A2, .int .i64 nb, B1, B2, C1, C2, D1, D2, .slice db l2 dc, .slice an m cn, .slice (some ⟨U, 0, none⟩) q q, Y, PA, PB] 127) (l := 9) _ _ _ _ ?_)
        change wpAnyE _ _ _ _ _ _ _ _ _ wE.drew
        refine wpAnyE_takeL (i := 0) (v := ?_) rfl (by kernel_rfl) (fun _ _ _ h => h) (Or.inl ⟨by rfl, ?_⟩) hS ?_
        rotate_left
        · intro w hSw; (try dsimp only at hSw); have qD := hSw.1.cell; have qB := hSw.2.1.cell; have qM := hSw.2.2.cell; have lD := hSw.1.lt; have lB := hSw.2.1.lt; have lM := hSw.2.2.lt; clear hSw; go_simp; (try with_reducible rfl)
        try simp only [Act.put, List.setIfInBounds_toArray, List.set_cons_zero, List.set_cons_succ]
        refine wpAnyE_takeL (i := 1) (v := ?_) rfl (by kernel_rfl) (fun _ _ _ h => h) (Or.inl ⟨by rfl, ?_⟩) hS ?_
        rotate_left
        · intro w hSw; (try dsimp only at hSw); have qD := hSw.1.cell; have qB := hSw.2.1.cell; have qM := hSw.2.2.cell; have lD := hSw.1.lt; have lB := hSw.2.1.lt; have lM := hSw.2.2.lt; clear hSw; go_simp; (try with_reducible rfl)
        try simp only [Act.put, List.setIfInBounds_toArray, List.set_cons_zero, List.set_cons_succ]
        refine wpAnyE_takeL (i := 2) (v := ?_) rfl (by kernel_rfl) (fun _ _ _ h => h) (Or.inl ⟨by rfl, ?_⟩) hS ?_
        rotate_left
        · intro w hSw; (try dsimp only at hSw); have qD := hSw.1.cell; have qB := hSw.2.1.cell; have qM := hSw.2.2.cell; have lD := hSw.1.lt; have lB := hSw.2.1.lt; have lM := hSw.2.2.lt; clear hSw; go_simp; (try with_reducible rfl)
        try simp only [Act.put, List.setIfInBounds_toArray, List.set_cons_zero, List.set_cons_succ]
        refine wpAnyE_takeL (i := 3) (v := ?_) rfl (by kernel_rfl) (fun _ _ _ h => h) (Or.inl ⟨by rfl, ?_⟩) hS ?_
        rotate_left
        · intro w hSw; (try dsimp only at hSw); have qD := hSw.1.cell; have qB := hSw.2.1.cell; have qM := hSw.2.2.cell; have lD := hSw.1.lt; have lB := hSw.2.1.lt; have lM := hSw.2.2.lt; clear hSw; go_simp; (try with_reducible rfl)
        try simp only [Act.put, List.setIfInBounds_toArray, List.set_cons_zero, List.set_cons_succ]
        refine wpAnyE_takeL (i := 4) (v := ?_) rfl (by kernel_rfl) (fun _ _ _ h => h) (Or.inl ⟨by rfl, ?_⟩) hS ?_
        rotate_left
        · intro w hSw; (try dsimp only at hSw); have qD := hSw.1.cell; have qB := hSw.2.1.cell; have qM := hSw.2.2.cell; have lD := hSw.1.lt; have lB := hSw.2.1.lt; have lM := hSw.2.2.lt; clear hSw; go_simp; (try with_reducible rfl)
        try simp only [Act.put, List.setIfInBounds_toArray, List.set_cons_zero, List.set_cons_succ]
        refine wpAnyE_takeL (i := 5) (v := ?_) rfl (by kernel_rfl) (fun _ _ _ h => h) (Or.inl ⟨by rfl, ?_⟩) hS ?_
        rotate_left
        · intro w hSw; (try dsimp only at hSw); have qD := hSw.1.cell; have qB := hSw.2.1.cell; have qM := hSw.2.2.cell; have lD := hSw.1.lt; have lB := hSw.2.1.lt; have lM := hSw.2.2.lt; clear hSw; go_simp; (try with_reducible rfl)
        try simp only [Act.put, List.setIfInBounds_toArray, List.set_cons_zero, List.set_cons_succ]
        refine wpAnyE_oneL (k := 6) (by kernel_rfl) rfl (fun K hK => ?_)
        go_simp
        go_at_call 67
        refine (HMP.out ⟨kd, pins, wd, ln⟩ (.slice px P cx) wE.drew ((HX5.out.by hbE).by (below_of_drewN wE 1)) ((HN.out.by hbEw).by (below_of_drewN wE 1)) (by dsimp only; rw [HPL.out]; exact hl3) (fun e => by have h' := HDP.out.1; dsimp only at e; rw [e] at h'; simp at h') (by dsimp only; rw [HM.out]; exact HLW2.out)).mono ?_
        rintro e w3 ⟨v3, rfl, hO3, hb3⟩
        have hb3E : Below wE.heap.size wE w3 := below_on hb3 (below_of_drewN wE 1)
        have kD3 := Blk.by hb3E kD
        have kB3 := Blk.by hb3E kBE
        have kM3 := Blk.by hb3E kME
        have hs3 := hb3E.size
        obtain ⟨f, hf1, hf2, hOf⟩ := OwnI.pin hO3 (fun e => by have h' := congrArg List.length e; rw [length_normz, List.length_map] at h'; dsimp only at h'; have := HDP.out.1; rw [HPL.out] at this h'; simp at h'; omega)
        have hf3 : wE.heap.size ≤ f := hf1
        dsimp only at hOf ⊢
        have HOF := Lib.hid hOf
        clear hS hO3 hOf hb3 hf1
        refine hK.out _ _ (fun _ => ⟨kD3, kB3, kM3⟩) ?_
        try simp only [Act.put, List.setIfInBounds_toArray, List.set_cons_zero, List.set_cons_succ]
        refine wpAnyE_oneL (k := 7) (by kernel_rfl) rfl (fun K hK => ?_)
        go_simp
        have kZ4 : Blk (w3.alloc (.cells #[.int .i64 kd, v3, .int .i64 wd, .int .i64 ln] 62)) w3.heap.size #[.int .i64 kd, v3, .int .i64 wd, .int .i64 ln] 62 := Blk.new _ rfl
        have hb4 : Below w3.heap.size w3 (w3.alloc (.cells #[.int .i64 kd, v3, .int .i64 wd, .int .i64 ln] 62)) := (Below.refl _ w3).alloc (Nat.le_refl _) _
        have hs4 : w3.heap.size < (w3.alloc (.cells #[.int .i64 kd, v3, .int .i64 wd, .int .i64 ln] 62)).heap.size := by simp
        have kD4 := Blk.by hb4 kD3
        have kB4 := Blk.by hb4 kB3
        have kM4 := Blk.by hb4 kM3
        have HOF4 := Lib.hid (OwnR.by hb4 HOF.out)
        have HR4 := Lib.hid ((HRE.out.by hb3E).by hb4)
        have hb4w := below_on hb4 (below_on hb3E hbEw)
        obtain ⟨Z4, hZ4⟩ : ∃ Z, w3.heap.size = Z := ⟨_, rfl⟩
        rw [hZ4] at kZ4 hs4 hs3 hf2 ⊢
        clear HOF hb4 hb3E kD3 kB3 kM3
        generalize w3.alloc (.cells #[.int .i64 kd, v3, .int .i64 wd, .int .i64 ln] 62) = w4 at *
        refine hK.out _ _ (fun _ => ⟨kD4, kB4, kM4⟩) ?_
        try simp only [Act.put, List.setIfInBounds_toArray, List.set_cons_zero, List.set_cons_succ]
        refine wpAnyE_oneL (k := 8) (by kernel_rfl) rfl (fun K hK => ?_)
        refine step_pushR (by rfl) _ _ (by rfl) g n c L (by rfl) HR4.out Z4 ⟨kd, normz kd (pins.map (nmOf nets)), wd, ln⟩ v3 f (by rfl) kZ4 HOF4.out (by omega) (by omega) (by omega) ?_
        intro g5 c5 w5 hR5 hgr hg5
        have hE5 := grown_exc hgr
        have kD5 := hE5.blk kD4 (show ¬ wr.heap.size = g by omega)
        have kB5 := hE5.blk kB4 (show ¬ w.heap.size = g by omega)
        have kM5 := hE5.blk kM4 (show ¬ M = g by omega)
        have hb5w : Below w.heap.size w w5 := hE5.below hb4w (fun q hq (e : q = g) => by omega)
        have hs5 := hE5.size
        have HR5 := Lib.hid hR5
        have hg5' : w.heap.size < g5 ∧ g5 < w5.heap.size := ⟨by omega, hR5.2.2.1⟩
        clear hR5 hgr hE5 kD4 kB4 kM4 hb4w
        refine hK.out _ _ (fun _ => ⟨kD5, kB5, kM5⟩) ?_
        try simp only [Act.put, List.setIfInBounds_toArray, List.set_cons_zero, List.set_cons_succ]
        refine wpAnyE_oneL (k := 9) (by kernel_rfl) rfl (fun K hK => ?_)
        go_simp
        refine hK.out _ _ (fun h => absurd rfl h) ?_
        refine wpAnyE_done (by kernel_rfl) ?_ _
        clear HR4 HRE HOF4
        go_wp2
        exact ⟨⟨k + 1, g5, n + 1, c5, L ++ [(⟨kd, normz kd (pins.map (nmOf nets)), wd, ln⟩, v3, f)], by omega, by rfl, by go_num, HR5, by omega, Lib.hid (by rw [HST.out, Tr.map_push, HL.out]; rfl), hg5'.1, hg5'.2, kB5, hb5w⟩, by simp [intOf]; omega⟩
      · have HB2 := HB1.out
        rw [decide_eq_false hmx] at HB2
        rw [HB2, if_neg (by simp), List.append_nil] at HST
        have hmx' : (m : Int) - 1 < mx := by omega
        clear HB2 HLW HLBD HB1
        go_wp2
        exact ⟨⟨k + 1, g, n, c, L, by omega, by rfl, by go_num, HRE, by omega, Lib.hid (by rw [HST.out]; exact HL.out), by omega, by omega, kBE, hbEw⟩, by simp [intOf]; omega⟩
    · obtain rfl : l1 = k := by omega
      have i1 : ¬ (l1 : Int) < (l1 : Int) := by omega
      have cB := kB.cell
      have lB := kB.lt
      have cMr := kMr.cell
      have lMr := kMr.lt
      have hnl : n ≤ 10 := by omega
      obtain ⟨wo, rfl⟩ : ∃ z : World, z = wr := ⟨_, rfl⟩
      have kR20 : RB (wo.alloc (.cells #[] 62)) wo.heap.size 0 0 [] := RB.lit (Blk.new _ rfl)
      have hLw : ∀ t ∈ L, t.2.2 < wo.heap.size := fun t ht => (HR.out.2.2.2 t ht).2.1
      have HLW := Lib.hid hLw
      clear hLw
      go_wp2
      clear cB lB cMr lMr
      go_loopw [7, 48] (fun ov iv wr => ∃ (k g2 n2 c2 : Nat) (L2 : List Tr), k ≤ l2 ∧ ov = .slice (some ⟨g2, 0, none⟩) n2 c2 ∧ iv = .int .i64 (k : Int) ∧ Hid (RB wr g2 n2 c2 L2) ∧ n2 ≤ k ∧ Hid (L2.map (·.1) = owTo es nets k) ∧ wo.heap.size ≤ g2 ∧ g2 < wr.heap.size ∧ Hid (∀ t ∈ L2, t.2.2 < w.heap.size) ∧ Blk wr w.heap.size #[.pointer (some ⟨M, 0, none⟩)] 123 ∧ Below wo.heap.size wo wr) (fun _ iv _ => l2 - (intOf iv).toNat)
      case atStart => exact ⟨0, wo.heap.size, 0, 0, [], Nat.zero_le _, rfl, rfl, Lib.hid kR20, Nat.le_refl _, Lib.hid HO0.out.symm, Nat.le_refl _, by simp, Lib.hid (by simp), kB.past _, blwT⟩
      case round =>
        clear kR20 kB kMr
        obtain ⟨k, g2, n2, c2, L2, hk, rfl, rfl, HR2, hnk2, HL2', hg2, hgs2, HT2, kB, hbo⟩ := hrel
        have hbw := below_on hbo hb
        have kMr := Blk.by hbw kM
        by_cases hlt : k < l2
        · obtain ⟨d, hd⟩ : ∃ d, es[k]? = some d := ⟨_, List.getElem?_eq_getElem (by rw [HL2.out]; exact hlt)⟩
          have hdp := HYP.out d (List.mem_of_getElem? hd)
          have HST := Lib.hid (HOS.out k d hd)
          obtain ⟨gd, gc, f, pv, hex, lx, x1, x2, x3, x4, hOR, hf1, hf2⟩ := OwnDs.atE (HDB.out.by hbw) hd
          obtain ⟨rfl, rfl⟩ : db = some ⟨gd, 0, none⟩ ∧ dc = gc := by
            simp only [Value.slice.injEq] at hex
            exact ⟨hex.1, hex.2.2⟩
          have hfw : f < w.heap.size := by have := HHI.out; omega
          have HAMD := Lib.hid (HAM.out d)
          have HDP := Lib.hid hdp
          have HOR := Lib.hid hOR
          obtain ⟨px, cx, rfl⟩ := hOR.sl.len
          obtain ⟨kd, pins, wd, ln⟩ := d
          dsimp only at *
          obtain ⟨P, hP⟩ : ∃ P, pins.length = P := ⟨_, rfl⟩
          rw [hP] at x2 HOR
          have HPL := Lib.hid hP
          have i1 : (k : Int) < (l2 : Int) := by omega
          have i2 : decide (k < l2) = true := decide_eq_true hlt
          have cB := kB.cell
          have lB := kB.lt
          obtain ⟨AB, hAB⟩ : ∃ A, amB nets ⟨kd, pins, wd, ln⟩ = A := ⟨_, rfl⟩
          rw [hAB] at HAMD HST
          clear hd hex hP hdp hOR hAB
          go_wp2_with fail
          obtain ⟨wE, hwE⟩ : ∃ z : World, z = wr.alloc (.cells #[.int .i64 kd, .slice px P cx, .int .i64 wd, .int .i64 ln] 62) := ⟨_, rfl⟩
          have kD : Blk wE wr.heap.size #[.int .i64 kd, .slice px P cx, .int .i64 wd, .int .i64 ln] 62 := by rw [hwE]; exact Blk.new _ rfl
          have hbE : Below wr.heap.size wr wE := by rw [hwE]; exact (Below.refl _ wr).alloc (Nat.le_refl _) _
          have hsE : wr.heap.size < wE.heap.size := by rw [hwE]; simp
          (try rw [← hwE])
          have kBE := Blk.by hbE kB
          have kME := Blk.by hbE kMr
          have HRE := Lib.hid (HR2.out.by hbE)
          have hbEo := below_on hbE hbo
          have hbEw := below_on hbE hbw
          have HORE := Lib.hid (OwnR.by hbE HOR.out)
          clear hwE x1 x2 x3 x4 cB lB HOR
          refine (HCF.out w.heap.size wE (.slice px P cx) pins HORE.out.sl (kBE.cell 0) (kME.cell 12) (HU.out.by hbEw) HDP.out.2).mono ?_
          rintro e w1 ⟨rfl, hb1⟩
          rw [HAMD.out]
          have kD1 := Blk.by hb1 kD
          have kB1 := Blk.by hb1 kBE
          have HR1 := Lib.hid (HRE.out.by hb1)
          have HOR1 := Lib.hid (OwnR.by hb1 HORE.out)
          have hb1o := below_on hb1 hbEo
          have hs1 := hb1.size
          have qD := kD1.cell
          have lD := kD1.lt
          clear hb1 kD kBE kME HRE HORE hbEo hbEw hbE
          cases AB with
          | true =>
            rw [if_pos rfl] at HST
            have kZ2 : Blk (w1.alloc (.cells #[.int .i64 kd, .slice px P cx, .int .i64 wd, .int .i64 ln] 62)) w1.heap.size #[.int .i64 kd, .slice px P cx, .int .i64 wd, .int .i64 ln] 62 := Blk.new _ rfl
            have hb2 : Below w1.heap.size w1 (w1.alloc (.cells #[.int .i64 kd, .slice px P cx, .int .i64 wd, .int .i64 ln] 62)) := (Below.refl _ w1).alloc (Nat.le_refl _) _
            have HR2b := Lib.hid (HR1.out.by hb2)
            have HOR2 := Lib.hid (OwnR.by hb2 HOR1.out)
            have kB2 := Blk.by hb2 kB1
            have hb2o := below_on hb2 hb1o
            have hso := hbo.size
            have hsw := hb.size
            go_wp2_with (refine list_pushR (by rfl) _ _ (by rfl) g2 n2 c2 L2 (by rfl) HR2b.out w1.heap.size ⟨kd, pins, wd, ln⟩ (.slice px P cx) f (by rfl) kZ2 HOR2.out (by simp; omega) (by omega) (by omega) ?_; intro g5 c5 w5 hR5 hgr hg5; have hE5 := grown_exc hgr; have kB5 := hE5.blk kB2 (show ¬ w.heap.size = g2 by omega); have hb5o : Below wo.heap.size wo w5 := hE5.below hb2o (fun q hq (e : q = g2) => by omega); have HR5 := Lib.hid hR5; have hg5' : wo.heap.size ≤ g5 ∧ g5 < w5.heap.size := ⟨by (try simp only [World.size_alloc] at hg5); omega, hR5.2.2.1⟩; clear hR5 hgr hE5)
            exact ⟨⟨k + 1, g5, n2 + 1, c5, L2 ++ [(⟨kd, pins, wd, ln⟩, .slice px P cx, f)], by omega, by rfl, by go_num, HR5, by omega, Lib.hid (by rw [HST.out, Tr.map_push, HL2'.out]), hg5'.1, hg5'.2, Lib.hid (fun t ht => by
              rcases List.mem_append.1 ht with ht | ht
              · exact HT2.out t ht
              · rw [List.mem_singleton] at ht; rw [ht]; exact hfw), kB5, hb5o⟩, by simp [intOf]; omega⟩
          | false =>
            rw [if_neg (by simp), List.append_nil] at HST
            go_wp2
            exact ⟨⟨k + 1, g2, n2, c2, L2, by omega, by rfl, by go_num, HR1, by omega, Lib.hid (by rw [HST.out]; exact HL2'.out), by omega, by omega, HT2, kB1, hb1o⟩, by simp [intOf]; omega⟩
        · obtain rfl : l2 = k := by omega
          have i1 : ¬ (l2 : Int) < (l2 : Int) := by omega
          have hso := hbo.size
          have hsw := hb.size
          have HRz := Lib.hid (HR.out.by hbo)
          obtain ⟨_, _, hnc1, hcm1, _⟩ := HR.out.cells
          obtain ⟨_, _, hnc2, hcm2, _⟩ := HR2.out.cells
          go_wp2_with fail
          refine (HSF.out g n c L _ HRz.out (by omega)).mono ?_
          rintro e w1 ⟨rfl, ⟨d1, hD1, hz1, hm1, hp1⟩, hW1⟩
          have hE1 : Exc (fun k => k = g) wr w1 := Exc.ofWithin hW1 (fun q h1 h2 => by omega)
          have HR3 := Lib.hid (RB.exc hE1 HR2.out (show ¬ g2 = g by omega) (fun t ht (e : t.2.2 = g) => by have := HT2.out t ht; omega))
          have hb1o : Below wo.heap.size wo w1 → True := fun _ => trivial
          have hb1w : Below w.heap.size w w1 := hE1.below hbw (fun q hq (e : q = g) => by omega)
          have HD1 := Lib.hid hD1
          have HZ1 := Lib.hid hz1
          have HM1 := Lib.hid hm1
          have HP1 := Lib.hid hp1
          clear hD1 hz1 hm1 hp1 hW1 hE1 hb1o
          go_wp2_with fail
          refine (HSF.out g2 n2 c2 L2 _ HR3.out (by omega)).mono ?_
          rintro e w2 ⟨rfl, ⟨d2, hD2, hz2, hm2, hp2⟩, hW2⟩
          have hE2 : Exc (fun k => k = g2) w1 w2 := Exc.ofWithin hW2 (fun q h1 h2 => by omega)
          have hD1 := DRow.exc hE2 HD1.out (show ¬ g = g2 by omega) (fun q hq (e : q = g2) => by
            obtain ⟨t, ht, e2⟩ := List.mem_map.1 (HP1.out q hq)
            have := HLW.out t ht
            (try dsimp only at e2)
            omega)
          have hb2w : Below w.heap.size w w2 := hE2.below hb1w (fun q hq (e : q = g2) => by omega)
          have hS1 := hD1.sl (cap := c) (by rw [HZ1.out]; exact hnc1) hcm1
          have hS2 := hD2.sl (cap := c2) (by rw [hz2]; exact hnc2) hcm2
          rw [HZ1.out, HM1.out] at hS1
          rw [hz2, hm2] at hS2
          have HS1 := Lib.hid hS1
          have HS2 := Lib.hid hS2
          clear hE2 hD1 hS1 hS2 hD2 hz2 hm2 hp2 hW2
          go_wp2_with fail
          refine (HEF.out _ _ _ _ _ HS1.out HS2.out (by rw [length_srtD, List.length_map, HR.out.2.1]; omega) (by rw [length_srtD, List.length_map, HR2.out.2.1]; omega)).mono ?_
          rintro e w3 ⟨rfl, hb3⟩
          have hb3w := below_on hb3 hb2w
          go_wp2
          go_ret
          exact ⟨ret_bool (by rw [HL.out, HL2'.out]), hb3w⟩
theorem list_pushG2 {ops : Array Oper} {rest : List Oper} {o : Oper} {a : Act} {w : World} {Q : Exit → Act → World → Prop} (hgd : o.guard = none) (s x : Operand)
    (ho : o.op = .call { callee := .builtin .append, args := #[s, x], argTypes := #[27, 27] })
    (lo hi N : Nat) (v : Value) (zs : List Int) (hN : zs.length = N) (d : Int) (hs : a.eval s = v) (hB : BldI w lo hi v zs) (nb : Nat) (hx : a.eval x = .slice (some ⟨nb, 0, none⟩) 1 1)
    (hnb : Blk w nb #[.int .i64 d] 2) (hlo : lo ≤ hi) (hn : N + 1 ≤ 8000000)
    (hK : ∀ g c' w', BldI w' lo w'.heap.size (.slice (some ⟨g, 0, none⟩) (N + 1) c') (zs ++ [d]) → Within lo hi w w' → wpList Tryz.prog ops Q rest (a.put o.dst (.slice (some ⟨g, 0, none⟩) (N + 1) c')) w') : wpList Tryz.prog ops Q (o :: rest) a w := by
  subst hN
  exact wpList_plain hgd fun K hk => by
    have h := step_pushG (ops := ops) (K := K) (Q := Q) (E := False) hgd s x ho lo hi v zs [d] hs hB nb 1 #[.int .i64 d] hx rfl (by omega) hnb rfl hlo hn (fun a' c' w' h1 h2 h3 h4 => hk _ _ (hK a' c' w' h1 h4))
    rwa [if_pos (by simp [Region.wanted, hgd])] at h
theorem BldI.some {w : World} {lo hi m : Nat} {v : Value} {zs : List Int} {d : Int} (h : BldI w lo hi v (zs ++ [d])) (hm : zs.length = m) : ∃ g c, v = .slice (some ⟨g, 0, none⟩) (m + 1) c ∧ m + 1 ≤ c ∧ c ≤ maxLen := by
  obtain ⟨hs, ⟨h1, h2⟩, h3⟩ := h
  rw [List.length_append, hm] at h2
  rcases h2 with ⟨_, h2⟩ | ⟨g, cap, cur, e1, e2, e3, e4, e5, _⟩
  · simp at h2
  · exact ⟨g, cap, e1, e4, e5⟩
theorem nz_pins {n : Int} {d : Dv} (h : dvB n d = true) : (nzD d).pins.length ≤ 3 ∧ ∀ p ∈ (nzD d).pins, 0 ≤ p ∧ p < n := by
  have h1 := dvB_pins h
  refine ⟨by show (normz d.kind d.pins).length ≤ 3; rw [length_normz]; exact h1.1, ?_⟩
  have h2 := nz_all (fun p => decide (0 ≤ p ∧ p < n)) (dvB_Two h)
  have h3 : d.pins.all (fun p => decide (0 ≤ p ∧ p < n)) = true := List.all_eq_true.2 (fun p hp => decide_eq_true (h1.2.2 p hp))
  rw [h3] at h2
  intro p hp
  exact of_decide_eq_true (List.all_eq_true.1 h2 p hp)
def EB (M U : Nat) (Y : Nat → Prop) (b : Nat) : Prop := b = M ∨ b = U ∨ Y b
structure RunC (x y : Nl) (cx cy : List Int) (one : Bool) (n J M U NA NB lo hi gY : Nat) (A1 A2 B1 B2 C1 C2 D1 D2 DB : Value) (nb : Int) (lbY : Array Value) (Y : Nat → Prop) (Yd : List (List Int) → World → Prop) (wJ : World) : Prop where
  hx : nlB x = true
  hy : nlB y = true
  hxy : y.nets = x.nets
  hpl : y.ps.length = x.ps.length
  hnn : x.nets = n
  hlx : x.ds.length ≤ 10
  hly : y.ds.length ≤ 10
  hJ : wJ.heap.size = J
  hMJ : M < J
  hUJ : U < J
  hMU : M ≠ U
  hYM : ¬ Y M
  hYU : ¬ Y U
  hYJ : ∀ b, Y b → b < J
  hlo : hi ≤ J
  hA : ∀ w, Exc (EB M U Y) wJ w → DvSl w A1 x.ds
  hcx : cx.length = n
  hcy : cy.length = n
  hCA : ∀ w, Exc (EB M U Y) wJ w → IntSl w C1 cx
  hCB : ∀ w, Exc (EB M U Y) wJ w → IntSl w D1 cy
  hD : ∀ w, Exc (EB M U Y) wJ w → OwnDs w lo hi DB (y.ds.map nzD)
  hPA : ∀ w, Exc (EB M U Y) wJ w → ∀ k : Nat, k < n → ∃ s, w.cell? ⟨NA, k, none⟩ = some s ∧ IntSl w s (portTo x.ps (k : Int) x.ps.length)
  hPB : ∀ w, Exc (EB M U Y) wJ w → ∀ k : Nat, k < n → ∃ s, w.cell? ⟨NB, k, none⟩ = some s ∧ IntSl w s (portTo y.ps (k : Int) y.ps.length)
  eg : ∀ args w, (callFunc gY args).run Tryz.prog w = .ok (.enter gY args) w
  hY : ∀ (zs : List (List Int)) (z : List Int) (sv : Value) (w : World), Yd zs w → (one = true → zs = []) → Exc (EB M U Y) wJ w → IntSl w sv z → goodN n z → z.length = n → fitB x y z = true → Calls Tryz.prog gY (#[sv] ++ lbY) w fun e w' => e = .returned (.bool (!one)) ∧ Yd (zs ++ [z]) w' ∧ Exc Y w w'
  hYs : ∀ (zs : List (List Int)) (w w' : World), Yd zs w → (one = true → zs = []) → Exc (fun b => b = M ∨ b = U ∨ J ≤ b) w w' → Yd zs w'
def stopB (one : Bool) (l : List (List Int)) : Bool := one && !l.isEmpty
def RunOk (x y : Nl) (cx cy : List Int) (one : Bool) (n J M U NA NB lo hi gY : Nat) (A1 A2 B1 B2 C1 C2 D1 D2 DB : Value) (nb : Int) (lbY : Array Value) (Y : Nat → Prop) (Yd : List (List Int) → World → Prop) (wJ : World) (r : Nat) : Prop :=
  ∀ (nets : List Int) (zs : List (List Int)) (NV : Value) (w : World), Blk w M #[.int .i64 (n : Int), A1, A2, .int .i64 nb, B1, B2, C1, C2, D1, D2, DB, NV, .slice (some ⟨U, 0, none⟩) n n, .func (.func gY) #[] lbY, .slice (some ⟨NA, 0, none⟩) n n, .slice (some ⟨NB, 0, none⟩) n n] 127 → BldI w J w.heap.size NV nets → UsedB w U n nets → Exc (EB M U Y) wJ w → Yd zs w → (one = true → zs = []) → goodN n nets → nets.length + r = n → fitB x y nets = true →
    Calls Tryz.prog 94 #[.pointer (some ⟨M, 0, none⟩)] w fun e w' => e = .returned (.bool (!stopB one (srch (fitB x y) (colB cx cy) n one r nets))) ∧ Yd (zs ++ srch (fitB x y) (colB cx cy) n one r nets) w' ∧ Exc (EB M U Y) wJ w' ∧
      (stopB one (srch (fitB x y) (colB cx cy) n one r nets) = false → ∃ NV', Blk w' M #[.int .i64 (n : Int), A1, A2, .int .i64 nb, B1, B2, C1, C2, D1, D2, DB, NV', .slice (some ⟨U, 0, none⟩) n n, .func (.func gY) #[] lbY, .slice (some ⟨NA, 0, none⟩) n n, .slice (some ⟨NB, 0, none⟩) n n] 127 ∧ BldI w' J w'.heap.size NV' nets ∧ UsedB w' U n nets)
set_option maxRecDepth 100000 in
set_option maxHeartbeats 16000000 in
theorem run_step (x y : Nl) (cx cy : List Int) (one : Bool) (n J M U NA NB lo hi gY : Nat) (A1 A2 B1 B2 C1 C2 D1 D2 DB : Value) (nb : Int) (lbY : Array Value) (Y : Nat → Prop) (Yd : List (List Int) → World → Prop) (wJ : World) (C : RunC x y cx cy one n J M U NA NB lo hi gY A1 A2 B1 B2 C1 C2 D1 D2 DB nb lbY Y Yd wJ) (r : Nat) (ih : ∀ q, r = q + 1 → RunOk x y cx cy one n J M U NA NB lo hi gY A1 A2 B1 B2 C1 C2 D1 D2 DB nb lbY Y Yd wJ q) : RunOk x y cx cy one n J M U NA NB lo hi gY A1 A2 B1 B2 C1 C2 D1 D2 DB nb lbY Y Yd wJ r := by
  intro nets zs NV w hM hB hU hE hY hone hg hl hfit
  have HC := Lib.hid C
  have hMJ := C.hMJ
  have hUJ := C.hUJ
  have hMU := C.hMU
  have HB := Lib.hid hB
  have HU := Lib.hid hU
  have HE := Lib.hid hE
  have HY := Lib.hid hY
  have HO := Lib.hid hone
  have HG := Lib.hid hg
  have HF := Lib.hid hfit
  have hn24 : n ≤ 24 := by have := (nlB_facts C.hx).1; have := C.hnn; omega
  obtain ⟨an, cn, rfl⟩ := hB.sized
  obtain ⟨m, hm⟩ : ∃ m, nets.length = m := ⟨_, rfl⟩
  rw [hm] at hM HB hl
  have HM := Lib.hid hm
  obtain ⟨LL, hLL⟩ : ∃ l, srch (fitB x y) (colB cx cy) n one r nets = l := ⟨_, rfl⟩
  rw [hLL]
  have HLL := Lib.hid hLL
  have hsz : J ≤ w.heap.size := by rw [← C.hJ]; exact hE.size
  have cM := hM.cell
  have lM := hM.lt
  have HPX := Lib.hid (show ∀ d ∈ x.ds, 2 ≤ d.pins.length ∧ d.pins.length ≤ 3 ∧ ∀ p ∈ d.pins, 0 ≤ p from fun d hd => by
    obtain ⟨_, _, _, hdx, _⟩ := nlB_facts C.hx
    have := dvB_pins (hdx d hd)
    exact ⟨this.2.1, this.1, fun p hp => (this.2.2 p hp).1⟩)
  have HPY := Lib.hid (show ∀ d ∈ y.ds.map nzD, d.pins.length ≤ 3 ∧ ∀ p ∈ d.pins, 0 ≤ p ∧ p < (n : Int) from fun d hd => by
    obtain ⟨_, _, _, hdy, _⟩ := nlB_facts C.hy
    obtain ⟨e, he, rfl⟩ := List.mem_map.1 hd
    have h1 := hdy e he
    rw [C.hxy, C.hnn] at h1
    exact nz_pins h1)
  clear C hB hU hE hY hone hg hfit hm hLL
  cases r with
  | zero =>
    have e1 : ((m : Int) == (n : Int)) = true := by simp; omega
    have HS := Lib.hid (show LL = [nets] from by rw [← HLL.out]; rfl)
    have HYC := Lib.hid (HC.out.hY zs nets (.slice an m cn))
    have egY := HC.out.eg
    go_enter Tryz.func94, Tryz.ntmps94
    go_upto_region 3 with fail
    have hS : (fun w' : World => Blk w' M #[.int .i64 (n : Int), A1, A2, .int .i64 nb, B1, B2, C1, C2, D1, D2, DB, .slice an m cn, .slice (some ⟨U, 0, none⟩) n n, .func (.func gY) #[] lbY, .slice (some ⟨NA, 0, none⟩) n n, .slice (some ⟨NB, 0, none⟩) n n] 127) { w with drawn := w.drawn + 1 } := hM.drew
    refine wp_region_any (by kernel_rfl) (wpAny_of_E (S := fun w' : World => Blk w' M #[.int .i64 (n : Int), A1, A2, .int .i64 nb, B1, B2, C1, C2, D1, D2, DB, .slice an m cn, .slice (some ⟨U, 0, none⟩) n n, .func (.func gY) #[] lbY, .slice (some ⟨NA, 0, none⟩) n n, .slice (some ⟨NB, 0, none⟩) n n] 127) (l := 9) _ _ _ _ ?_)
    change wpAnyE _ _ _ _ _ _ _ _ _ w.drew
    refine wpAnyE_takeL (i := 0) (v := ?_) rfl (by kernel_rfl) (fun _ _ _ h => h) (Or.inl ⟨by rfl, ?_⟩) hS ?_
    rotate_left
    · intro w hSw; (try dsimp only at hSw); have qM := hSw.cell; have lM := hSw.lt; clear hSw; go_simp; (try with_reducible rfl)
    try simp only [Act.put, List.setIfInBounds_toArray, List.set_cons_zero, List.set_cons_succ]
    refine wpAnyE_takeL (i := 1) (v := ?_) rfl (by kernel_rfl) (fun _ _ _ h => h) (Or.inl ⟨by rfl, ?_⟩) hS ?_
    rotate_left
    · intro w hSw; (try dsimp only at hSw); have qM := hSw.cell; have lM := hSw.lt; clear hSw; go_simp; (try with_reducible rfl)
    try simp only [Act.put, List.setIfInBounds_toArray, List.set_cons_zero, List.set_cons_succ]
    refine wpAnyE_takeL (i := 2) (v := ?_) rfl (by kernel_rfl) (fun _ _ _ h => h) (Or.inl ⟨by rfl, ?_⟩) hS ?_
    rotate_left
    · intro w hSw; (try dsimp only at hSw); have qM := hSw.cell; have lM := hSw.lt; clear hSw; go_simp; (try with_reducible rfl)
    try simp only [Act.put, List.setIfInBounds_toArray, List.set_cons_zero, List.set_cons_succ]
    refine wpAnyE_takeL (i := 3) (v := ?_) rfl (by kernel_rfl) (fun _ _ _ h => h) (Or.inl ⟨by rfl, ?_⟩) hS ?_
    rotate_left
    · intro w hSw; (try dsimp only at hSw); have qM := hSw.cell; have lM := hSw.lt; clear hSw; go_simp; (try with_reducible rfl)
    try simp only [Act.put, List.setIfInBounds_toArray, List.set_cons_zero, List.set_cons_succ]
    refine wpAnyE_takeL (i := 4) (v := ?_) rfl (by kernel_rfl) (fun _ _ _ h => h) (Or.inl ⟨by rfl, ?_⟩) hS ?_
    rotate_left
    · intro w hSw; (try dsimp only at hSw); have qM := hSw.cell; have lM := hSw.lt; clear hSw; go_simp; (try with_reducible rfl)
    try simp only [Act.put, List.setIfInBounds_toArray, List.set_cons_zero, List.set_cons_succ]
    refine wpAnyE_takeL (i := 5) (v := ?_) rfl (by kernel_rfl) (fun _ _ _ h => h) (Or.inl ⟨by rfl, ?_⟩) hS ?_
    rotate_left
    · intro w hSw; (try dsimp only at hSw); have qM := hSw.cell; have lM := hSw.lt; clear hSw; go_simp; (try with_reducible rfl)
    try simp only [Act.put, List.setIfInBounds_toArray, List.set_cons_zero, List.set_cons_succ]
    refine wpAnyE_takeL (i := 6) (v := ?_) rfl (by kernel_rfl) (fun _ _ _ h => h) (Or.inl ⟨by rfl, ?_⟩) hS ?_
    rotate_left
    · intro w hSw; (try dsimp only at hSw); have qM := hSw.cell; have lM := hSw.lt; clear hSw; go_simp; (try with_reducible rfl)
    try simp only [Act.put, List.setIfInBounds_toArray, List.set_cons_zero, List.set_cons_succ]
    refine wpAnyE_takeL (i := 7) (v := ?_) rfl (by kernel_rfl) (fun _ _ _ h => h) (Or.inl ⟨by rfl, ?_⟩) hS ?_
    rotate_left
    · intro w hSw; (try dsimp only at hSw); have qM := hSw.cell; have lM := hSw.lt; clear hSw; go_simp; (try with_reducible rfl)
    try simp only [Act.put, List.setIfInBounds_toArray, List.set_cons_zero, List.set_cons_succ]
    refine wpAnyE_oneL (k := 8) (by kernel_rfl) rfl (fun K hK => ?_)
    go_simp
    go_at_fn gY
    refine (HYC.out w.drew (HC.out.hYs zs w w.drew HY.out HO.out (Exc.ofBelow (below_of_drewN w 1))) HO.out (HE.out.on (Exc.ofBelow (below_of_drewN w 1))) (HB.out.own.sl.by (below_of_drewN w 1)) HG.out (by rw [HM.out]; omega) HF.out).mono ?_
    rintro e w2 ⟨rfl, hY2, hE2⟩
    have kM2 := hE2.blk hM.drew HC.out.hYM
    have HY2 := Lib.hid hY2
    have hEw : Exc Y w w2 := (Exc.ofBelow (below_of_drewN w 1)).on hE2
    have HE2 := Lib.hid hEw
    clear hS hY2 hE2 hEw
    refine hK.out _ _ (fun _ => kM2) ?_
    try simp only [Act.put, List.setIfInBounds_toArray, List.set_cons_zero, List.set_cons_succ]
    refine wpAnyE_oneL (k := 9) (by kernel_rfl) rfl (fun K hK => ?_)
    go_simp
    refine hK.out _ _ (fun h => absurd rfl h) ?_
    refine wpAnyE_done (by kernel_rfl) ?_ _
    go_wp2
    go_ret
    have hEE : Exc (EB M U Y) w w2 := HE2.out.mono (fun k _ h => .inr (.inr h))
    refine ⟨ret_bool (by rw [HS.out]; cases one <;> rfl), by rw [HS.out]; exact HY2.out, HE.out.on hEE, fun _ => ⟨_, kM2, ?_, UsedB.exc HE2.out HU.out HC.out.hYU⟩⟩
    exact (BldI.exc (E := fun b => Y b ∧ b < J) ⟨HE2.out.os, HE2.out.tape, HE2.out.output, HE2.out.size, fun q hq hn => by
      rcases Nat.lt_or_ge q J with h | h
      · exact HE2.out.block q hq (fun hy => hn ⟨hy, h⟩)
      · exact HE2.out.block q hq (fun hy => by have := HC.out.hYJ q hy; omega)⟩ HB.out (fun q h1 h2 h3 => by omega)).wideN HE2.out.size (Nat.le_refl _)
  | succ r =>
    have e1 : ((m : Int) == (n : Int)) = false := by simp; omega
    have hmn : m < n := by omega
    have HIH := Lib.hid (ih r rfl)
    have HS := Lib.hid (show srTo (stG x y (colB cx cy) n one r nets) one n = LL from HLL.out)
    have HGK := Lib.hid (show ∀ k : Nat, stG x y (colB cx cy) n one r nets k = (if (colB cx cy m k && (!nets.contains (k : Int) && fitB x y (nets ++ [(k : Int)]))) = true then srch (fitB x y) (colB cx cy) n one r (nets ++ [(k : Int)]) else []) from fun k => by unfold stG; rw [HM.out])
    clear HLL ih
    generalize stG x y (colB cx cy) n one r nets = G at *
    have HFS := Lib.hid (fun (k : Nat) (hg : goodN n (nets ++ [(k : Int)])) => (show fitB x y (nets ++ [(k : Int)]) = (decide (portTo x.ps (m : Int) x.ps.length = portTo y.ps (k : Int) y.ps.length) && fitI x y (nets ++ [(k : Int)])) from by
      have hnt : x.nets.toNat = n := by have := HC.out.hnn; omega
      rw [fit_step HC.out.hx HC.out.hy HC.out.hxy HC.out.hpl (by rw [hnt]; exact hg) HF.out, HM.out]))
    obtain ⟨cb, co, cc, hec, _, _⟩ := (HC.out.hCA w HE.out).nm (by rw [HC.out.hcx]; omega)
    obtain ⟨db, dd, dc, hed, _, _⟩ := (HC.out.hCB w HE.out).nm (by rw [HC.out.hcy]; omega)
    rw [HC.out.hcx] at hec
    rw [HC.out.hcy] at hed
    subst hec hed
    go_enter Tryz.func94, Tryz.ntmps94
    go_wp2
    clear cM
    go_loopw [31] (fun iv wr => ∃ (k : Nat) (NV : Value), k ≤ n ∧ iv = .int .i64 (k : Int) ∧ Blk wr M #[.int .i64 (n : Int), A1, A2, .int .i64 nb, B1, B2, .slice (some ⟨cb, co, none⟩) n cc, C2, .slice (some ⟨db, dd, none⟩) n dc, D2, DB, NV, .slice (some ⟨U, 0, none⟩) n n, .func (.func gY) #[] lbY, .slice (some ⟨NA, 0, none⟩) n n, .slice (some ⟨NB, 0, none⟩) n n] 127 ∧ Hid (BldI wr J wr.heap.size NV nets) ∧ Hid (UsedB wr U n nets) ∧ Hid (Exc (EB M U Y) wJ wr) ∧ Hid (Yd (zs ++ srTo G one k) wr) ∧ Hid (one = true → srTo G one k = [])) (fun iv _ => n - (intOf iv).toNat)
    case atStart => exact ⟨0, .slice an m cn, Nat.zero_le _, rfl, hM, HB, HU, HE, Lib.hid (by show Yd (zs ++ []) _; rw [List.append_nil]; exact HY.out), Lib.hid (fun _ => rfl)⟩
    case round =>
      clear hM HB HU HE HY lM hsz
      obtain ⟨k, NV, hk, rfl, kM, HB, HU, HE, HY, HO1⟩ := hrel
      obtain ⟨an, cn, rfl⟩ := HB.out.sized
      rw [HM.out] at kM HB
      have hsz : J ≤ wr.heap.size := by rw [← HC.out.hJ]; exact HE.out.size
      have HOZ := Lib.hid (show one = true → zs ++ srTo G one k = [] from fun h => by rw [HO.out h, HO1.out h]; rfl)
      by_cases hlt : k < n
      · have HNX := Lib.hid (show srTo G one (k + 1) = srTo G one k ++ G k from srTo_next (fun h => by
          simp only [Bool.and_eq_true, decide_eq_true_eq] at h
          rw [HO1.out h.1] at h
          simp at h))
        have i1 : (k : Int) < (n : Int) := by omega
        have i2 : decide (k < n) = true := decide_eq_true hlt
        have i3 : (m : Int) < (n : Int) := by omega
        have i4 : decide (m < n) = true := decide_eq_true hmn
        obtain ⟨cU, fU, lU⟩ := HU.out.cell hlt
        obtain ⟨_, _, _, hec, lc, cas⟩ := (HC.out.hCA wr HE.out).nm (by rw [HC.out.hcx]; omega)
        simp only [Value.slice.injEq, Option.some.injEq, Addr.mk.injEq, and_true] at hec
        obtain ⟨⟨rfl, rfl⟩, hec9, rfl⟩ := hec
        clear hec9
        obtain ⟨_, _, _, hed, ld, cds⟩ := (HC.out.hCB wr HE.out).nm (by rw [HC.out.hcy]; omega)
        simp only [Value.slice.injEq, Option.some.injEq, Addr.mk.injEq, and_true] at hed
        obtain ⟨⟨rfl, rfl⟩, hed9, rfl⟩ := hed
        clear hed9
        have cm := cas m (by rw [HC.out.hcx]; exact hmn)
        have ck := cds k (by rw [HC.out.hcy]; exact hlt)
        obtain ⟨sa, pam, hsa⟩ := HC.out.hPA wr HE.out m hmn
        obtain ⟨sb, pbk, hsb⟩ := HC.out.hPB wr HE.out k hlt
        have lpa := lt_of_cell pam
        have lpb := lt_of_cell pbk
        dsimp only at lpa lpb
        have HSA := Lib.hid hsa
        have HSB := Lib.hid hsb
        obtain ⟨V1, hV1⟩ : ∃ V, nmOf cx (m : Int) = V := ⟨_, rfl⟩
        obtain ⟨V2, hV2⟩ : ∃ V, nmOf cy (k : Int) = V := ⟨_, rfl⟩
        have hGK := HGK.out k
        rw [show colB cx cy m k = decide (V1 = V2) from by unfold colB; rw [hV1, hV2]] at hGK
        rw [hV1] at cm
        rw [hV2] at ck
        obtain ⟨UC, hUC⟩ : ∃ C, nets.contains (k : Int) = C := ⟨_, rfl⟩
        have HFK := Lib.hid (show UC = false → goodN n (nets ++ [(k : Int)]) from fun q => ⟨by
          rw [List.nodup_append]
          exact ⟨HG.out.1, by simp, fun a ha b hb e => by
            rw [List.mem_singleton] at hb
            subst e; subst hb
            rw [q] at hUC
            simp at hUC
            exact hUC ha⟩, fun z hz => by
          rcases List.mem_append.1 hz with h | h
          · exact HG.out.2 z h
          · rw [List.mem_singleton] at h; omega⟩)
        have HUC := Lib.hid hUC
        rw [hUC] at cU hGK
        obtain ⟨PA', hPA'⟩ : ∃ P, portTo x.ps (m : Int) x.ps.length = P := ⟨_, rfl⟩
        obtain ⟨PB', hPB'⟩ : ∃ P, portTo y.ps (k : Int) y.ps.length = P := ⟨_, rfl⟩
        have HFS1 := Lib.hid (show UC = false → fitB x y (nets ++ [(k : Int)]) = (decide (PA' = PB') && fitI x y (nets ++ [(k : Int)])) from fun q => by rw [← hPA', ← hPB']; exact HFS.out k (HFK.out q))
        rw [hPA'] at HSA
        rw [hPB'] at HSB
        have HSE := Lib.hid (fun w h h' => slicesEqual_any sa sb PA' PB' w h h')
        obtain ⟨PE, hPE⟩ : ∃ P : Bool, decide (PA' = PB') = P := ⟨_, rfl⟩
        rw [hPE] at HFS1 HSE
        obtain ⟨CE, hCE⟩ : ∃ P : Bool, decide (V1 = V2) = P := ⟨_, rfl⟩
        have HCE := Lib.hid hCE
        rw [hCE] at hGK
        have HGK1 := Lib.hid hGK
        have cMr := kM.cell
        have lMr := kM.lt
        clear cas cds hsa hsb hV1 hV2 hUC hPA' hPB' hPE hCE hGK
        go_upto_region 7 with fail
        go_cut [77] from 33 to 116 (fun cc wx => cc = .bool (!(!UC && (CE && PE))) ∧ Below wr.heap.size wr wx)
        case first =>
          cases UC with
          | true =>
            go_quiet (fail)
            go_wp2
            go_meet
            exact ⟨(by first | rfl | (cases CE <;> cases PE <;> rfl)), blwT⟩
          | false =>
            cases CE with
            | false =>
              have hvv : ¬ V1 = V2 := of_decide_eq_false HCE.out
              have j1 : (V1 != V2) = true := by simpa using hvv
              have j2 : (V1 == V2) = false := by simpa using hvv
              clear hvv
              go_quiet (fail)
              go_wp2
              go_meet
              exact ⟨(by first | rfl | (cases PE <;> rfl)), blwT⟩
            | true =>
              obtain rfl : V1 = V2 := of_decide_eq_true HCE.out
              have j1 : (V1 != V1) = false := by simp
              have j2 : (V1 == V1) = true := by simp
              go_quiet ((go_at_call 104; exact Calls.quiet_of (HSE.out _ (HSA.out.by (below_of_drewN wr _)) (HSB.out.by (below_of_drewN wr _)))))
              go_wp2
              go_meet
              exact ⟨(by first | rfl | (cases PE <;> rfl)), blwT⟩
        case rest =>
          obtain ⟨rfl, hbc⟩ := hcut
          have kM2 := Blk.by hbc kM
          have HB2 := Lib.hid ((HB.out.by hbc).wideN hbc.size (Nat.le_refl _))
          have HU2 := Lib.hid (HU.out.by hbc)
          have HE2 := Lib.hid (HE.out.on (Exc.ofBelow hbc))
          have HY2 := Lib.hid (HC.out.hYs _ _ _ HY.out HOZ.out (Exc.ofBelow hbc))
          have hsz2 : J ≤ wc.heap.size := Nat.le_trans hsz hbc.size
          clear kM HB HU HE HY cMr lMr cm ck cU fU lU pam pbk lpa lpb HSA HSB HSE lc ld hbc hsz
          obtain ⟨K, hK⟩ : ∃ K, (!UC && (CE && PE)) = K := ⟨_, rfl⟩
          rw [hK]
          cases K with
          | false =>
            have HG0 := Lib.hid (show G k = [] from by
              rw [HGK1.out]
              refine if_neg (fun h => ?_)
              simp only [Bool.and_eq_true, Bool.not_eq_true'] at h
              have h2 := h.2.2
              rw [HFS1.out h.2.1, Bool.and_eq_true] at h2
              rw [h.1, h.2.1, h2.1] at hK
              cases hK)
            clear hK
            go_wp2
            exact ⟨⟨k + 1, .slice an m cn, by omega, by go_num, kM2, HB2, HU2, HE2, Lib.hid (by rw [HNX.out, HG0.out, List.append_nil]; exact HY2.out), Lib.hid (fun h => by rw [HNX.out, HG0.out, HO1.out h]; rfl)⟩, by simp [intOf]; omega⟩
          | true =>
            have hq : UC = false ∧ CE = true ∧ PE = true := by cases UC <;> cases CE <;> cases PE <;> simp_all
            have HGT := Lib.hid (show G k = if fitI x y (nets ++ [(k : Int)]) = true then srch (fitB x y) (colB cx cy) n one r (nets ++ [(k : Int)]) else [] from by
              rw [HGK1.out, HFS1.out hq.1, hq.1, hq.2.1, hq.2.2]
              simp)
            have HGD := Lib.hid (HFK.out hq.1)
            have HFB := Lib.hid (show fitI x y (nets ++ [(k : Int)]) = true → fitB x y (nets ++ [(k : Int)]) = true from fun h => by rw [HFS1.out hq.1, hq.2.2, h]; rfl)
            rw [hq.1] at HUC
            clear hK hq HGK1 HFS1 HFK HCE
            have hMU2 : ¬ U = M := fun e => hMU e.symm
            obtain ⟨cU, fU, lU⟩ := HU2.out.cell hlt
            have cM2 := kM2.cell
            have lM2 := kM2.lt
            have hE4 : Exc (fun b => b = M ∨ b = U ∨ J ≤ b) wc ((wc.setCell ⟨U, k, none⟩ (.bool true)).alloc (.cells #[.int .i64 (k : Int)] 2)) := ((Exc.refl _ _).set U k _ (fun _ => .inr (.inl rfl))).alloc _
            have hE4u : Exc (fun b => b = U) wc ((wc.setCell ⟨U, k, none⟩ (.bool true)).alloc (.cells #[.int .i64 (k : Int)] 2)) := (Exc.set (E := fun b => b = U) (Exc.refl _ _) U k _ (fun _ => rfl)).alloc _
            have kN4 : Blk ((wc.setCell ⟨U, k, none⟩ (.bool true)).alloc (.cells #[.int .i64 (k : Int)] 2)) wc.heap.size #[.int .i64 (k : Int)] 2 := Blk.new _ (by simp)
            have kM4 := hE4u.blk kM2 (show ¬ M = U from hMU)
            have HU4 := Lib.hid ((HU2.out.add hlt).by ((Below.refl _ (wc.setCell ⟨U, k, none⟩ (.bool true))).alloc (Nat.le_refl _) (.cells #[.int .i64 (k : Int)] 2)))
            have HB4 := Lib.hid (BldI.exc hE4u HB2.out (fun q h1 h2 (e : q = U) => by omega))
            have HE4 := Lib.hid hE4
            have hs4 : wc.heap.size + 1 = ((wc.setCell ⟨U, k, none⟩ (.bool true)).alloc (.cells #[.int .i64 (k : Int)] 2)).heap.size := by simp
            have HS4 := Lib.hid hs4
            clear hE4 hE4u hs4 HU2
            go_wp2_with (refine list_pushG2 (by rfl) _ _ (by rfl) J wc.heap.size m (.slice an m cn) nets HM.out (k : Int) (by rfl) HB4.out wc.heap.size (by rfl) kN4 (by omega) (by omega) ?_; intro g5 c5 w5 hB5 hW5; have kM5 := hW5.blk kM4 (.inl (by omega)); have c5M := kM5.cell; have f5M := kM5.free; have l5M := kM5.lt; have HB5 := Lib.hid hB5; have HW5 := Lib.hid hW5; clear hB5 hW5)
            have kM6 : Blk (w5.setCell ⟨M, 11, none⟩ (.slice (some ⟨g5, 0, none⟩) (m + 1) c5)) M #[.int .i64 (n : Int), A1, A2, .int .i64 nb, B1, B2, .slice (some ⟨cb, co, none⟩) n cc, C2, .slice (some ⟨db, dd, none⟩) n dc, D2, DB, .slice (some ⟨g5, 0, none⟩) (m + 1) c5, .slice (some ⟨U, 0, none⟩) n n, .func (.func gY) #[] lbY, .slice (some ⟨NA, 0, none⟩) n n, .slice (some ⟨NB, 0, none⟩) n n] 127 := kM5.set 11 _
            have hX6 : Exc (fun b => b = M ∨ b = U ∨ J ≤ b) wc (w5.setCell ⟨M, 11, none⟩ (.slice (some ⟨g5, 0, none⟩) (m + 1) c5)) := (HE4.out.on (Exc.ofWithin HW5.out (fun q h1 h2 => .inr (.inr h1)))).set M 11 _ (fun _ => .inl rfl)
            have HU6 := Lib.hid (UsedB.exc (E := fun b => b = M) ((Exc.refl _ w5).set M 11 (.slice (some ⟨g5, 0, none⟩) (m + 1) c5) (fun _ => rfl)) (UsedB.exc (E := fun b => J ≤ b) (Exc.ofWithin HW5.out (fun q h1 h2 => h1)) HU4.out (by omega)) (fun (e : U = M) => hMU2 e))
            have HB6 : Hid (BldI (w5.setCell ⟨M, 11, none⟩ (.slice (some ⟨g5, 0, none⟩) (m + 1) c5)) J (w5.setCell ⟨M, 11, none⟩ (.slice (some ⟨g5, 0, none⟩) (m + 1) c5)).heap.size (.slice (some ⟨g5, 0, none⟩) (m + 1) c5) (nets ++ [(k : Int)])) := Lib.hid (by
              have h2 := BldI.exc (E := fun b => b = M) ((Exc.refl _ w5).set M 11 (.slice (some ⟨g5, 0, none⟩) (m + 1) c5) (fun _ => rfl)) HB5.out (fun q h1 h2 (e : q = M) => by omega)
              simpa using h2)
            generalize w5.setCell ⟨M, 11, none⟩ (.slice (some ⟨g5, 0, none⟩) (m + 1) c5) = w6 at *
            have hE6 := HE2.out.thn hX6 (fun q hq h => by
              rcases h with h | h | h
              · exact .inl h
              · exact .inr (.inl h)
              · have := HC.out.hJ; omega)
            have hY6 := HC.out.hYs _ _ _ HY2.out HOZ.out hX6
            have hs6 : J ≤ w6.heap.size := by rw [← HC.out.hJ]; exact hE6.size
            have HE6 := Lib.hid hE6
            have HY6 := Lib.hid hY6
            clear hE6 hY6 hX6 HE4 HW5 HB5 HU4 HB4 kM4 kN4 kM5 c5M f5M l5M cU fU lU cM2 lM2 kM2 HB2 HE2 HY2 HS4
            refine (fits_any x y (nets ++ [(k : Int)]) M U n lo hi (m + 1) (n : Int) nb A1 A2 B1 B2 (.slice (some ⟨cb, co, none⟩) n cc) C2 (.slice (some ⟨db, dd, none⟩) n dc) D2 DB (.slice (some ⟨g5, 0, none⟩) (m + 1) c5) (.func (.func gY) #[] lbY) (.slice (some ⟨NA, 0, none⟩) n n) (.slice (some ⟨NB, 0, none⟩) n n) w6 kM6 (HC.out.hA w6 HE6.out) (HC.out.hD w6 HE6.out) (Nat.le_trans HC.out.hlo hs6) HB6.out.own.sl (by rw [List.length_append, HM.out]; rfl) HU6.out HPX.out HPY.out HC.out.hlx HC.out.hly (by omega) hn24).mono ?_
            rintro e w7 ⟨rfl, hb7⟩
            have kM7 := Blk.by hb7 kM6
            have HB7 := Lib.hid ((HB6.out.by hb7).wideN hb7.size (Nat.le_refl _))
            have HU7 := Lib.hid (HU6.out.by hb7)
            have HE7 := Lib.hid (HE6.out.on (Exc.ofBelow hb7))
            have HY7 := Lib.hid (HC.out.hYs _ _ _ HY6.out HOZ.out (Exc.ofBelow hb7))
            have hs7 : J ≤ w7.heap.size := Nat.le_trans hs6 hb7.size
            clear hb7 kM6 HB6 HU6 HE6 HY6 hs6
            cases hF : fitI x y (nets ++ [(k : Int)]) with
            | false =>
              have HG0 := Lib.hid (show G k = [] from by rw [HGT.out, hF, if_neg (by simp)])
              have HY8 := Lib.hid (show Yd (zs ++ srTo G one (k + 1)) w7 from by rw [HNX.out, HG0.out, List.append_nil]; exact HY7.out)
              have HO8 := Lib.hid (show (one = true → zs ++ srTo G one (k + 1) = []) ∧ (one = true → srTo G one (k + 1) = []) from ⟨fun h => by rw [HO.out h, HNX.out, HG0.out, HO1.out h]; rfl, fun h => by rw [HNX.out, HG0.out, HO1.out h]; rfl⟩)
              obtain ⟨NV8, hNV8⟩ : ∃ NV, Value.slice (some ⟨g5, 0, none⟩) (m + 1) c5 = NV := ⟨_, rfl⟩
              rw [hNV8] at kM7 HB7
              clear hF hNV8 HY7
              obtain ⟨w8, rfl⟩ : ∃ z : World, z = w7 := ⟨_, rfl⟩
              have kM8 := kM7
              have HB8 := HB7
              have HU8 := HU7
              have HE8 := HE7
              clear kM7 HB7 HU7 HE7
              obtain ⟨g9, c9, rfl, hc1, hc2⟩ := BldI.some HB8.out HM.out
              have cM9 := kM8.cell
              have fM9 := kM8.free
              have lM9 := kM8.lt
              obtain ⟨cU9, fU9, lU9⟩ := HU8.out.cell hlt
              have j3 : (m : Int) ≤ (c9 : Int) := by omega
              have j4 : m ≤ c9 := by omega
              have j5 : decide (m ≤ c9) = true := decide_eq_true j4
              have HBf : Hid (BldI ((w8.setCell ⟨M, 11, none⟩ (.slice (some ⟨g9, 0, none⟩) m c9)).setCell ⟨U, k, none⟩ (.bool false)) J ((w8.setCell ⟨M, 11, none⟩ (.slice (some ⟨g9, 0, none⟩) m c9)).setCell ⟨U, k, none⟩ (.bool false)).heap.size (.slice (some ⟨g9, 0, none⟩) m c9) nets) := Lib.hid (by
                have h1 := HB8.out
                rw [show m + 1 = (nets ++ [(k : Int)]).length from by rw [List.length_append, HM.out]; rfl] at h1
                have h2 := BldI.exc (E := fun b => b = M ∨ b = U) (((Exc.refl _ w8).set M 11 (.slice (some ⟨g9, 0, none⟩) m c9) (fun _ => .inl rfl)).set U k (.bool false) (fun _ => .inr rfl)) (BldI.cut h1 HM.out) (fun q h1 h2 h3 => by rcases h3 with rfl | rfl <;> omega)
                simpa using h2)
              have HUf := Lib.hid (UsedB.drop (UsedB.exc (E := fun b => b = M) ((Exc.refl _ w8).set M 11 (.slice (some ⟨g9, 0, none⟩) m c9) (fun _ => rfl)) HU8.out (fun (e : U = M) => hMU e.symm)) hlt HUC.out)
              have hXf : Exc (fun b => b = M ∨ b = U ∨ J ≤ b) w8 ((w8.setCell ⟨M, 11, none⟩ (.slice (some ⟨g9, 0, none⟩) m c9)).setCell ⟨U, k, none⟩ (.bool false)) := ((Exc.refl _ w8).set M 11 _ (fun _ => .inl rfl)).set U k _ (fun _ => .inr (.inl rfl))
              have HEf := Lib.hid (HE8.out.thn hXf (fun q hq h => by
                rcases h with h | h | h
                · exact .inl h
                · exact .inr (.inl h)
                · have := HC.out.hJ; omega))
              have HYf := Lib.hid (HC.out.hYs _ _ _ HY8.out HO8.out.1 hXf)
              have kMf := (kM8.set 11 (.slice (some ⟨g9, 0, none⟩) m c9)).apart U k (.bool false) hMU
              clear hXf HB8 HU8 HE8 HY8 hc1 hc2
              go_wp2
              exact ⟨⟨k + 1, .slice (some ⟨g9, 0, none⟩) m c9, by omega, by go_num, kMf, HBf, HUf, HEf, HYf, Lib.hid HO8.out.2⟩, by simp [intOf]; omega⟩
            | true =>
              have HFT := Lib.hid hF
              have HGE := Lib.hid (show srch (fitB x y) (colB cx cy) n one r (nets ++ [(k : Int)]) = G k from by rw [HGT.out, hF, if_pos rfl])
              clear hF
              go_wp2_with fail
              refine (HIH.out (nets ++ [(k : Int)]) (zs ++ srTo G one k) _ w7 kM7 HB7.out HU7.out HE7.out HY7.out HOZ.out HGD.out (by rw [List.length_append, HM.out, List.length_singleton]; omega) (HFB.out HFT.out)).mono ?_
              rw [HGE.out]
              rintro e w8 ⟨rfl, hY8, hE8, hN8⟩
              rw [List.append_assoc, ← HNX.out] at hY8
              have HY8 := Lib.hid hY8
              have HE8 := Lib.hid hE8
              have HN8 := Lib.hid hN8
              clear hY8 hE8 hN8 kM7 HB7 HU7 HE7 HY7
              cases hst : stopB one (G k) with
              | true =>
                have hq : one = true ∧ 0 < (G k).length := by
                  unfold stopB at hst
                  cases hone : one with
                  | false => rw [hone] at hst; cases hst
                  | true =>
                    rw [hone] at hst
                    refine ⟨rfl, ?_⟩
                    cases hgk : G k with
                    | nil => rw [hgk] at hst; cases hst
                    | cons a l => simp
                have HLS := Lib.hid (show srTo G one (k + 1) = LL from by
                  rw [← HS.out, show n = (k + 1) + (n - (k + 1)) by omega]
                  exact (srTo_stop hq.1 (by rw [HNX.out, List.length_append]; omega) _).symm)
                have HST := Lib.hid (show stopB one LL = true from by
                  rw [← HLS.out, HNX.out, HO1.out hq.1]
                  exact hst)
                clear hst hq
                go_wp2
                go_ret
                exact ⟨ret_bool (by rw [HST.out]; rfl), by rw [← HLS.out]; exact HY8.out, HE8.out, fun h => by rw [HST.out] at h; cases h⟩
              | false =>
                obtain ⟨NV8, kM8, hB8, hU8⟩ := HN8.out hst
                have HGN := Lib.hid (show one = true → G k = [] from fun h => by
                  rw [h] at hst
                  unfold stopB at hst
                  cases hgk : G k with
                  | nil => rfl
                  | cons a l => rw [hgk] at hst; cases hst)
                have HB8 := Lib.hid hB8
                have HU8 := Lib.hid hU8
                have HO8 := Lib.hid (show (one = true → zs ++ srTo G one (k + 1) = []) ∧ (one = true → srTo G one (k + 1) = []) from ⟨fun h => by rw [HO.out h, HNX.out, HGN.out h, HO1.out h]; rfl, fun h => by rw [HNX.out, HGN.out h, HO1.out h]; rfl⟩)
                have hs8 : J ≤ w8.heap.size := by rw [← HC.out.hJ]; exact HE8.out.size
                clear hst hB8 hU8 HN8
                obtain ⟨g9, c9, rfl, hc1, hc2⟩ := BldI.some HB8.out HM.out
                have cM9 := kM8.cell
                have fM9 := kM8.free
                have lM9 := kM8.lt
                obtain ⟨cU9, fU9, lU9⟩ := HU8.out.cell hlt
                have j3 : (m : Int) ≤ (c9 : Int) := by omega
                have j4 : m ≤ c9 := by omega
                have j5 : decide (m ≤ c9) = true := decide_eq_true j4
                have HBf : Hid (BldI ((w8.setCell ⟨M, 11, none⟩ (.slice (some ⟨g9, 0, none⟩) m c9)).setCell ⟨U, k, none⟩ (.bool false)) J ((w8.setCell ⟨M, 11, none⟩ (.slice (some ⟨g9, 0, none⟩) m c9)).setCell ⟨U, k, none⟩ (.bool false)).heap.size (.slice (some ⟨g9, 0, none⟩) m c9) nets) := Lib.hid (by
                  have h1 := HB8.out
                  rw [show m + 1 = (nets ++ [(k : Int)]).length from by rw [List.length_append, HM.out]; rfl] at h1
                  have h2 := BldI.exc (E := fun b => b = M ∨ b = U) (((Exc.refl _ w8).set M 11 (.slice (some ⟨g9, 0, none⟩) m c9) (fun _ => .inl rfl)).set U k (.bool false) (fun _ => .inr rfl)) (BldI.cut h1 HM.out) (fun q h1 h2 h3 => by rcases h3 with rfl | rfl <;> omega)
                  simpa using h2)
                have HUf := Lib.hid (UsedB.drop (UsedB.exc (E := fun b => b = M) ((Exc.refl _ w8).set M 11 (.slice (some ⟨g9, 0, none⟩) m c9) (fun _ => rfl)) HU8.out (fun (e : U = M) => hMU e.symm)) hlt HUC.out)
                have hXf : Exc (fun b => b = M ∨ b = U ∨ J ≤ b) w8 ((w8.setCell ⟨M, 11, none⟩ (.slice (some ⟨g9, 0, none⟩) m c9)).setCell ⟨U, k, none⟩ (.bool false)) := ((Exc.refl _ w8).set M 11 _ (fun _ => .inl rfl)).set U k _ (fun _ => .inr (.inl rfl))
                have HEf := Lib.hid (HE8.out.thn hXf (fun q hq h => by
                  rcases h with h | h | h
                  · exact .inl h
                  · exact .inr (.inl h)
                  · have := HC.out.hJ; omega))
                have HYf := Lib.hid (HC.out.hYs _ _ _ HY8.out HO8.out.1 hXf)
                have kMf := (kM8.set 11 (.slice (some ⟨g9, 0, none⟩) m c9)).apart U k (.bool false) hMU
                clear hXf HB8 HU8 HE8 HY8 hc1 hc2
                go_wp2
                exact ⟨⟨k + 1, .slice (some ⟨g9, 0, none⟩) m c9, by omega, by go_num, kMf, HBf, HUf, HEf, HYf, Lib.hid HO8.out.2⟩, by simp [intOf]; omega⟩
      · obtain rfl : n = k := by omega
        have i1 : ¬ (n : Int) < (n : Int) := by omega
        have hST : stopB one LL = false := by
          rw [← HS.out]
          unfold stopB
          cases hon : one with
          | false => rfl
          | true =>
            have := HO1.out hon
            rw [hon] at this
            rw [this]
            rfl
        have HST := Lib.hid hST
        clear hST
        go_wp2
        go_ret
        exact ⟨ret_bool (by rw [HST.out]; rfl), by rw [← HS.out]; exact HY.out, HE.out, fun _ => ⟨_, kM, HB.out, HU.out⟩⟩
theorem run_any (x y : Nl) (cx cy : List Int) (one : Bool) (n J M U NA NB lo hi gY : Nat) (A1 A2 B1 B2 C1 C2 D1 D2 DB : Value) (nb : Int) (lbY : Array Value) (Y : Nat → Prop) (Yd : List (List Int) → World → Prop) (wJ : World) (C : RunC x y cx cy one n J M U NA NB lo hi gY A1 A2 B1 B2 C1 C2 D1 D2 DB nb lbY Y Yd wJ) : ∀ r, RunOk x y cx cy one n J M U NA NB lo hi gY A1 A2 B1 B2 C1 C2 D1 D2 DB nb lbY Y Yd wJ r
  | 0 => run_step x y cx cy one n J M U NA NB lo hi gY A1 A2 B1 B2 C1 C2 D1 D2 DB nb lbY Y Yd wJ C 0 (fun q h => by omega)
  | r + 1 => run_step x y cx cy one n J M U NA NB lo hi gY A1 A2 B1 B2 C1 C2 D1 D2 DB nb lbY Y Yd wJ C (r + 1) (fun q h => by
    obtain rfl : r = q := by omega
    exact run_any x y cx cy one n J M U NA NB lo hi gY A1 A2 B1 B2 C1 C2 D1 D2 DB nb lbY Y Yd wJ C r)
end Go.Proofs.YtifbffianbgeaaaGreat
