/- Reducing again: the plain part (under way). -/
import Derived.Test.YtdljbmfmmlcmmaaRedMs
namespace Go.Proofs.Ytdljbmfmmlcmmaa
open Go.RowKit
set_option linter.unusedVariables false
set_option linter.unusedSimpArgs false

theorem parB_symm (x y : Dv) : parB x y = parB y x := by
  unfold parB
  rw [Bool.eq_iff_iff]
  simp only [Bool.and_eq_true, Bool.or_eq_true, decide_eq_true_eq]
  constructor
  · rintro ⟨h1, h2, h3, h4⟩
    refine ⟨h1.symm, ?_, ?_, ?_⟩
    · rcases h2 with h | h
      · exact .inl (by omega)
      · exact .inr h.symm
    · rcases h3 with h | h
      · exact .inl (by omega)
      · exact .inr h.symm
    · omega
  · rintro ⟨h1, h2, h3, h4⟩
    refine ⟨h1.symm, ?_, ?_, ?_⟩
    · rcases h2 with h | h
      · exact .inl (by omega)
      · exact .inr h.symm
    · rcases h3 with h | h
      · exact .inl (by omega)
      · exact .inr h.symm
    · omega
theorem preB_symm (x y : Dv) : preB x y = preB y x := by
  unfold preB
  rw [parB_symm x y, Bool.eq_iff_iff]
  simp only [Bool.and_eq_true, Bool.or_eq_true, decide_eq_true_eq, Bool.not_eq_true', decide_eq_false_iff_not]
  constructor
  · rintro ⟨h1, h2, h3, h4, h5⟩
    refine ⟨h1.symm, h2, h4, h3, ?_⟩
    rcases h5 with h | h
    · exact .inl (by omega)
    · exact .inr ⟨h.1.symm, h.2.symm⟩
  · rintro ⟨h1, h2, h3, h4, h5⟩
    refine ⟨h1.symm, h2, h4, h3, ?_⟩
    rcases h5 with h | h
    · exact .inl (by omega)
    · exact .inr ⟨h.1.symm, h.2.symm⟩
theorem comC_symm {p q r s : Int} (h1 : p ≠ q) (h2 : r ≠ s) : comC p q r s = comC r s p q := by
  unfold comC; (repeat' split) <;> omega
theorem comN_symm {p q r s : Int} (h1 : p ≠ q) (h2 : r ≠ s) (h : comC p q r s = 1) : comN p q r s = comN r s p q := by
  unfold comC at h; unfold comN; (repeat' split at h) <;> (repeat' split) <;> omega
theorem preB_ne {x y : Dv} (h : preB x y = true) : curP x.pins ≠ curQ x.pins ∧ curP y.pins ≠ curQ y.pins := by
  unfold preB at h
  simp only [Bool.and_eq_true, Bool.not_eq_true', decide_eq_false_iff_not] at h
  exact ⟨h.2.2.1, h.2.2.2.1⟩
theorem serB_symm (n : Nl) (x y : Dv) : serB n x y = serB n y x := by
  unfold serB
  rw [← preB_symm x y]
  cases h : preB x y with
  | false => rfl
  | true =>
    obtain ⟨h1, h2⟩ := preB_ne h
    have e : oneB x y = oneB y x := by unfold oneB; rw [comC_symm h1 h2]
    rw [← e]
    cases h3 : oneB x y with
    | false => rfl
    | true =>
      have hc := of_decide_eq_true (show decide (comC (curP x.pins) (curQ x.pins) (curP y.pins) (curQ y.pins) = 1) = true from h3)
      have e2 : serN x y = serN y x := comN_symm h1 h2 hc
      rw [e2]
/-- No pair. -/
def NoP (p : Dv → Dv → Bool) (ds : List Dv) : Prop := ds.Pairwise fun x y => p x y = false
theorem NoP.first {p : Dv → Dv → Bool} {ds : List Dv} (h : NoP p ds) : (firstP p ds).2.2 = false := by
  rw [firstP_miss (fun i j x y hij hx hy => ?_)]
  have hi := (List.getElem?_eq_some_iff.1 hx)
  have hj := (List.getElem?_eq_some_iff.1 hy)
  obtain ⟨hi, rfl⟩ := hi
  obtain ⟨hj, rfl⟩ := hj
  exact List.pairwise_iff_getElem.1 h i j hi hj hij
theorem NoP.perm {p : Dv → Dv → Bool} {ds es : List Dv} (hs : ∀ x y, p x y = p y x) (h : NoP p ds) (hp : ds.Perm es) : NoP p es :=
  hp.pairwise h (fun {x y} h => by rw [hs]; exact h)
theorem least_of (P : Nat → Prop) (h : ∃ i, P i) : ∃ i, P i ∧ ∀ i', i' < i → ¬ P i' := by
  obtain ⟨i, hi⟩ := h
  induction i using Nat.strongRecOn with
  | _ i ih =>
    by_cases h : ∃ i', i' < i ∧ P i'
    · obtain ⟨i', h1, h2⟩ := h
      exact ih i' h1 h2
    · exact ⟨i, hi, fun i' h1 h2 => h ⟨i', h1, h2⟩⟩
/-- A pair among the devices has a first one. -/
theorem hit_of (p : Dv → Dv → Bool) (ds : List Dv) (h : ¬ NoP p ds) : ∃ i j, Hit p ds i j := by
  classical
  have hex : ∃ (i j : Nat) (x y : Dv), i < j ∧ ds[i]? = some x ∧ ds[j]? = some y ∧ p x y = true := by
    apply Classical.byContradiction
    intro hn
    apply h
    refine List.pairwise_iff_getElem.2 (fun i j hi hj hij => ?_)
    cases e : p ds[i] ds[j] with
    | false => rfl
    | true => exact absurd ⟨i, j, _, _, hij, List.getElem?_eq_getElem hi, List.getElem?_eq_getElem hj, e⟩ hn
  obtain ⟨i, hi, hmin⟩ := least_of (fun i => ∃ (j : Nat) (x y : Dv), i < j ∧ ds[i]? = some x ∧ ds[j]? = some y ∧ p x y = true) hex
  obtain ⟨j, ⟨x, y, hij, hx, hy, hp⟩, hminj⟩ := least_of (fun j => ∃ (x y : Dv), i < j ∧ ds[i]? = some x ∧ ds[j]? = some y ∧ p x y = true) hi
  refine ⟨i, j, hij, ⟨x, y, hx, hy, hp⟩, fun i' j' x' y' hlt hij' hx' hy' => ?_⟩
  cases e : p x' y' with
  | false => rfl
  | true =>
    exfalso
    rcases hlt with hlt | ⟨rfl, hlt⟩
    · exact hmin i' hlt ⟨j', x', y', hij', hx', hy', e⟩
    · exact hminj j' hlt ⟨x', y', hij', hx', hy', e⟩
theorem NoP.of_first {p : Dv → Dv → Bool} {ds : List Dv} (h : (firstP p ds).2.2 = false) : NoP p ds := by
  apply Classical.byContradiction
  intro hn
  obtain ⟨i, j, hh⟩ := hit_of p ds hn
  rw [firstP_hit hh] at h
  cases h

/-- A device is another one with its nets renamed, its current pins perhaps exchanged. -/
def RelD (f : Int → Int) (x x' : Dv) : Prop :=
  x'.kind = x.kind ∧ x'.wd = x.wd ∧ x'.len = x.len ∧ (x.kind ≠ 2 → gateOf x'.pins = f (gateOf x.pins)) ∧
    ((curP x'.pins = f (curP x.pins) ∧ curQ x'.pins = f (curQ x.pins)) ∨ (curP x'.pins = f (curQ x.pins) ∧ curQ x'.pins = f (curP x.pins)))
/-- A device's nets lie in U. -/
def InU (U : Int → Prop) (x : Dv) : Prop := U (curP x.pins) ∧ U (curQ x.pins) ∧ (x.kind ≠ 2 → U (gateOf x.pins))
section
variable {f : Int → Int} {U : Int → Prop} (hf : ∀ a b, U a → U b → (f a = f b ↔ a = b))
include hf
theorem rel_sh {x x' : Dv} (h : RelD f x x') (hu : InU U x) : okD x' = okD x := by
  obtain ⟨_, _, _, _, h⟩ := h
  obtain ⟨u1, u2, _⟩ := hu
  have e := hf _ _ u1 u2
  unfold okD
  rcases h with ⟨h1, h2⟩ | ⟨h1, h2⟩
  · rw [h1, h2]; congr 1; exact decide_eq_decide.2 e
  · rw [h1, h2]; congr 1; exact decide_eq_decide.2 ⟨fun h => e.1 h.symm, fun h => (e.2 h).symm⟩
theorem rel_par {x x' y y' : Dv} (h : RelD f x x') (hu : InU U x) (h' : RelD f y y') (hu' : InU U y) : parB x' y' = parB x y := by
  obtain ⟨k1, w1, l1, g1, h⟩ := h
  obtain ⟨k2, w2, l2, g2, h'⟩ := h'
  obtain ⟨u1, u2, u3⟩ := hu
  obtain ⟨v1, v2, v3⟩ := hu'
  have e1 := hf _ _ u1 v1
  have e2 := hf _ _ u2 v2
  have e3 := hf _ _ u1 v2
  have e4 := hf _ _ u2 v1
  unfold parB
  rw [k1, k2, l1, l2, Bool.eq_iff_iff]
  simp only [Bool.and_eq_true, Bool.or_eq_true, decide_eq_true_eq]
  have hcur : (curP x'.pins = curP y'.pins ∧ curQ x'.pins = curQ y'.pins ∨ curP x'.pins = curQ y'.pins ∧ curQ x'.pins = curP y'.pins) ↔ (curP x.pins = curP y.pins ∧ curQ x.pins = curQ y.pins ∨ curP x.pins = curQ y.pins ∧ curQ x.pins = curP y.pins) := by
    rcases h with ⟨a, b⟩ | ⟨a, b⟩ <;> rcases h' with ⟨c, d⟩ | ⟨c, d⟩ <;> rw [a, b, c, d, e1, e2, e3, e4] <;> omega
  rw [hcur]
  constructor
  · rintro ⟨a, b, c⟩
    refine ⟨a, ?_, c⟩
    by_cases hk : x.kind = 2
    · exact .inl hk
    · rcases b with b | b
      · exact absurd b hk
      · rw [g1 hk, g2 (by omega)] at b
        exact .inr ((hf _ _ (u3 hk) (v3 (by omega))).1 b)
  · rintro ⟨a, b, c⟩
    refine ⟨a, ?_, c⟩
    by_cases hk : x.kind = 2
    · exact .inl hk
    · rcases b with b | b
      · exact absurd b hk
      · rw [g1 hk, g2 (by omega), b]
        exact .inr rfl
theorem rel_pre {x x' y y' : Dv} (h : RelD f x x') (hu : InU U x) (h' : RelD f y y') (hu' : InU U y) : preB x' y' = preB x y := by
  have hp := rel_par hf h hu h' hu'
  have s1 := rel_sh hf h hu
  have s2 := rel_sh hf h' hu'
  obtain ⟨k1, w1, l1, g1, _⟩ := h
  obtain ⟨k2, w2, l2, g2, _⟩ := h'
  obtain ⟨_, _, u3⟩ := hu
  obtain ⟨_, _, v3⟩ := hu'
  unfold okD at s1 s2
  unfold preB
  rw [k1, k2, w1, w2, hp, s1, s2, Bool.eq_iff_iff]
  simp only [Bool.and_eq_true, Bool.or_eq_true, decide_eq_true_eq]
  constructor
  · rintro ⟨a, b, c, d, e⟩
    refine ⟨a, b, c, d, ?_⟩
    by_cases hk : x.kind = 2
    · exact .inl hk
    · rcases e with e | ⟨e, e'⟩
      · exact .inl e
      · rw [g1 hk, g2 (by omega)] at e
        exact .inr ⟨(hf _ _ (u3 hk) (v3 (by omega))).1 e, e'⟩
  · rintro ⟨a, b, c, d, e⟩
    refine ⟨a, b, c, d, ?_⟩
    by_cases hk : x.kind = 2
    · exact .inl hk
    · rcases e with e | ⟨e, e'⟩
      · exact .inl e
      · rw [g1 hk, g2 (by omega), e]
        exact .inr ⟨rfl, e'⟩
theorem rel_one {x x' y y' : Dv} (h : RelD f x x') (hu : InU U x) (h' : RelD f y y') (hu' : InU U y) (hp : preB x y = true) : oneB x' y' = oneB x y ∧ (oneB x y = true → serN x' y' = f (serN x y)) := by
  obtain ⟨n1, n2⟩ := preB_ne hp
  obtain ⟨_, _, _, _, h⟩ := h
  obtain ⟨_, _, _, _, h'⟩ := h'
  obtain ⟨u1, u2, _⟩ := hu
  obtain ⟨v1, v2, _⟩ := hu'
  have e1 := hf _ _ u1 v1
  have e2 := hf _ _ u2 v2
  have e3 := hf _ _ u1 v2
  have e4 := hf _ _ u2 v1
  have hc : comC (curP x'.pins) (curQ x'.pins) (curP y'.pins) (curQ y'.pins) = comC (curP x.pins) (curQ x.pins) (curP y.pins) (curQ y.pins) := by
    rcases h with ⟨a, b⟩ | ⟨a, b⟩ <;> rcases h' with ⟨c, d⟩ | ⟨c, d⟩ <;> rw [a, b, c, d] <;> unfold comC <;> simp only [e1, e2, e3, e4] <;> ((repeat' split) <;> omega)
  refine ⟨by unfold oneB; rw [hc], fun ho => ?_⟩
  have ho := of_decide_eq_true (show decide (comC (curP x.pins) (curQ x.pins) (curP y.pins) (curQ y.pins) = 1) = true from ho)
  unfold serN comN
  unfold comC at ho
  rcases h with ⟨a, b⟩ | ⟨a, b⟩ <;> rcases h' with ⟨c, d⟩ | ⟨c, d⟩ <;> rw [a, b, c, d] <;> simp only [e1, e2, e3, e4] <;> ((repeat' split at ho) <;> (repeat' split) <;> first | rfl | omega)
end
end Go.Proofs.Ytdljbmfmmlcmmaa

/- Reducing again: a reduced netlist stays reduced under normal forms, order and compacting. Plain. -/
namespace Go.Proofs.Ytdljbmfmmlcmmaa
open Go.RowKit
set_option linter.unusedVariables false
set_option linter.unusedSimpArgs false

/-- Reduced: valid, nothing shorted, no pair. -/
def Red (x : Nl) : Prop := nlB x = true ∧ (∀ d ∈ x.ds, okD d = true) ∧ NoP parB x.ds ∧ NoP (serB x) x.ds
theorem serN_in {U : Int → Prop} {x y : Dv} (hu : InU U x) (ho : oneB x y = true) : U (serN x y) := by
  obtain ⟨u1, u2, _⟩ := hu
  have ho := of_decide_eq_true (show decide (comC (curP x.pins) (curQ x.pins) (curP y.pins) (curQ y.pins) = 1) = true from ho)
  unfold comC at ho
  unfold serN comN
  split
  · exact u2
  · split
    · exact u1
    · rename_i h1 h2
      rw [if_neg h1, if_neg h2] at ho
      omega
theorem NoP.map {p p' : Dv → Dv → Bool} {ds : List Dv} (g : Dv → Dv) (h : NoP p ds) (e : ∀ x ∈ ds, ∀ y ∈ ds, p' (g x) (g y) = p x y) : NoP p' (ds.map g) := by
  unfold NoP
  rw [List.pairwise_map]
  exact List.Pairwise.imp_of_mem (fun {a b} ha hb h => by rw [e a ha b hb]; exact h) h
theorem red_map {f : Int → Int} {U : Int → Prop} (hf : ∀ a b, U a → U b → (f a = f b ↔ a = b)) {x x' : Nl} (g : Dv → Dv) (hds : x'.ds = x.ds.map g) (hr : ∀ d ∈ x.ds, RelD f d (g d)) (hu : ∀ d ∈ x.ds, InU U d)
    (hn : ∀ net, U net → degN x'.ds (f net) = degN x.ds net ∧ portB x'.ps (f net) = portB x.ps net) (hv : nlB x' = true) (h : Red x) : Red x' := by
  obtain ⟨_, h1, h2, h3⟩ := h
  refine ⟨hv, ?_, ?_, ?_⟩
  · rw [hds]
    intro d hd
    obtain ⟨e, he, rfl⟩ := List.mem_map.1 hd
    rw [rel_sh hf (hr e he) (hu e he)]; exact h1 e he
  · rw [hds]
    exact h2.map g (fun a ha b hb => rel_par hf (hr a ha) (hu a ha) (hr b hb) (hu b hb))
  · rw [hds]
    refine h3.map g (fun a ha b hb => ?_)
    have hp := rel_pre hf (hr a ha) (hu a ha) (hr b hb) (hu b hb)
    unfold serB
    rw [hp]
    cases hpp : preB a b with
    | false => rfl
    | true =>
      obtain ⟨o1, o2⟩ := rel_one hf (hr a ha) (hu a ha) (hr b hb) (hu b hb) hpp
      rw [o1]
      cases ho : oneB a b with
      | false => rfl
      | true =>
        have hs := hn _ (serN_in (hu a ha) ho)
        rw [o2 ho]
        unfold useB
        rw [hs.1, hs.2]
theorem count_lastTwo (zs : List Int) (a : Int) : (lastTwo zs).count a = zs.count a := by
  match zs with
  | [] => rfl
  | [p] => rfl
  | [p, q] =>
    rcases Int.le_total p q with h | h
    · simp only [lastTwo, Int.min_eq_left h, Int.max_eq_right h]
    · simp only [lastTwo, Int.min_eq_right h, Int.max_eq_left h]
      exact (List.Perm.swap p q []).count_eq a
  | [g, p, q] =>
    rcases Int.le_total p q with h | h
    · simp only [lastTwo, Int.min_eq_left h, Int.max_eq_right h]
    · simp only [lastTwo, Int.min_eq_right h, Int.max_eq_left h]
      exact ((List.Perm.swap p q []).cons g).count_eq a
  | a :: b :: c :: d :: r => rfl
theorem count_normz (k : Int) (zs : List Int) (a : Int) : (normz k zs).count a = zs.count a := by
  unfold normz; split
  · exact count_lastTwo zs a
  · rfl
theorem degN_norm (ds : List Dv) (net : Int) : degN (ds.map normD) net = degN ds net := by
  induction ds with
  | nil => rfl
  | cons d ds ih =>
    simp only [List.map_cons, degN, ih]
    rw [show (normD d).pins = normz d.kind d.pins from rfl, count_normz]
theorem degN_perm {ds es : List Dv} (h : ds.Perm es) (net : Int) : degN ds net = degN es net := by
  induction h with
  | nil => rfl
  | cons x _ ih => simp only [degN, ih]
  | swap x y l => simp only [degN]; omega
  | trans _ _ h1 h2 => rw [h1, h2]
theorem count_inj (f : Int → Int) (zs : List Int) (a : Int) (h : ∀ b ∈ zs, f b = f a → b = a) : (zs.map f).count (f a) = zs.count a := by
  induction zs with
  | nil => rfl
  | cons z zs ih =>
    have ih := ih (fun b hb => h b (List.mem_cons_of_mem _ hb))
    rw [List.map_cons, List.count_cons, List.count_cons, ih]
    by_cases e : z = a
    · subst e; simp
    · have : ¬ f z = f a := fun h' => e (h z List.mem_cons_self h')
      simp [e, this]
theorem degN_ren (names : List Int) (ds : List Dv) (net : Int) (h : ∀ d ∈ ds, ∀ p ∈ d.pins, nmOf names p = nmOf names net → p = net) : degN (ds.map (renD names)) (nmOf names net) = degN ds net := by
  induction ds with
  | nil => rfl
  | cons d ds ih =>
    have ih := ih (fun e he => h e (List.mem_cons_of_mem _ he))
    have e := count_inj (nmOf names) d.pins net (h d List.mem_cons_self)
    simp only [List.map_cons, degN, ih]
    rw [show (renD names d).pins = d.pins.map (nmOf names) from rfl, e]
theorem portB_ren (names : List Int) (ps : List Pt) (net : Int) (h : ∀ p ∈ ps, nmOf names p.net = nmOf names net → p.net = net) : portB (ps.map (renP names)) (nmOf names net) = portB ps net := by
  rw [Bool.eq_iff_iff, portB_iff, portB_iff]
  constructor
  · rintro ⟨p, hp, e⟩
    obtain ⟨q, hq, rfl⟩ := List.mem_map.1 hp
    exact ⟨q, hq, h q hq e⟩
  · rintro ⟨p, hp, e⟩
    exact ⟨renP names p, List.mem_map_of_mem hp, by show nmOf names p.net = _; rw [e]⟩
theorem rel_norm {d : Dv} (h : Shp d) : RelD id d (normD d) := by
  unfold RelD normD
  refine ⟨rfl, rfl, rfl, ?_⟩
  rcases h with ⟨h2, p, q, hp⟩ | ⟨h2, g, p, q, hp⟩
  · simp only [hp, h2, normz_two, gateOf, curP, curQ, id]
    refine ⟨fun h => absurd rfl h, ?_⟩
    omega
  · simp only [hp, normz_three _ _ _ _ h2, gateOf, curP, curQ, id]
    refine ⟨fun _ => trivial, ?_⟩
    omega
theorem nl_shp {x : Nl} (h : nlB x = true) : ∀ d ∈ x.ds, Shp d := fun d hd => shp_of (nlB_dvs h d hd)
theorem red_nrm {x : Nl} (h : Red x) : Red (nrmS x) := by
  refine red_map (f := id) (U := fun _ => True) (fun a b _ _ => Iff.rfl) normD rfl (fun d hd => rel_norm (nl_shp h.1 d hd)) (fun d hd => ⟨trivial, trivial, fun _ => trivial⟩) (fun net _ => ⟨degN_norm _ _, rfl⟩) (nrmS_valid h.1) h
theorem red_sort {x : Nl} (h : Red x) : Red (sortS x) := by
  obtain ⟨h0, h1, h2, h3⟩ := h
  have hp := (srtD_perm x.ds).symm
  refine ⟨sortS_valid h0, fun d hd => h1 d (hp.mem_iff.2 hd), h2.perm parB_symm hp, ?_⟩
  have e : serB (sortS x) = serB x := by
    funext a b
    unfold serB useB
    rw [show degN (sortS x).ds (serN a b) = degN x.ds (serN a b) from (degN_perm hp _).symm]
    rfl
  rw [e]
  exact h3.perm (serB_symm x) hp
end Go.Proofs.Ytdljbmfmmlcmmaa

/- Reducing again: compacting keeps a netlist reduced, in normal form and in order, and compacting twice is compacting once. Plain. -/
namespace Go.Proofs.Ytdljbmfmmlcmmaa
open Go.RowKit
set_option linter.unusedVariables false
set_option linter.unusedSimpArgs false

/-- A net of x that something refers to. -/
def UsN (x : Nl) (net : Int) : Prop := 0 ≤ net ∧ net < x.nets ∧ usedB x net = true
def nms (x : Nl) : Int → Int := nmOf (nmC x x.nets.toNat)
theorem nms_lt {x : Nl} {a b : Int} (ha : UsN x a) (hb : UsN x b) (h : a < b) : nms x a < nms x b := by
  obtain ⟨a0, a1, a2⟩ := ha
  obtain ⟨b0, b1, b2⟩ := hb
  obtain ⟨p, rfl⟩ := Int.eq_ofNat_of_zero_le a0
  obtain ⟨q, rfl⟩ := Int.eq_ofNat_of_zero_le b0
  unfold nms
  rw [nmOf_nmC (by omega), nmOf_nmC (by omega)]
  have := cnt_lt (x := x) (a := p) (b := q) (by omega) a2
  omega
theorem nms_inj {x : Nl} (a b : Int) (ha : UsN x a) (hb : UsN x b) : nms x a = nms x b ↔ a = b := by
  constructor
  · intro h
    rcases Int.lt_trichotomy a b with h' | h' | h'
    · have := nms_lt ha hb h'; omega
    · exact h'
    · have := nms_lt hb ha h'; omega
  · rintro rfl; rfl
theorem pin_used {x : Nl} (h : nlB x = true) {d : Dv} (hd : d ∈ x.ds) {p : Int} (hp : p ∈ d.pins) : UsN x p := by
  obtain ⟨_, _, _, _, a5, _⟩ := dvB_all (nlB_dvs h d hd)
  have := inB_iff.1 (a5 p hp)
  exact ⟨this.1, by omega, usedB_iff.2 (.inl ⟨d, hd, hp⟩)⟩
theorem port_used {x : Nl} (h : nlB x = true) {p : Pt} (hp : p ∈ x.ps) : UsN x p.net := by
  obtain ⟨_, _, _, _, hpt⟩ := nlB_facts h
  obtain ⟨i, hi, e⟩ := List.getElem_of_mem hp
  have h1 := hpt i hi
  unfold ptOk at h1
  rw [List.getElem?_eq_getElem hi, e] at h1
  simp only [Bool.and_eq_true] at h1
  have h2 := inB_iff.1 h1.2.1
  exact ⟨h2.1, by omega, usedB_iff.2 (.inr ⟨p, hp, rfl⟩)⟩
theorem shp_in {U : Int → Prop} {d : Dv} (hs : Shp d) (h : ∀ p ∈ d.pins, U p) : InU U d := by
  rcases hs with ⟨h2, p, q, hp⟩ | ⟨h2, g, p, q, hp⟩ <;> rw [hp] at h
  · refine ⟨?_, ?_, fun hk => absurd h2 hk⟩ <;> rw [hp] <;> simp only [curP, curQ] <;> apply h <;> simp
  · refine ⟨?_, ?_, fun hk => ?_⟩ <;> rw [hp] <;> simp only [curP, curQ, gateOf] <;> apply h <;> simp
theorem rel_ren {names : List Int} {d : Dv} (hs : Shp d) : RelD (nmOf names) d (renD names d) := by
  unfold RelD renD
  refine ⟨rfl, rfl, rfl, ?_⟩
  rcases hs with ⟨h2, p, q, hp⟩ | ⟨h2, g, p, q, hp⟩
  · simp only [hp, List.map_cons, List.map_nil, gateOf, curP, curQ]
    exact ⟨fun h => absurd h2 h, .inl ⟨trivial, trivial⟩⟩
  · simp only [hp, List.map_cons, List.map_nil, gateOf, curP, curQ]
    exact ⟨fun _ => trivial, .inl ⟨trivial, trivial⟩⟩
theorem red_cm {x : Nl} (h : Red x) : Red (cmS x) := by
  have hv := h.1
  refine red_map (f := nms x) (U := UsN x) nms_inj (renD (nmC x x.nets.toNat)) (by rw [cmS_yes hv]; rfl) (fun d hd => rel_ren (nl_shp hv d hd)) (fun d hd => shp_in (nl_shp hv d hd) (fun p hp => pin_used hv hd hp)) (fun net hn => ?_) (cmS_valid hv) h
  rw [cmS_yes hv]
  exact ⟨degN_ren _ _ _ (fun d hd p hp e => (nms_inj p net (pin_used hv hd hp) hn).1 e), portB_ren _ _ _ (fun p hp e => (nms_inj p.net net (port_used hv hp) hn).1 e)⟩

/-- Every device in normal form. -/
def Nrm (x : Nl) : Prop := ∀ d ∈ x.ds, normD d = d
theorem dv_ext {a b : Dv} (h1 : a.kind = b.kind) (h2 : a.pins = b.pins) (h3 : a.wd = b.wd) (h4 : a.len = b.len) : a = b := by
  cases a; cases b; simp at *; exact ⟨h1, h2, h3, h4⟩
theorem norm_iff {d : Dv} (h : Shp d) : normD d = d ↔ curP d.pins ≤ curQ d.pins := by
  rcases h with ⟨h2, p, q, hp⟩ | ⟨h2, g, p, q, hp⟩
  · have e : normD d = d ↔ [min p q, max p q] = [p, q] := by
      constructor
      · intro e; have := congrArg Dv.pins e; simp only [normD, hp, h2, normz_two] at this; exact this
      · intro e; exact dv_ext rfl (by simp only [normD, hp, h2, normz_two]; exact e) rfl rfl
    rw [e, hp]
    simp only [curP, curQ, List.cons.injEq, and_true]
    omega
  · have e : normD d = d ↔ [g, min p q, max p q] = [g, p, q] := by
      constructor
      · intro e; have := congrArg Dv.pins e; simp only [normD, hp, normz_three _ _ _ _ h2] at this; exact this
      · intro e; exact dv_ext rfl (by simp only [normD, hp, normz_three _ _ _ _ h2]; exact e) rfl rfl
    rw [e, hp]
    simp only [curP, curQ, List.cons.injEq, and_true, true_and]
    omega
theorem shp_norm {d : Dv} (h : Shp d) : Shp (normD d) ∧ curP (normD d).pins ≤ curQ (normD d).pins := by
  rcases h with ⟨h2, p, q, hp⟩ | ⟨h2, g, p, q, hp⟩
  · have e : (normD d).pins = [min p q, max p q] := by simp only [normD, hp, h2, normz_two]
    refine ⟨.inl ⟨h2, _, _, e⟩, ?_⟩
    rw [e]; simp only [curP, curQ]; omega
  · have e : (normD d).pins = [g, min p q, max p q] := by simp only [normD, hp, normz_three _ _ _ _ h2]
    refine ⟨.inr ⟨h2, _, _, _, e⟩, ?_⟩
    rw [e]; simp only [curP, curQ]; omega
theorem nrm_nrm {x : Nl} (h : nlB x = true) : Nrm (nrmS x) := by
  intro d hd
  obtain ⟨e, he, rfl⟩ := List.mem_map.1 hd
  obtain ⟨s1, s2⟩ := shp_norm (nl_shp h e he)
  exact (norm_iff s1).2 s2
theorem nrm_sort {x : Nl} (h : Nrm x) : Nrm (sortS x) := fun d hd => h d ((srtD_perm x.ds).mem_iff.1 hd)
theorem nms_le {x : Nl} {a b : Int} (ha : UsN x a) (hb : UsN x b) (h : a ≤ b) : nms x a ≤ nms x b := by
  rcases Int.lt_or_eq_of_le h with h' | rfl
  · exact Int.le_of_lt (nms_lt ha hb h')
  · exact Int.le_refl _
theorem nrm_cm {x : Nl} (hv : nlB x = true) (h : Nrm x) : Nrm (cmS x) := by
  intro d hd
  refine (norm_iff (nl_shp (cmS_valid hv) d hd)).2 ?_
  rw [cmS_yes hv] at hd
  obtain ⟨e, he, rfl⟩ := List.mem_map.1 hd
  have hs := nl_shp hv e he
  have h1 := (norm_iff hs).1 (h e he)
  obtain ⟨u1, u2, _⟩ := shp_in hs (fun p hp => pin_used hv he hp)
  have h2 := nms_le u1 u2 h1
  rcases hs with ⟨_, p, q, hp⟩ | ⟨_, g, p, q, hp⟩
  · rw [hp] at h2; simp only [renD, hp, List.map_cons, List.map_nil, curP, curQ] at h2 ⊢; exact h2
  · rw [hp] at h2; simp only [renD, hp, List.map_cons, List.map_nil, curP, curQ] at h2 ⊢; exact h2
/-- In order. -/
def Ord (x : Nl) : Prop := x.ds.Pairwise fun a b => dlt b a = false
theorem ord_sort (x : Nl) : Ord (sortS x) := srtD_pairwise x.ds
theorem sgn_mono {x : Nl} {a b : Int} (ha : UsN x a) (hb : UsN x b) : sgn (nms x a) (nms x b) = sgn a b := by
  unfold sgn
  rcases Int.lt_trichotomy a b with h' | h' | h'
  · have := nms_lt ha hb h'; (repeat' split) <;> omega
  · subst h'; (repeat' split) <;> omega
  · have := nms_lt hb ha h'; (repeat' split) <;> omega
theorem lcmp_map (f : Int → Int) : ∀ (xs ys : List Int), (∀ a ∈ xs, ∀ b ∈ ys, sgn (f a) (f b) = sgn a b) → lcmp (xs.map f) (ys.map f) = lcmp xs ys
  | [], [], _ => rfl
  | [], _ :: _, _ => rfl
  | _ :: _, [], _ => rfl
  | a :: r, b :: s, h => by
    have ih := lcmp_map f r s (fun x hx y hy => h x (List.mem_cons_of_mem _ hx) y (List.mem_cons_of_mem _ hy))
    have e := h a List.mem_cons_self b List.mem_cons_self
    simp only [List.map_cons, lcmp, e, ih]
theorem ord_cm {x : Nl} (hv : nlB x = true) (h : Ord x) : Ord (cmS x) := by
  unfold Ord
  rw [cmS_yes hv]
  show ((x.ds.map (renD (nmC x x.nets.toNat))).Pairwise _)
  rw [List.pairwise_map]
  refine List.Pairwise.imp_of_mem (fun {a b} ha hb h => ?_) h
  have e : dcf (renD (nmC x x.nets.toNat) b) (renD (nmC x x.nets.toNat) a) = dcf b a := by
    unfold dcf devcmp
    rw [show lcmp (renD (nmC x x.nets.toNat) b).pins (renD (nmC x x.nets.toNat) a).pins = lcmp b.pins a.pins from lcmp_map (nms x) _ _ (fun p hp q hq => sgn_mono (pin_used hv hb hp) (pin_used hv ha hq))]
    rfl
  unfold dlt at h ⊢
  rw [e]; exact h
/-- Every net is used. -/
def Full (x : Nl) : Prop := ∀ net : Int, 0 ≤ net → net < x.nets → usedB x net = true
theorem full_cm {x : Nl} (hv : nlB x = true) : Full (cmS x) := fun net h0 h1 => cmS_used hv h0 h1
theorem cnt_full {x : Nl} (hf : Full x) : ∀ k : Nat, (k : Int) ≤ x.nets → cnt x k = k
  | 0, _ => rfl
  | k + 1, h => by
    rw [cnt_succ, cnt_full hf k (by omega), if_pos (hf k (by omega) (by omega))]
theorem map_id_of {α : Type} (f : α → α) (xs : List α) (h : ∀ x ∈ xs, f x = x) : xs.map f = xs := by
  induction xs with
  | nil => rfl
  | cons x xs ih => rw [List.map_cons, h x List.mem_cons_self, ih (fun y hy => h y (List.mem_cons_of_mem _ hy))]
theorem cm_full {x : Nl} (hv : nlB x = true) (hf : Full x) : cmS x = x := by
  have n0 := (nlB_facts hv).1.1
  have hn : ∀ p, UsN x p → nmOf (nmC x x.nets.toNat) p = p := by
    rintro p ⟨h0, h1, _⟩
    obtain ⟨q, rfl⟩ := Int.eq_ofNat_of_zero_le h0
    rw [nmOf_nmC (by omega), cnt_full hf q (by omega)]
  rw [cmS_yes hv]
  unfold renS
  have e1 : x.ds.map (renD (nmC x x.nets.toNat)) = x.ds := map_id_of _ _ (fun d hd => dv_ext rfl (map_id_of _ _ (fun p hp => hn p (pin_used hv hd hp))) rfl rfl)
  have e2 : x.ps.map (renP (nmC x x.nets.toNat)) = x.ps := map_id_of _ _ (fun p hp => by
    show (⟨p.name, nmOf _ p.net⟩ : Pt) = p
    rw [hn _ (port_used hv hp)])
  rw [e1, e2, cnt_full hf _ (by omega)]
  cases x
  simp only at n0 ⊢
  congr 1
  omega
end Go.Proofs.Ytdljbmfmmlcmmaa

/- Reducing again: the reduction of a netlist is reduced, and reducing it again changes nothing. Plain. -/
namespace Go.Proofs.Ytdljbmfmmlcmmaa
open Go.RowKit
set_option linter.unusedVariables false
set_option linter.unusedSimpArgs false

theorem mgC_not1 {x : Nl} (h : nlB x = true) (i j : Int) : mgC x i j ≠ 1 := by
  unfold mgC
  rw [if_neg (by rw [h]; simp)]
  split
  · split
    · unfold mgE
      (repeat' split) <;> decide
    · decide
  · decide
theorem nextP_none {x : Nl} (h : (nextP x).2.2 = false) : (firstP parB x.ds).2.2 = false ∧ (firstP (serB x) x.ds).2.2 = false := by
  unfold nextP at h
  cases h1 : (firstP parB x.ds).2.2 with
  | true => rw [if_pos h1] at h; rw [h] at h1; cases h1
  | false => rw [if_neg (by rw [h1]; simp)] at h; exact ⟨rfl, h⟩
theorem nextP_miss {x : Nl} (h : Red x) : (nextP x).2.2 = false := by
  unfold nextP
  rw [h.2.2.1.first, if_neg (by simp), h.2.2.2.first]
theorem rmS_red {x : Nl} (h : Red x) : rmS x = x := by
  rw [rmS_yes h.1]
  have e : x.ds.filter okD = x.ds := List.filter_eq_self.2 h.2.1
  rw [e]
theorem red_stop {x : Nl} (hv : nlB x = true) (h : (nextP (rmS x)).2.2 = false) : Red (rmS x) := by
  obtain ⟨h1, h2⟩ := nextP_none h
  refine ⟨rmS_valid hv, fun d hd => ?_, .of_first h1, .of_first h2⟩
  rw [rmS_yes hv] at hd
  exact (List.mem_filter.1 hd).2
/-- What the reduction's loop leaves. -/
theorem redF_red : ∀ (n : Nat) (x : Nl), x.ds.length ≤ n → nlB x = true → ((redF x).2 = 0 → Red (redF x).1 ∧ (redF x).1.ps = x.ps ∧ (redF x).1.ds.length ≤ x.ds.length) ∧ (redF x).2 ≠ 1
  | n, x, hn, hv => by
    cases h : (nextP (rmS x)).2.2 with
    | false =>
      rw [redF_stop h]
      exact ⟨fun _ => ⟨red_stop hv h, (rmS_same hv).2, rmS_len x⟩, by simp⟩
    | true =>
      by_cases hc : mgC (rmS x) (nextP (rmS x)).1 (nextP (rmS x)).2.1 = 0
      · rw [redF_go h hc]
        obtain ⟨f1, _, f3, f4⟩ := mgR_facts hc
        have hl := rmS_len x
        match n, hn with
        | 0, hn => omega
        | n + 1, hn =>
          obtain ⟨g1, g2⟩ := redF_red n _ (by omega) f1
          refine ⟨fun e => ?_, g2⟩
          obtain ⟨k1, k2, k3⟩ := g1 e
          exact ⟨k1, by rw [k2, f3, (rmS_same hv).2], by omega⟩
      · rw [redF_err h hc]
        exact ⟨fun e => absurd e hc, mgC_not1 (rmS_valid hv) _ _⟩
/-- Fully reduced: reduced, in normal form, in order, each net used. -/
def Done (x : Nl) : Prop := Red x ∧ Nrm x ∧ Ord x ∧ Full x
theorem done_rd {y : Nl} (h : Red y) : Done (cmS (sortS (nrmS y))) := by
  have h1 := red_nrm h
  have h2 := red_sort h1
  exact ⟨red_cm h2, nrm_cm h2.1 (nrm_sort (nrm_nrm h.1)), ord_cm h2.1 (ord_sort _), full_cm h2.1⟩
theorem done_fix {z : Nl} (h : Done z) : rdS z = z ∧ rdC z = 0 := by
  obtain ⟨hr, hn, ho, hf⟩ := h
  have e1 := rmS_red hr
  have e2 : redF z = (z, 0) := by
    have := redF_stop (x := z) (by rw [e1]; exact nextP_miss hr)
    rw [this, e1]
  obtain ⟨r1, r2⟩ := rd_yes hr.1 e2
  refine ⟨?_, r2⟩
  have e3 : nrmS z = z := by
    unfold nrmS
    rw [map_id_of _ _ hn]
  have e4 : sortS z = z := by
    unfold sortS
    rw [← srtD_of (List.Perm.refl z.ds) ho]
  rw [r1, e3, e4, cm_full hr.1 hf]
/-- The law, plain. -/
theorem rd_again {x : Nl} (hv : nlB x = true) (h : rdC x = 0) : Done (rdS x) ∧ rdS (rdS x) = rdS x ∧ rdC (rdS x) = 0 ∧ (rdS x).ps.map Pt.name = x.ps.map Pt.name ∧ (rdS x).ds.length ≤ x.ds.length := by
  have h' : (redF x).2 = 0 := by simpa [rdC, hv] using h
  obtain ⟨g1, _⟩ := redF_red _ x (Nat.le_refl _) hv
  obtain ⟨k1, k2, k3⟩ := g1 h'
  have e : redF x = ((redF x).1, 0) := by rw [← h']
  obtain ⟨r1, _⟩ := rd_yes hv e
  have hd := done_rd k1
  have hv2 : nlB (sortS (nrmS (redF x).1)) = true := (red_sort (red_nrm k1)).1
  obtain ⟨f1, f2⟩ := done_fix hd
  rw [r1]
  refine ⟨hd, f1, f2, ?_, ?_⟩
  · rw [cmS_yes hv2, ← k2]
    show ((redF x).1.ps.map (renP _)).map Pt.name = _
    rw [List.map_map]
    rfl
  · rw [(cmS_sizes hv2).1]
    show (srtD ((redF x).1.ds.map normD)).length ≤ _
    rw [length_srtD, List.length_map]
    exact k3
theorem rd_bad {x : Nl} (h : rdC x ≠ 0) : (rdS x).nets = 0 ∧ (rdC x = 1 ↔ nlB x = false) := by
  cases hv : nlB x with
  | false => obtain ⟨a, b⟩ := rd_no hv; rw [a, b]; simp
  | true =>
    have h' : (redF x).2 ≠ 0 := by simpa [rdC, hv] using h
    obtain ⟨a, b⟩ := rd_err hv h'
    have := (redF_red _ x (Nat.le_refl _) hv).2
    rw [a, b]
    simp [this]
end Go.Proofs.Ytdljbmfmmlcmmaa
