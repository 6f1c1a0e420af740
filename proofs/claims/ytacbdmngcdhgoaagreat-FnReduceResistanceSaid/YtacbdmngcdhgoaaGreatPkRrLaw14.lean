/- Contracts and plain laws, part 14, for the statement's proof. -/
import Derived.Test.YtacbdmngcdhgoaaGreatPkRrLaw13
import Derived.Deep.RegionWith
import Derived.BigRegion
import Derived.Deep.LoopGhost
import Derived.Deep.DeepCutAuto
import Derived.Deep.RegionHeldLaw
import Derived.Test.YtacbdmngcdhgoaaGreatRows
import Derived.WalkKit
import Derived.ProofKit
import Derived.OpenShut
namespace Go.Proofs.YtacbdmngcdhgoaaGreat
open Go.RowKit
set_option linter.unusedVariables false
set_option linter.unusedSimpArgs false
theorem parB_symm (x y : Dv) : parB x y = parB y x := by
  unfold parB
  rw [Bool.eq_iff_iff]
  simp only [Bool.and_eq_true, Bool.or_eq_true, decide_eq_true_eq]
  constructor
  · rintro ⟨h1, h2, h3, h4⟩
    refine ⟨h1.symm, ?_, ?_, ?_⟩
    · rcases h2 with h | h
      · exact .inl (by omega)
      · exact .inr h.symm
    · rcases h3 with h | h
      · exact .inl (by omega)
      · exact .inr h.symm
    · omega
  · rintro ⟨h1, h2, h3, h4⟩
    refine ⟨h1.symm, ?_, ?_, ?_⟩
    · rcases h2 with h | h
      · exact .inl (by omega)
      · exact .inr h.symm
    · rcases h3 with h | h
      · exact .inl (by omega)
      · exact .inr h.symm
    · omega
theorem serPre_symm (x y : Dv) : serPre x y = serPre y x := by
  unfold serPre
  rw [parB_symm x y, Bool.eq_iff_iff]
  simp only [Bool.and_eq_true, Bool.or_eq_true, decide_eq_true_eq, Bool.not_eq_true', decide_eq_false_iff_not]
  constructor
  · rintro ⟨h1, h2, h3, h4, h5⟩
    refine ⟨h1.symm, h2, h4, h3, ?_⟩
    rcases h5 with h | h
    · exact .inl (by omega)
    · exact .inr ⟨h.1.symm, h.2.symm⟩
  · rintro ⟨h1, h2, h3, h4, h5⟩
    refine ⟨h1.symm, h2, h4, h3, ?_⟩
    rcases h5 with h | h
    · exact .inl (by omega)
    · exact .inr ⟨h.1.symm, h.2.symm⟩
theorem comC_symm {p q r s : Int} (h1 : p ≠ q) (h2 : r ≠ s) : comC p q r s = comC r s p q := by
  unfold comC; (repeat' split) <;> omega
theorem comN_symm {p q r s : Int} (h1 : p ≠ q) (h2 : r ≠ s) (h : comC p q r s = 1) : comN p q r s = comN r s p q := by
  unfold comC at h; unfold comN; (repeat' split at h) <;> (repeat' split) <;> omega
theorem serPre_ne {x y : Dv} (h : serPre x y = true) : curP x.pins ≠ curQ x.pins ∧ curP y.pins ≠ curQ y.pins := by
  unfold serPre at h
  simp only [Bool.and_eq_true, Bool.not_eq_true', decide_eq_false_iff_not] at h
  exact ⟨h.2.2.1, h.2.2.2.1⟩
theorem serB_symm (n : Nl) (x y : Dv) : serB n x y = serB n y x := by
  unfold serB
  rw [← serPre_symm x y]
  cases h : serPre x y with
  | false => rfl
  | true =>
    obtain ⟨h1, h2⟩ := serPre_ne h
    have e : oneB x y = oneB y x := by unfold oneB; rw [comC_symm h1 h2]
    rw [← e]
    cases h3 : oneB x y with
    | false => rfl
    | true =>
      have hc := of_decide_eq_true (show decide (comC (curP x.pins) (curQ x.pins) (curP y.pins) (curQ y.pins) = 1) = true from h3)
      have e2 : serN x y = serN y x := comN_symm h1 h2 hc
      rw [e2]
def NoP (p : Dv → Dv → Bool) (ds : List Dv) : Prop := ds.Pairwise fun x y => p x y = false
theorem NoP.first {p : Dv → Dv → Bool} {ds : List Dv} (h : NoP p ds) : (firstP p ds).2.2 = false := by
  rw [firstP_miss (fun i j x y hij hx hy => ?_)]
  have hi := (List.getElem?_eq_some_iff.1 hx)
  have hj := (List.getElem?_eq_some_iff.1 hy)
  obtain ⟨hi, rfl⟩ := hi
  obtain ⟨hj, rfl⟩ := hj
  exact List.pairwise_iff_getElem.1 h i j hi hj hij
theorem NoP.perm {p : Dv → Dv → Bool} {ds es : List Dv} (hs : ∀ x y, p x y = p y x) (h : NoP p ds) (hp : ds.Perm es) : NoP p es :=
  hp.pairwise h (fun {x y} h => by rw [hs]; exact h)
theorem least_of (P : Nat → Prop) (h : ∃ i, P i) : ∃ i, P i ∧ ∀ i', i' < i → ¬ P i' := by
  obtain ⟨i, hi⟩ := h
  induction i using Nat.strongRecOn with
  | _ i ih =>
    by_cases h : ∃ i', i' < i ∧ P i'
    · obtain ⟨i', h1, h2⟩ := h
      exact ih i' h1 h2
    · exact ⟨i, hi, fun i' h1 h2 => h ⟨i', h1, h2⟩⟩
theorem hit_of (p : Dv → Dv → Bool) (ds : List Dv) (h : ¬ NoP p ds) : ∃ i j, Hit p ds i j := by
  classical
  have hex : ∃ (i j : Nat) (x y : Dv), i < j ∧ ds[i]? = some x ∧ ds[j]? = some y ∧ p x y = true := by
    apply Classical.byContradiction
    intro hn
    apply h
    refine List.pairwise_iff_getElem.2 (fun i j hi hj hij => ?_)
    cases e : p ds[i] ds[j] with
    | false => rfl
    | true => exact absurd ⟨i, j, _, _, hij, List.getElem?_eq_getElem hi, List.getElem?_eq_getElem hj, e⟩ hn
  obtain ⟨i, hi, hmin⟩ := least_of (fun i => ∃ (j : Nat) (x y : Dv), i < j ∧ ds[i]? = some x ∧ ds[j]? = some y ∧ p x y = true) hex
  obtain ⟨j, ⟨x, y, hij, hx, hy, hp⟩, hminj⟩ := least_of (fun j => ∃ (x y : Dv), i < j ∧ ds[i]? = some x ∧ ds[j]? = some y ∧ p x y = true) hi
  refine ⟨i, j, hij, ⟨x, y, hx, hy, hp⟩, fun i' j' x' y' hlt hij' hx' hy' => ?_⟩
  cases e : p x' y' with
  | false => rfl
  | true =>
    exfalso
    rcases hlt with hlt | ⟨rfl, hlt⟩
    · exact hmin i' hlt ⟨j', x', y', hij', hx', hy', e⟩
    · exact hminj j' hlt ⟨x', y', hij', hx', hy', e⟩
theorem NoP.of_first {p : Dv → Dv → Bool} {ds : List Dv} (h : (firstP p ds).2.2 = false) : NoP p ds := by
  apply Classical.byContradiction
  intro hn
  obtain ⟨i, j, hh⟩ := hit_of p ds hn
  rw [firstP_hit hh] at h
  cases h
def RelD (f : Int → Int) (x x' : Dv) : Prop :=
  x'.kind = x.kind ∧ x'.wd = x.wd ∧ x'.len = x.len ∧ (x.kind ≠ 2 → gateOf x'.pins = f (gateOf x.pins)) ∧
    ((curP x'.pins = f (curP x.pins) ∧ curQ x'.pins = f (curQ x.pins)) ∨ (curP x'.pins = f (curQ x.pins) ∧ curQ x'.pins = f (curP x.pins)))
def InU (U : Int → Prop) (x : Dv) : Prop := U (curP x.pins) ∧ U (curQ x.pins) ∧ (x.kind ≠ 2 → U (gateOf x.pins))
section
variable {f : Int → Int} {U : Int → Prop} (hf : ∀ a b, U a → U b → (f a = f b ↔ a = b))
include hf
theorem rel_sh {x x' : Dv} (h : RelD f x x') (hu : InU U x) : okD x' = okD x := by
  obtain ⟨_, _, _, _, h⟩ := h
  obtain ⟨u1, u2, _⟩ := hu
  have e := hf _ _ u1 u2
  unfold okD
  rcases h with ⟨h1, h2⟩ | ⟨h1, h2⟩
  · rw [h1, h2]; congr 1; exact decide_eq_decide.2 e
  · rw [h1, h2]; congr 1; exact decide_eq_decide.2 ⟨fun h => e.1 h.symm, fun h => (e.2 h).symm⟩
theorem rel_par {x x' y y' : Dv} (h : RelD f x x') (hu : InU U x) (h' : RelD f y y') (hu' : InU U y) : parB x' y' = parB x y := by
  obtain ⟨k1, w1, l1, g1, h⟩ := h
  obtain ⟨k2, w2, l2, g2, h'⟩ := h'
  obtain ⟨u1, u2, u3⟩ := hu
  obtain ⟨v1, v2, v3⟩ := hu'
  have e1 := hf _ _ u1 v1
  have e2 := hf _ _ u2 v2
  have e3 := hf _ _ u1 v2
  have e4 := hf _ _ u2 v1
  unfold parB
  rw [k1, k2, l1, l2, Bool.eq_iff_iff]
  simp only [Bool.and_eq_true, Bool.or_eq_true, decide_eq_true_eq]
  have hcur : (curP x'.pins = curP y'.pins ∧ curQ x'.pins = curQ y'.pins ∨ curP x'.pins = curQ y'.pins ∧ curQ x'.pins = curP y'.pins) ↔ (curP x.pins = curP y.pins ∧ curQ x.pins = curQ y.pins ∨ curP x.pins = curQ y.pins ∧ curQ x.pins = curP y.pins) := by
    rcases h with ⟨a, b⟩ | ⟨a, b⟩ <;> rcases h' with ⟨c, d⟩ | ⟨c, d⟩ <;> rw [a, b, c, d, e1, e2, e3, e4] <;> omega
  rw [hcur]
  constructor
  · rintro ⟨a, b, c⟩
    refine ⟨a, ?_, c⟩
    by_cases hk : x.kind = 2
    · exact .inl hk
    · rcases b with b | b
      · exact absurd b hk
      · rw [g1 hk, g2 (by omega)] at b
        exact .inr ((hf _ _ (u3 hk) (v3 (by omega))).1 b)
  · rintro ⟨a, b, c⟩
    refine ⟨a, ?_, c⟩
    by_cases hk : x.kind = 2
    · exact .inl hk
    · rcases b with b | b
      · exact absurd b hk
      · rw [g1 hk, g2 (by omega), b]
        exact .inr rfl
theorem rel_pre {x x' y y' : Dv} (h : RelD f x x') (hu : InU U x) (h' : RelD f y y') (hu' : InU U y) : serPre x' y' = serPre x y := by
  have hp := rel_par hf h hu h' hu'
  have s1 := rel_sh hf h hu
  have s2 := rel_sh hf h' hu'
  obtain ⟨k1, w1, l1, g1, _⟩ := h
  obtain ⟨k2, w2, l2, g2, _⟩ := h'
  obtain ⟨_, _, u3⟩ := hu
  obtain ⟨_, _, v3⟩ := hu'
  unfold okD at s1 s2
  unfold serPre
  rw [k1, k2, w1, w2, hp, s1, s2, Bool.eq_iff_iff]
  simp only [Bool.and_eq_true, Bool.or_eq_true, decide_eq_true_eq]
  constructor
  · rintro ⟨a, b, c, d, e⟩
    refine ⟨a, b, c, d, ?_⟩
    by_cases hk : x.kind = 2
    · exact .inl hk
    · rcases e with e | ⟨e, e'⟩
      · exact .inl e
      · rw [g1 hk, g2 (by omega)] at e
        exact .inr ⟨(hf _ _ (u3 hk) (v3 (by omega))).1 e, e'⟩
  · rintro ⟨a, b, c, d, e⟩
    refine ⟨a, b, c, d, ?_⟩
    by_cases hk : x.kind = 2
    · exact .inl hk
    · rcases e with e | ⟨e, e'⟩
      · exact .inl e
      · rw [g1 hk, g2 (by omega), e]
        exact .inr ⟨rfl, e'⟩
theorem rel_one {x x' y y' : Dv} (h : RelD f x x') (hu : InU U x) (h' : RelD f y y') (hu' : InU U y) (hp : serPre x y = true) : oneB x' y' = oneB x y ∧ (oneB x y = true → serN x' y' = f (serN x y)) := by
  obtain ⟨n1, n2⟩ := serPre_ne hp
  obtain ⟨_, _, _, _, h⟩ := h
  obtain ⟨_, _, _, _, h'⟩ := h'
  obtain ⟨u1, u2, _⟩ := hu
  obtain ⟨v1, v2, _⟩ := hu'
  have e1 := hf _ _ u1 v1
  have e2 := hf _ _ u2 v2
  have e3 := hf _ _ u1 v2
  have e4 := hf _ _ u2 v1
  have hc : comC (curP x'.pins) (curQ x'.pins) (curP y'.pins) (curQ y'.pins) = comC (curP x.pins) (curQ x.pins) (curP y.pins) (curQ y.pins) := by
    rcases h with ⟨a, b⟩ | ⟨a, b⟩ <;> rcases h' with ⟨c, d⟩ | ⟨c, d⟩ <;> rw [a, b, c, d] <;> unfold comC <;> simp only [e1, e2, e3, e4] <;> ((repeat' split) <;> omega)
  refine ⟨by unfold oneB; rw [hc], fun ho => ?_⟩
  have ho := of_decide_eq_true (show decide (comC (curP x.pins) (curQ x.pins) (curP y.pins) (curQ y.pins) = 1) = true from ho)
  unfold serN comN
  unfold comC at ho
  rcases h with ⟨a, b⟩ | ⟨a, b⟩ <;> rcases h' with ⟨c, d⟩ | ⟨c, d⟩ <;> rw [a, b, c, d] <;> simp only [e1, e2, e3, e4] <;> ((repeat' split at ho) <;> (repeat' split) <;> first | rfl | omega)
end
/- Reducing again: a reduced netlist stays reduced under normal forms, order and compacting. Plain. -/
def Red (x : Nl) : Prop := nlB x = true ∧ (∀ d ∈ x.ds, okD d = true) ∧ NoP parB x.ds ∧ NoP (serB x) x.ds
theorem serN_in {U : Int → Prop} {x y : Dv} (hu : InU U x) (ho : oneB x y = true) : U (serN x y) := by
  obtain ⟨u1, u2, _⟩ := hu
  have ho := of_decide_eq_true (show decide (comC (curP x.pins) (curQ x.pins) (curP y.pins) (curQ y.pins) = 1) = true from ho)
  unfold comC at ho
  unfold serN comN
  split
  · exact u2
  · split
    · exact u1
    · rename_i h1 h2
      rw [if_neg h1, if_neg h2] at ho
      omega
theorem NoP.map {p p' : Dv → Dv → Bool} {ds : List Dv} (g : Dv → Dv) (h : NoP p ds) (e : ∀ x ∈ ds, ∀ y ∈ ds, p' (g x) (g y) = p x y) : NoP p' (ds.map g) := by
  unfold NoP
  rw [List.pairwise_map]
  exact List.Pairwise.imp_of_mem (fun {a b} ha hb h => by rw [e a ha b hb]; exact h) h
theorem red_map {f : Int → Int} {U : Int → Prop} (hf : ∀ a b, U a → U b → (f a = f b ↔ a = b)) {x x' : Nl} (g : Dv → Dv) (hds : x'.ds = x.ds.map g) (hr : ∀ d ∈ x.ds, RelD f d (g d)) (hu : ∀ d ∈ x.ds, InU U d)
    (hn : ∀ net, U net → degN x'.ds (f net) = degN x.ds net ∧ portB x'.ps (f net) = portB x.ps net) (hv : nlB x' = true) (h : Red x) : Red x' := by
  obtain ⟨_, h1, h2, h3⟩ := h
  refine ⟨hv, ?_, ?_, ?_⟩
  · rw [hds]
    intro d hd
    obtain ⟨e, he, rfl⟩ := List.mem_map.1 hd
    rw [rel_sh hf (hr e he) (hu e he)]; exact h1 e he
  · rw [hds]
    exact h2.map g (fun a ha b hb => rel_par hf (hr a ha) (hu a ha) (hr b hb) (hu b hb))
  · rw [hds]
    refine h3.map g (fun a ha b hb => ?_)
    have hp := rel_pre hf (hr a ha) (hu a ha) (hr b hb) (hu b hb)
    unfold serB
    rw [hp]
    cases hpp : serPre a b with
    | false => rfl
    | true =>
      obtain ⟨o1, o2⟩ := rel_one hf (hr a ha) (hu a ha) (hr b hb) (hu b hb) hpp
      rw [o1]
      cases ho : oneB a b with
      | false => rfl
      | true =>
        have hs := hn _ (serN_in (hu a ha) ho)
        rw [o2 ho]
        unfold useB
        rw [hs.1, hs.2]
theorem count_lastTwo (zs : List Int) (a : Int) : (lastTwo zs).count a = zs.count a := by
  match zs with
  | [] => rfl
  | [p] => rfl
  | [p, q] =>
    rcases Int.le_total p q with h | h
    · simp only [lastTwo, Int.min_eq_left h, Int.max_eq_right h]
    · simp only [lastTwo, Int.min_eq_right h, Int.max_eq_left h]
      exact (List.Perm.swap p q []).count_eq a
  | [g, p, q] =>
    rcases Int.le_total p q with h | h
    · simp only [lastTwo, Int.min_eq_left h, Int.max_eq_right h]
    · simp only [lastTwo, Int.min_eq_right h, Int.max_eq_left h]
      exact ((List.Perm.swap p q []).cons g).count_eq a
  | a :: b :: c :: d :: r => rfl
theorem count_normz (k : Int) (zs : List Int) (a : Int) : (normz k zs).count a = zs.count a := by
  unfold normz; split
  · exact count_lastTwo zs a
  · rfl
theorem degN_norm (ds : List Dv) (net : Int) : degN (ds.map normD) net = degN ds net := by
  induction ds with
  | nil => rfl
  | cons d ds ih =>
    simp only [List.map_cons, degN, ih]
    rw [show (normD d).pins = normz d.kind d.pins from rfl, count_normz]
theorem degN_perm {ds es : List Dv} (h : ds.Perm es) (net : Int) : degN ds net = degN es net := by
  induction h with
  | nil => rfl
  | cons x _ ih => simp only [degN, ih]
  | swap x y l => simp only [degN]; omega
  | trans _ _ h1 h2 => rw [h1, h2]
theorem count_inj (f : Int → Int) (zs : List Int) (a : Int) (h : ∀ b ∈ zs, f b = f a → b = a) : (zs.map f).count (f a) = zs.count a := by
  induction zs with
  | nil => rfl
  | cons z zs ih =>
    have ih := ih (fun b hb => h b (List.mem_cons_of_mem _ hb))
    rw [List.map_cons, List.count_cons, List.count_cons, ih]
    by_cases e : z = a
    · subst e; simp
    · have : ¬ f z = f a := fun h' => e (h z List.mem_cons_self h')
      simp [e, this]
theorem degN_ren (names : List Int) (ds : List Dv) (net : Int) (h : ∀ d ∈ ds, ∀ p ∈ d.pins, nmOf names p = nmOf names net → p = net) : degN (ds.map (renD names)) (nmOf names net) = degN ds net := by
  induction ds with
  | nil => rfl
  | cons d ds ih =>
    have ih := ih (fun e he => h e (List.mem_cons_of_mem _ he))
    have e := count_inj (nmOf names) d.pins net (h d List.mem_cons_self)
    simp only [List.map_cons, degN, ih]
    rw [show (renD names d).pins = d.pins.map (nmOf names) from rfl, e]
theorem portB_ren (names : List Int) (ps : List Pt) (net : Int) (h : ∀ p ∈ ps, nmOf names p.net = nmOf names net → p.net = net) : portB (ps.map (renP names)) (nmOf names net) = portB ps net := by
  rw [Bool.eq_iff_iff, portB_iff, portB_iff]
  constructor
  · rintro ⟨p, hp, e⟩
    obtain ⟨q, hq, rfl⟩ := List.mem_map.1 hp
    exact ⟨q, hq, h q hq e⟩
  · rintro ⟨p, hp, e⟩
    exact ⟨renP names p, List.mem_map_of_mem hp, by show nmOf names p.net = _; rw [e]⟩
theorem rel_norm {d : Dv} (h : Shp d) : RelD id d (normD d) := by
  unfold RelD normD
  refine ⟨rfl, rfl, rfl, ?_⟩
  rcases h with ⟨h2, p, q, hp⟩ | ⟨h2, g, p, q, hp⟩
  · simp only [hp, h2, normz_two, gateOf, curP, curQ, id]
    refine ⟨fun h => absurd rfl h, ?_⟩
    omega
  · simp only [hp, normz_three _ _ _ _ h2, gateOf, curP, curQ, id]
    refine ⟨fun _ => trivial, ?_⟩
    omega
theorem nl_shp {x : Nl} (h : nlB x = true) : ∀ d ∈ x.ds, Shp d := fun d hd => shp_of (nlB_dvs h d hd)
theorem red_nrm {x : Nl} (h : Red x) : Red (nrmS x) := by
  refine red_map (f := id) (U := fun _ => True) (fun a b _ _ => Iff.rfl) normD rfl (fun d hd => rel_norm (nl_shp h.1 d hd)) (fun d hd => ⟨trivial, trivial, fun _ => trivial⟩) (fun net _ => ⟨degN_norm _ _, rfl⟩) (nrmS_valid h.1) h
theorem red_sort {x : Nl} (h : Red x) : Red (sortS x) := by
  obtain ⟨h0, h1, h2, h3⟩ := h
  have hp := (srtD_perm x.ds).symm
  refine ⟨sortS_valid h0, fun d hd => h1 d (hp.mem_iff.2 hd), h2.perm parB_symm hp, ?_⟩
  have e : serB (sortS x) = serB x := by
    funext a b
    unfold serB useB
    rw [show degN (sortS x).ds (serN a b) = degN x.ds (serN a b) from (degN_perm hp _).symm]
    rfl
  rw [e]
  exact h3.perm (serB_symm x) hp
/- Reducing again: compacting keeps a netlist reduced, in normal form and in order, and compacting twice is compacting once. Plain. -/
def UsN (x : Nl) (net : Int) : Prop := 0 ≤ net ∧ net < x.nets ∧ usedB x net = true
def nms (x : Nl) : Int → Int := nmOf (nmC x x.nets.toNat)
theorem nms_lt {x : Nl} {a b : Int} (ha : UsN x a) (hb : UsN x b) (h : a < b) : nms x a < nms x b := by
  obtain ⟨a0, a1, a2⟩ := ha
  obtain ⟨b0, b1, b2⟩ := hb
  obtain ⟨p, rfl⟩ := Int.eq_ofNat_of_zero_le a0
  obtain ⟨q, rfl⟩ := Int.eq_ofNat_of_zero_le b0
  unfold nms
  rw [nmOf_nmC (by omega), nmOf_nmC (by omega)]
  have := cnt_lt (x := x) (a := p) (b := q) (by omega) a2
  omega
theorem nms_inj {x : Nl} (a b : Int) (ha : UsN x a) (hb : UsN x b) : nms x a = nms x b ↔ a = b := by
  constructor
  · intro h
    rcases Int.lt_trichotomy a b with h' | h' | h'
    · have := nms_lt ha hb h'; omega
    · exact h'
    · have := nms_lt hb ha h'; omega
  · rintro rfl; rfl
theorem pin_used {x : Nl} (h : nlB x = true) {d : Dv} (hd : d ∈ x.ds) {p : Int} (hp : p ∈ d.pins) : UsN x p := by
  obtain ⟨_, _, _, _, a5, _⟩ := dvB_all (nlB_dvs h d hd)
  have := inB_iff.1 (a5 p hp)
  exact ⟨this.1, by omega, usedB_iff.2 (.inl ⟨d, hd, hp⟩)⟩
theorem port_used {x : Nl} (h : nlB x = true) {p : Pt} (hp : p ∈ x.ps) : UsN x p.net := by
  obtain ⟨_, _, _, _, hpt⟩ := nlB_facts h
  obtain ⟨i, hi, e⟩ := List.getElem_of_mem hp
  have h1 := hpt i hi
  unfold ptOk at h1
  rw [List.getElem?_eq_getElem hi, e] at h1
  simp only [Bool.and_eq_true] at h1
  have h2 := inB_iff.1 h1.2.1
  exact ⟨h2.1, by omega, usedB_iff.2 (.inr ⟨p, hp, rfl⟩)⟩
theorem shp_in {U : Int → Prop} {d : Dv} (hs : Shp d) (h : ∀ p ∈ d.pins, U p) : InU U d := by
  rcases hs with ⟨h2, p, q, hp⟩ | ⟨h2, g, p, q, hp⟩ <;> rw [hp] at h
  · refine ⟨?_, ?_, fun hk => absurd h2 hk⟩ <;> rw [hp] <;> simp only [curP, curQ] <;> apply h <;> simp
  · refine ⟨?_, ?_, fun hk => ?_⟩ <;> rw [hp] <;> simp only [curP, curQ, gateOf] <;> apply h <;> simp
theorem rel_ren {names : List Int} {d : Dv} (hs : Shp d) : RelD (nmOf names) d (renD names d) := by
  unfold RelD renD
  refine ⟨rfl, rfl, rfl, ?_⟩
  rcases hs with ⟨h2, p, q, hp⟩ | ⟨h2, g, p, q, hp⟩
  · simp only [hp, List.map_cons, List.map_nil, gateOf, curP, curQ]
    exact ⟨fun h => absurd h2 h, .inl ⟨trivial, trivial⟩⟩
  · simp only [hp, List.map_cons, List.map_nil, gateOf, curP, curQ]
    exact ⟨fun _ => trivial, .inl ⟨trivial, trivial⟩⟩
theorem red_cm {x : Nl} (h : Red x) : Red (cmS x) := by
  have hv := h.1
  refine red_map (f := nms x) (U := UsN x) nms_inj (renD (nmC x x.nets.toNat)) (by rw [cmS_yes hv]; rfl) (fun d hd => rel_ren (nl_shp hv d hd)) (fun d hd => shp_in (nl_shp hv d hd) (fun p hp => pin_used hv hd hp)) (fun net hn => ?_) (cmS_valid hv) h
  rw [cmS_yes hv]
  exact ⟨degN_ren _ _ _ (fun d hd p hp e => (nms_inj p net (pin_used hv hd hp) hn).1 e), portB_ren _ _ _ (fun p hp e => (nms_inj p.net net (port_used hv hp) hn).1 e)⟩
def Nrm (x : Nl) : Prop := ∀ d ∈ x.ds, normD d = d
theorem dv_ext {a b : Dv} (h1 : a.kind = b.kind) (h2 : a.pins = b.pins) (h3 : a.wd = b.wd) (h4 : a.len = b.len) : a = b := by
  cases a; cases b; simp at *; exact ⟨h1, h2, h3, h4⟩
theorem norm_iff {d : Dv} (h : Shp d) : normD d = d ↔ curP d.pins ≤ curQ d.pins := by
  rcases h with ⟨h2, p, q, hp⟩ | ⟨h2, g, p, q, hp⟩
  · have e : normD d = d ↔ [min p q, max p q] = [p, q] := by
      constructor
      · intro e; have := congrArg Dv.pins e; simp only [normD, hp, h2, normz_two] at this; exact this
      · intro e; exact dv_ext rfl (by simp only [normD, hp, h2, normz_two]; exact e) rfl rfl
    rw [e, hp]
    simp only [curP, curQ, List.cons.injEq, and_true]
    omega
  · have e : normD d = d ↔ [g, min p q, max p q] = [g, p, q] := by
      constructor
      · intro e; have := congrArg Dv.pins e; simp only [normD, hp, normz_three _ _ _ _ h2] at this; exact this
      · intro e; exact dv_ext rfl (by simp only [normD, hp, normz_three _ _ _ _ h2]; exact e) rfl rfl
    rw [e, hp]
    simp only [curP, curQ, List.cons.injEq, and_true, true_and]
    omega
theorem shp_norm {d : Dv} (h : Shp d) : Shp (normD d) ∧ curP (normD d).pins ≤ curQ (normD d).pins := by
  rcases h with ⟨h2, p, q, hp⟩ | ⟨h2, g, p, q, hp⟩
  · have e : (normD d).pins = [min p q, max p q] := by simp only [normD, hp, h2, normz_two]
    refine ⟨.inl ⟨h2, _, _, e⟩, ?_⟩
    rw [e]; simp only [curP, curQ]; omega
  · have e : (normD d).pins = [g, min p q, max p q] := by simp only [normD, hp, normz_three _ _ _ _ h2]
    refine ⟨.inr ⟨h2, _, _, _, e⟩, ?_⟩
    rw [e]; simp only [curP, curQ]; omega
theorem nrm_nrm {x : Nl} (h : nlB x = true) : Nrm (nrmS x) := by
  intro d hd
  obtain ⟨e, he, rfl⟩ := List.mem_map.1 hd
  obtain ⟨s1, s2⟩ := shp_norm (nl_shp h e he)
  exact (norm_iff s1).2 s2
theorem nrm_sort {x : Nl} (h : Nrm x) : Nrm (sortS x) := fun d hd => h d ((srtD_perm x.ds).mem_iff.1 hd)
theorem nms_le {x : Nl} {a b : Int} (ha : UsN x a) (hb : UsN x b) (h : a ≤ b) : nms x a ≤ nms x b := by
  rcases Int.lt_or_eq_of_le h with h' | rfl
  · exact Int.le_of_lt (nms_lt ha hb h')
  · exact Int.le_refl _
theorem nrm_cm {x : Nl} (hv : nlB x = true) (h : Nrm x) : Nrm (cmS x) := by
  intro d hd
  refine (norm_iff (nl_shp (cmS_valid hv) d hd)).2 ?_
  rw [cmS_yes hv] at hd
  obtain ⟨e, he, rfl⟩ := List.mem_map.1 hd
  have hs := nl_shp hv e he
  have h1 := (norm_iff hs).1 (h e he)
  obtain ⟨u1, u2, _⟩ := shp_in hs (fun p hp => pin_used hv he hp)
  have h2 := nms_le u1 u2 h1
  rcases hs with ⟨_, p, q, hp⟩ | ⟨_, g, p, q, hp⟩
  · rw [hp] at h2; simp only [renD, hp, List.map_cons, List.map_nil, curP, curQ] at h2 ⊢; exact h2
  · rw [hp] at h2; simp only [renD, hp, List.map_cons, List.map_nil, curP, curQ] at h2 ⊢; exact h2
def Ord (x : Nl) : Prop := x.ds.Pairwise fun a b => dlt b a = false
theorem ord_sort (x : Nl) : Ord (sortS x) := srtD_pairwise x.ds
theorem sgn_mono {x : Nl} {a b : Int} (ha : UsN x a) (hb : UsN x b) : sgn (nms x a) (nms x b) = sgn a b := by
  unfold sgn
  rcases Int.lt_trichotomy a b with h' | h' | h'
  · have := nms_lt ha hb h'; (repeat' split) <;> omega
  · subst h'; (repeat' split) <;> omega
  · have := nms_lt hb ha h'; (repeat' split) <;> omega
theorem lcmp_map (f : Int → Int) : ∀ (xs ys : List Int), (∀ a ∈ xs, ∀ b ∈ ys, sgn (f a) (f b) = sgn a b) → lcmp (xs.map f) (ys.map f) = lcmp xs ys
  | [], [], _ => rfl
  | [], _ :: _, _ => rfl
  | _ :: _, [], _ => rfl
  | a :: r, b :: s, h => by
    have ih := lcmp_map f r s (fun x hx y hy => h x (List.mem_cons_of_mem _ hx) y (List.mem_cons_of_mem _ hy))
    have e := h a List.mem_cons_self b List.mem_cons_self
    simp only [List.map_cons, lcmp, e, ih]
theorem ord_cm {x : Nl} (hv : nlB x = true) (h : Ord x) : Ord (cmS x) := by
  unfold Ord
  rw [cmS_yes hv]
  show ((x.ds.map (renD (nmC x x.nets.toNat))).Pairwise _)
  rw [List.pairwise_map]
  refine List.Pairwise.imp_of_mem (fun {a b} ha hb h => ?_) h
  have e : dcf (renD (nmC x x.nets.toNat) b) (renD (nmC x x.nets.toNat) a) = dcf b a := by
    unfold dcf devcmp
    rw [show lcmp (renD (nmC x x.nets.toNat) b).pins (renD (nmC x x.nets.toNat) a).pins = lcmp b.pins a.pins from lcmp_map (nms x) _ _ (fun p hp q hq => sgn_mono (pin_used hv hb hp) (pin_used hv ha hq))]
    rfl
  unfold dlt at h ⊢
  rw [e]; exact h
def Full (x : Nl) : Prop := ∀ net : Int, 0 ≤ net → net < x.nets → usedB x net = true
theorem full_cm {x : Nl} (hv : nlB x = true) : Full (cmS x) := fun net h0 h1 => cmS_used hv h0 h1
theorem cnt_full {x : Nl} (hf : Full x) : ∀ k : Nat, (k : Int) ≤ x.nets → cnt x k = k
  | 0, _ => rfl
  | k + 1, h => by
    rw [cnt_succ, cnt_full hf k (by omega), if_pos (hf k (by omega) (by omega))]
theorem map_id_of {α : Type} (f : α → α) (xs : List α) (h : ∀ x ∈ xs, f x = x) : xs.map f = xs := by
  induction xs with
  | nil => rfl
  | cons x xs ih => rw [List.map_cons, h x List.mem_cons_self, ih (fun y hy => h y (List.mem_cons_of_mem _ hy))]
theorem cm_full {x : Nl} (hv : nlB x = true) (hf : Full x) : cmS x = x := by
  have n0 := (nlB_facts hv).1.1
  have hn : ∀ p, UsN x p → nmOf (nmC x x.nets.toNat) p = p := by
    rintro p ⟨h0, h1, _⟩
    obtain ⟨q, rfl⟩ := Int.eq_ofNat_of_zero_le h0
    rw [nmOf_nmC (by omega), cnt_full hf q (by omega)]
  rw [cmS_yes hv]
  unfold renS
  have e1 : x.ds.map (renD (nmC x x.nets.toNat)) = x.ds := map_id_of _ _ (fun d hd => dv_ext rfl (map_id_of _ _ (fun p hp => hn p (pin_used hv hd hp))) rfl rfl)
  have e2 : x.ps.map (renP (nmC x x.nets.toNat)) = x.ps := map_id_of _ _ (fun p hp => by
    show (⟨p.name, nmOf _ p.net⟩ : Pt) = p
    rw [hn _ (port_used hv hp)])
  rw [e1, e2, cnt_full hf _ (by omega)]
  cases x
  simp only at n0 ⊢
  congr 1
  omega
/- Reducing again: the reduction of a netlist is reduced, and reducing it again changes nothing. Plain. -/
theorem mgC_not1 {x : Nl} (h : nlB x = true) (i j : Int) : mgC x i j ≠ 1 := by
  unfold mgC
  rw [if_neg (by rw [h]; simp)]
  split
  · split
    · unfold mgE
      (repeat' split) <;> decide
    · decide
  · decide
theorem nextP_none {x : Nl} (h : (nextP x).2.2 = false) : (firstP parB x.ds).2.2 = false ∧ (firstP (serB x) x.ds).2.2 = false := by
  unfold nextP at h
  cases h1 : (firstP parB x.ds).2.2 with
  | true => rw [if_pos h1] at h; rw [h] at h1; cases h1
  | false => rw [if_neg (by rw [h1]; simp)] at h; exact ⟨rfl, h⟩
theorem nextP_miss {x : Nl} (h : Red x) : (nextP x).2.2 = false := by
  unfold nextP
  rw [h.2.2.1.first, if_neg (by simp), h.2.2.2.first]
theorem rmS_red {x : Nl} (h : Red x) : rmS x = x := by
  rw [rmS_yes h.1]
  have e : x.ds.filter okD = x.ds := List.filter_eq_self.2 h.2.1
  rw [e]
theorem red_stop {x : Nl} (hv : nlB x = true) (h : (nextP (rmS x)).2.2 = false) : Red (rmS x) := by
  obtain ⟨h1, h2⟩ := nextP_none h
  refine ⟨rmS_valid hv, fun d hd => ?_, .of_first h1, .of_first h2⟩
  rw [rmS_yes hv] at hd
  exact (List.mem_filter.1 hd).2
theorem redF_red : ∀ (n : Nat) (x : Nl), x.ds.length ≤ n → nlB x = true → ((redF x).2 = 0 → Red (redF x).1 ∧ (redF x).1.ps = x.ps ∧ (redF x).1.ds.length ≤ x.ds.length) ∧ (redF x).2 ≠ 1
  | n, x, hn, hv => by
    cases h : (nextP (rmS x)).2.2 with
    | false =>
      rw [redF_stop h]
      exact ⟨fun _ => ⟨red_stop hv h, (rmS_same hv).2, rmS_len x⟩, by simp⟩
    | true =>
      by_cases hc : mgC (rmS x) (nextP (rmS x)).1 (nextP (rmS x)).2.1 = 0
      · rw [redF_go h hc]
        obtain ⟨f1, _, f3, f4⟩ := mgR_facts hc
        have hl := rmS_len x
        match n, hn with
        | 0, hn => omega
        | n + 1, hn =>
          obtain ⟨g1, g2⟩ := redF_red n _ (by omega) f1
          refine ⟨fun e => ?_, g2⟩
          obtain ⟨k1, k2, k3⟩ := g1 e
          exact ⟨k1, by rw [k2, f3, (rmS_same hv).2], by omega⟩
      · rw [redF_err h hc]
        exact ⟨fun e => absurd e hc, mgC_not1 (rmS_valid hv) _ _⟩
def Done (x : Nl) : Prop := Red x ∧ Nrm x ∧ Ord x ∧ Full x
theorem done_rd {y : Nl} (h : Red y) : Done (cmS (sortS (nrmS y))) := by
  have h1 := red_nrm h
  have h2 := red_sort h1
  exact ⟨red_cm h2, nrm_cm h2.1 (nrm_sort (nrm_nrm h.1)), ord_cm h2.1 (ord_sort _), full_cm h2.1⟩
theorem done_fix {z : Nl} (h : Done z) : rdS z = z ∧ rdC z = 0 := by
  obtain ⟨hr, hn, ho, hf⟩ := h
  have e1 := rmS_red hr
  have e2 : redF z = (z, 0) := by
    have := redF_stop (x := z) (by rw [e1]; exact nextP_miss hr)
    rw [this, e1]
  obtain ⟨r1, r2⟩ := rd_yes hr.1 e2
  refine ⟨?_, r2⟩
  have e3 : nrmS z = z := by
    unfold nrmS
    rw [map_id_of _ _ hn]
  have e4 : sortS z = z := by
    unfold sortS
    rw [← srtD_of (List.Perm.refl z.ds) ho]
  rw [r1, e3, e4, cm_full hr.1 hf]
theorem rd_again {x : Nl} (hv : nlB x = true) (h : rdC x = 0) : Done (rdS x) ∧ rdS (rdS x) = rdS x ∧ rdC (rdS x) = 0 ∧ (rdS x).ps.map Pt.name = x.ps.map Pt.name ∧ (rdS x).ds.length ≤ x.ds.length := by
  have h' : (redF x).2 = 0 := by simpa [rdC, hv] using h
  obtain ⟨g1, _⟩ := redF_red _ x (Nat.le_refl _) hv
  obtain ⟨k1, k2, k3⟩ := g1 h'
  have e : redF x = ((redF x).1, 0) := by rw [← h']
  obtain ⟨r1, _⟩ := rd_yes hv e
  have hd := done_rd k1
  have hv2 : nlB (sortS (nrmS (redF x).1)) = true := (red_sort (red_nrm k1)).1
  obtain ⟨f1, f2⟩ := done_fix hd
  rw [r1]
  refine ⟨hd, f1, f2, ?_, ?_⟩
  · rw [cmS_yes hv2, ← k2]
    show ((redF x).1.ps.map (renP _)).map Pt.name = _
    rw [List.map_map]
    rfl
  · rw [(cmS_sizes hv2).1]
    show (srtD ((redF x).1.ds.map normD)).length ≤ _
    rw [length_srtD, List.length_map]
    exact k3
theorem er_eq {x : Nw} {a b : Int} (h : nkC x a b = 0) : erS x a b = rtOf (nkX h).N (nkX h).T := by
  unfold erS
  rw [if_pos h]
  rfl
theorem er_no {x : Nw} {a b : Int} (h : ¬ nkC x a b = 0) : erS x a b = ⟨0, 0⟩ := by unfold erS; rw [if_neg h]
def eD (d : Dv) : Res := ⟨curP d.pins, curQ d.pins, d.wd, d.len⟩
def AllR (x : Nl) : Prop := ∀ d ∈ x.ds, d.kind = 2
def SolN (x : Nl) (A B N T : Int) : Prop := Sol (x.ds.map eD) A B N T
theorem res_two {nets : Int} {d : Dv} (h : dvB nets d = true) (hk : d.kind = 2) : (∃ p q, d.pins = [p, q]) ∧ 1 ≤ d.wd ∧ 1 ≤ d.len := by
  obtain ⟨_, _, a3, a4, _, _⟩ := dvB_all h
  rcases shp_of h with ⟨_, hp⟩ | ⟨h2, _⟩
  · have b3 := inB_iff.1 a3
    have b4 := inB_iff.1 a4
    exact ⟨hp, b3.1, b4.1⟩
  · omega
theorem pos_nl {x : Nl} (hv : nlB x = true) (hR : AllR x) : PosR (x.ds.map eD) := fun r hr => by
  obtain ⟨d, hd, rfl⟩ := List.mem_map.1 hr
  exact (res_two (nlB_dvs hv d hd) (hR d hd)).2
theorem erase_perm : ∀ (l : List Dv) (j : Nat) (h : j < l.length), l.Perm (l[j] :: l.eraseIdx j)
  | [], j, h => by simp at h
  | a :: l, 0, h => by simp
  | a :: l, j + 1, h => by
    have ih := erase_perm l j (by simpa using h)
    simp only [List.getElem_cons_succ, List.eraseIdx_cons_succ]
    exact (List.Perm.cons a ih).trans (List.Perm.swap _ _ _)
theorem two_perm : ∀ (ds : List Dv) (i j : Nat) (A B M : Dv), i < j → ds[i]? = some A → ds[j]? = some B → ∃ rest, ds.Perm (A :: B :: rest) ∧ ((ds.set i M).eraseIdx j).Perm (M :: rest)
  | [], i, j, A, B, M, h, h1, h2 => by simp at h1
  | d :: ds, 0, 0, A, B, M, h, h1, h2 => by omega
  | d :: ds, 0, j + 1, A, B, M, h, h1, h2 => by
    obtain rfl : d = A := by simpa using h1
    have h2 : ds[j]? = some B := by simpa using h2
    obtain ⟨hj, e⟩ := List.getElem?_eq_some_iff.1 h2
    refine ⟨ds.eraseIdx j, List.Perm.cons _ ?_, ?_⟩
    · rw [← e]
      exact erase_perm ds j hj
    · simp
  | d :: ds, i + 1, 0, A, B, M, h, h1, h2 => by omega
  | d :: ds, i + 1, j + 1, A, B, M, h, h1, h2 => by
    obtain ⟨rest, g1, g2⟩ := two_perm ds i j A B M (by omega) (by simpa using h1) (by simpa using h2)
    refine ⟨d :: rest, ?_, ?_⟩
    · exact (List.Perm.cons d g1).trans ((List.Perm.swap A d (B :: rest)).trans (List.Perm.cons A (List.Perm.swap B d rest)))
    · simp only [List.set_cons_succ, List.eraseIdx_cons_succ]
      exact (List.Perm.cons d g2).trans (List.Perm.swap M d rest)
theorem sol_mg {x : Nl} {i j A B N T : Int} (hc : mgC x i j = 0) (hR : AllR x) (hA : portB x.ps A = true) (hB : portB x.ps B = true) (h : SolN x A B N T) :
    AllR (mgR x i j) ∧ ∃ k, 0 < k ∧ SolN (mgR x i j) A B (k * N) (k * T) := by
  obtain ⟨hv, a, b, D, E, rfl, rfl, hab, hD, hE, hz, e⟩ := mgC_parts hc
  have mD := List.mem_of_getElem? hD
  have mE := List.mem_of_getElem? hE
  obtain ⟨⟨p, q, eD'⟩, d1, d2⟩ := res_two (nlB_dvs hv D mD) (hR D mD)
  obtain ⟨⟨r, s, eE'⟩, c1, c2⟩ := res_two (nlB_dvs hv E mE) (hR E mE)
  have kD := hR D mD
  have kE := hR E mE
  obtain ⟨rest, g1, g2⟩ := two_perm x.ds a b D E (mgD D E (serB x D E)) hab hD hE
  have hpos : PosR (eD D :: eD E :: rest.map eD) := fun z hz => pos_nl hv hR z ((g1.map eD).mem_iff.2 hz)
  have hs : Sol (eD D :: eD E :: rest.map eD) A B N T := sol_perm (g1.map eD) h
  rw [e]
  refine ⟨fun d hd => ?_, ?_⟩
  · rcases List.mem_cons.1 (g2.mem_iff.1 hd) with rfl | hd
    · exact kD
    · exact hR d (g1.mem_iff.2 (by simp [hd]))
  · have fin : ∀ {k : Int}, Sol (eD (mgD D E (serB x D E)) :: rest.map eD) A B (k * N) (k * T) → SolN ⟨x.nets, (x.ds.set a (mgD D E (serB x D E))).eraseIdx b, x.ps⟩ A B (k * N) (k * T) := fun H => sol_perm (g2.map eD).symm H
    obtain ⟨hsp, _, _⟩ := mgE_zero hz
    cases hser : serB x D E with
    | true =>
      obtain ⟨s1, s2⟩ := serB_oneB hser
      obtain ⟨n1, n2⟩ := serPre_ne s1
      obtain ⟨m1, m2⟩ := serN_mem s2
      have hu : useB x (serN D E) = true := by
        unfold serB at hser
        simp only [Bool.and_eq_true] at hser
        exact hser.2.2
      unfold useB at hu
      simp only [Bool.and_eq_true, decide_eq_true_eq, Bool.not_eq_true'] at hu
      obtain ⟨u1, u2⟩ := hu
      have p1 : 1 ≤ D.wd * E.len + E.wd * D.len := by
        have := Int.mul_pos (show 0 < D.wd by omega) (show 0 < E.len by omega)
        have := Int.mul_pos (show 0 < E.wd by omega) (show 0 < D.len by omega)
        omega
      have p2 : 1 ≤ D.len * E.len := by
        have := Int.mul_pos (show 0 < D.len by omega) (show 0 < E.len by omega)
        omega
      obtain ⟨f1, f2, _, f4⟩ := red_facts p1 p2
      generalize hX : serN D E = X at *
      have o1 : ∀ {p q : Int}, p ≠ q → (X = p ∨ X = q) → ((p = otherN p q X ∧ q = X) ∨ (p = X ∧ q = otherN p q X)) ∧ otherN p q X ≠ X := by
        intro p q hpq hX
        unfold otherN
        rcases hX with rfl | rfl
        · rw [if_pos rfl]; exact ⟨.inr ⟨rfl, rfl⟩, fun e => hpq e.symm⟩
        · rw [if_neg hpq]; exact ⟨.inl ⟨rfl, rfl⟩, hpq⟩
      obtain ⟨a1, a2⟩ := o1 n1 m1
      obtain ⟨b1, b2⟩ := o1 n2 m2
      have hrest : ∀ z ∈ rest.map eD, z.a ≠ X ∧ z.b ≠ X := by
        rw [degN_perm g1] at u1
        simp only [degN] at u1
        have t1 : 1 ≤ D.pins.count X := List.count_pos_iff.2 (by rw [eD'] at m1 ⊢; simp only [curP, curQ] at m1; rcases m1 with e | e <;> simp [e])
        have t2 : 1 ≤ E.pins.count X := List.count_pos_iff.2 (by rw [eE'] at m2 ⊢; simp only [curP, curQ] at m2; rcases m2 with e | e <;> simp [e])
        have t3 : ¬ 0 < degN rest X := by omega
        intro z hz
        obtain ⟨d, hd, rfl⟩ := List.mem_map.1 hz
        have md : d ∈ x.ds := g1.mem_iff.2 (by simp [hd])
        obtain ⟨⟨p', q', e'⟩, _, _⟩ := res_two (nlB_dvs hv d md) (hR d md)
        constructor
        · intro hh
          refine t3 (degN_pos.2 ⟨d, hd, ?_⟩)
          show X ∈ d.pins
          rw [← hh]
          show curP d.pins ∈ d.pins
          rw [e']; simp [curP]
        · intro hh
          refine t3 (degN_pos.2 ⟨d, hd, ?_⟩)
          show X ∈ d.pins
          rw [← hh]
          show curQ d.pins ∈ d.pins
          rw [e']; simp [curQ]
      have nA : A ≠ X := fun e => by rw [e] at hA; rw [hA] at u2; exact absurd u2 (by decide)
      have nB : B ≠ X := fun e => by rw [e] at hB; rw [hB] at u2; exact absurd u2 (by decide)
      have H := sol_ser (r1 := eD D) (r2 := eD E) (n := redN (D.wd * E.len + E.wd * D.len) (D.len * E.len)) (d := redD (D.wd * E.len + E.wd * D.len) (D.len * E.len)) hpos f1 f2 a1 b1 a2 b2 hrest nA nB f4 hs
      rw [hser] at fin
      refine ⟨redD (D.wd * E.len + E.wd * D.len) (D.len * E.len), by omega, fin ?_⟩
      have em : eD (mgD D E true) = ⟨otherN (eD D).a (eD D).b X, otherN (eD E).a (eD E).b X, redN (D.wd * E.len + E.wd * D.len) (D.len * E.len), redD (D.wd * E.len + E.wd * D.len) (D.len * E.len)⟩ := by
        unfold eD mgD mgPins mgW mgL
        simp only [kD, if_true, hX, List.nil_append, curP, curQ]
      rw [em]
      exact H
    | false =>
      have hpar : parB D E = true := by
        rcases hsp with h | h
        · rw [hser] at h; exact absurd h (by decide)
        · exact h
      unfold parB at hpar
      simp only [Bool.and_eq_true, Bool.or_eq_true, decide_eq_true_eq] at hpar
      obtain ⟨_, _, _, hpq⟩ := hpar
      have p1 : 1 ≤ D.wd * E.wd := by
        have := Int.mul_pos (show 0 < D.wd by omega) (show 0 < E.wd by omega)
        omega
      have p2 : 1 ≤ D.wd * E.len + E.wd * D.len := by
        have := Int.mul_pos (show 0 < D.wd by omega) (show 0 < E.len by omega)
        have := Int.mul_pos (show 0 < E.wd by omega) (show 0 < D.len by omega)
        omega
      obtain ⟨f1, f2, _, f4⟩ := red_facts p1 p2
      have H := sol_par (r1 := eD D) (r2 := eD E) (n := redN (D.wd * E.wd) (D.wd * E.len + E.wd * D.len)) (d := redD (D.wd * E.wd) (D.wd * E.len + E.wd * D.len)) hpos f1 (by
        rcases hpq with ⟨x1, x2⟩ | ⟨x1, x2⟩
        · exact .inl ⟨x1.symm, x2.symm⟩
        · exact .inr ⟨x2.symm, x1.symm⟩) f4 hs
      rw [hser] at fin
      refine ⟨redN (D.wd * E.wd) (D.wd * E.len + E.wd * D.len), by omega, fin ?_⟩
      have em : eD (mgD D E false) = ⟨(eD D).a, (eD D).b, redN (D.wd * E.wd) (D.wd * E.len + E.wd * D.len), redD (D.wd * E.wd) (D.wd * E.len + E.wd * D.len)⟩ := by
        unfold eD mgD mgPins mgW mgL
        simp [kD]
      rw [em]
      exact H
theorem sol_rm {x : Nl} {A B N T : Int} (hv : nlB x = true) (hR : AllR x) (h : SolN x A B N T) : AllR (rmS x) ∧ SolN (rmS x) A B N T := by
  rw [rmS_yes hv]
  refine ⟨fun d hd => hR d (List.mem_filter.1 hd).1, ?_⟩
  have hs := sol_drop (p := fun r => !decide (r.a = r.b)) (fun r hr h => by simpa using h) h
  have e : (x.ds.filter okD).map eD = (x.ds.map eD).filter (fun r => !decide (r.a = r.b)) := by
    rw [List.filter_map]
    rfl
  unfold SolN
  rw [e]
  exact hs
theorem sol_redF : ∀ (n : Nat) (x : Nl) (A B N T : Int), x.ds.length ≤ n → nlB x = true → portB x.ps A = true → portB x.ps B = true → AllR (rmS x) → SolN (rmS x) A B N T → (redF x).2 = 0 →
    AllR (redF x).1 ∧ nlB (redF x).1 = true ∧ (redF x).1.ps = x.ps ∧ ∃ k, 0 < k ∧ SolN (redF x).1 A B (k * N) (k * T)
  | n, x, A, B, N, T, hn, hv, hA, hB, r1, r2, hc => by
    have hps := (rmS_same hv).2
    cases hx : (nextP (rmS x)).2.2 with
    | false =>
      rw [redF_stop hx]
      exact ⟨r1, rmS_valid hv, hps, 1, by decide, by rw [Int.one_mul, Int.one_mul]; exact r2⟩
    | true =>
      by_cases hm : mgC (rmS x) (nextP (rmS x)).1 (nextP (rmS x)).2.1 = 0
      · rw [redF_go hx hm] at hc ⊢
        obtain ⟨f1, _, f3, f4⟩ := mgR_facts hm
        have hl := rmS_len x
        obtain ⟨g1, k, g2, g3⟩ := sol_mg hm r1 (by rw [hps]; exact hA) (by rw [hps]; exact hB) r2
        match n, hn with
        | 0, hn => omega
        | n + 1, hn =>
          obtain ⟨j1, j2, j3, k', j4, j5⟩ := sol_redF n _ A B (k * N) (k * T) (by omega) f1 (by rw [f3, hps]; exact hA) (by rw [f3, hps]; exact hB) (sol_rm f1 g1 g3).1 (sol_rm f1 g1 g3).2 hc
          refine ⟨j1, j2, by rw [j3, f3, hps], k' * k, Int.mul_pos j4 g2, ?_⟩
          rw [Int.mul_assoc, Int.mul_assoc]
          exact j5
      · rw [redF_err hx hm] at hc
        exact absurd hc hm
theorem sol_nrm {x : Nl} {A B N T : Int} (hv : nlB x = true) (hR : AllR x) (h : SolN x A B N T) : AllR (nrmS x) ∧ SolN (nrmS x) A B N T := by
  refine ⟨fun d hd => ?_, ?_⟩
  · obtain ⟨e, he, rfl⟩ := List.mem_map.1 hd
    exact hR e he
  · have hs := sol_turn (g := fun r => if r.b < r.a then ⟨r.b, r.a, r.num, r.den⟩ else r) (pos_nl hv hR) (fun r hr => by
      split
      · exact .inr rfl
      · exact .inl rfl) h
    have e : ((nrmS x).ds).map eD = (x.ds.map eD).map (fun r => if r.b < r.a then ⟨r.b, r.a, r.num, r.den⟩ else r) := by
      show (x.ds.map normD).map eD = _
      rw [List.map_map, List.map_map]
      refine List.map_congr_left (fun d hd => ?_)
      obtain ⟨⟨p, q, e'⟩, _, _⟩ := res_two (nlB_dvs hv d hd) (hR d hd)
      have hk := hR d hd
      have n1 : eD (normD d) = ⟨min p q, max p q, d.wd, d.len⟩ := by
        unfold normD eD
        rw [hk, e', normz_two]
        rfl
      have n2 : eD d = ⟨p, q, d.wd, d.len⟩ := by
        unfold eD
        rw [e']
        rfl
      show eD (normD d) = (fun r : Res => if r.b < r.a then (⟨r.b, r.a, r.num, r.den⟩ : Res) else r) (eD d)
      rw [n1, n2]
      dsimp only
      split
      · rw [Int.min_eq_right (by omega), Int.max_eq_left (by omega)]
      · rw [Int.min_eq_left (by omega), Int.max_eq_right (by omega)]
    unfold SolN
    rw [e]
    exact hs
theorem sol_sort {x : Nl} {A B N T : Int} (hR : AllR x) (h : SolN x A B N T) : AllR (sortS x) ∧ SolN (sortS x) A B N T :=
  ⟨fun d hd => hR d ((srtD_perm x.ds).mem_iff.1 hd), sol_perm ((srtD_perm x.ds).map eD).symm h⟩
theorem port_UsN {x : Nl} (hv : nlB x = true) {A : Int} (hA : portB x.ps A = true) : UsN x A := by
  obtain ⟨p, hp, rfl⟩ := portB_iff.1 hA
  exact port_used hv hp
theorem eD_UsN {x : Nl} (hv : nlB x = true) (hR : AllR x) : ∀ r ∈ x.ds.map eD, UsN x r.a ∧ UsN x r.b := fun r hr => by
  obtain ⟨d, hd, rfl⟩ := List.mem_map.1 hr
  obtain ⟨⟨p, q, e'⟩, _, _⟩ := res_two (nlB_dvs hv d hd) (hR d hd)
  constructor
  · refine pin_used hv hd ?_
    show curP d.pins ∈ d.pins
    rw [e']; simp [curP]
  · refine pin_used hv hd ?_
    show curQ d.pins ∈ d.pins
    rw [e']; simp [curQ]
theorem sol_cm {x : Nl} {A B N T : Int} (hv : nlB x = true) (hR : AllR x) (hA : portB x.ps A = true) (hB : portB x.ps B = true) (h : SolN x A B N T) : AllR (cmS x) ∧ SolN (cmS x) (nms x A) (nms x B) N T := by
  have hs := (sol_ren (g := nms x) (U := UsN x) (pos_nl hv hR) (fun y z hy hz e => (nms_inj y z hy hz).1 e) (eD_UsN hv hR) (port_UsN hv hA) (port_UsN hv hB)).1 h
  rw [cmS_yes hv]
  refine ⟨fun d hd => ?_, ?_⟩
  · obtain ⟨e, he, rfl⟩ := List.mem_map.1 hd
    exact hR e he
  · have e : ((renS x (nmC x x.nets.toNat) (cnt x x.nets.toNat)).ds).map eD = (x.ds.map eD).map fun r => ⟨nms x r.a, nms x r.b, r.num, r.den⟩ := by
      show (x.ds.map (renD _)).map eD = _
      rw [List.map_map, List.map_map]
      refine List.map_congr_left (fun d hd => ?_)
      obtain ⟨⟨p, q, e'⟩, _, _⟩ := res_two (nlB_dvs hv d hd) (hR d hd)
      show eD (renD _ d) = _
      unfold renD
      simp only [Function.comp, eD, e', List.map_cons, List.map_nil, curP, curQ]
      rfl
    unfold SolN
    rw [e]
    exact hs
theorem cnR_mono (ds : List Dv) (p q : Int) {a b : Nat} (h : a ≤ b) : cnR ds p q a ≤ cnR ds p q b := by
  induction b with
  | zero => have : a = 0 := by omega
            subst this; exact Nat.le_refl _
  | succ b ih =>
    by_cases e : a = b + 1
    · subst e; exact Nat.le_refl _
    · have := ih (by omega)
      unfold cnR at this ⊢
      rw [countP_range]; omega
theorem cnR_lt {ds : List Dv} {p q : Int} {a b : Nat} (h : a < b) (hu : usR ds p q a = true) : cnR ds p q a < cnR ds p q b := by
  have h1 := cnR_yes hu
  have h2 := cnR_mono ds p q (show a + 1 ≤ b by omega)
  omega
theorem sol_nodes {x : Nl} {p q N T : Int} (hv : nlB x = true) (hR : AllR x) (h0 : 0 ≤ p) (h1 : 0 ≤ q) :
    SolN x p q N T ↔ Sol (netR x.ds p q x.nets.toNat).rs (cnR x.ds p q p.toNat) (cnR x.ds p q q.toNat) N T := by
  have hU : ∀ r ∈ x.ds.map eD, (0 ≤ r.a ∧ usR x.ds p q r.a = true) ∧ (0 ≤ r.b ∧ usR x.ds p q r.b = true) := fun r hr => by
    obtain ⟨d, hd, rfl⟩ := List.mem_map.1 hr
    obtain ⟨⟨p', q', e'⟩, _, _⟩ := res_two (nlB_dvs hv d hd) (hR d hd)
    have hin := (dvB_pins (nlB_dvs hv d hd)).2.2
    have m1 : curP d.pins ∈ d.pins := by rw [e']; simp [curP]
    have m2 : curQ d.pins ∈ d.pins := by rw [e']; simp [curQ]
    exact ⟨⟨(hin _ m1).1, pin_us hd m1⟩, ⟨(hin _ m2).1, pin_us hd m2⟩⟩
  have hs := sol_ren (N := N) (T := T) (g := fun z => ((cnR x.ds p q z.toNat : Nat) : Int)) (U := fun z => 0 ≤ z ∧ usR x.ds p q z = true) (pos_nl hv hR) (fun y z hy hz e => by
    have e1 : ((y.toNat : Nat) : Int) = y := by omega
    have e2 : ((z.toNat : Nat) : Int) = z := by omega
    rcases Nat.lt_trichotomy y.toNat z.toNat with h | h | h
    · have := cnR_lt h (by rw [e1]; exact hy.2); omega
    · omega
    · have := cnR_lt h (by rw [e2]; exact hz.2); omega) hU ⟨h0, us_p _ _ _⟩ ⟨h1, us_q _ _ _⟩
  have e : (netR x.ds p q x.nets.toNat).rs = (x.ds.map eD).map fun r => ⟨((cnR x.ds p q r.a.toNat : Nat) : Int), ((cnR x.ds p q r.b.toNat : Nat) : Int), r.num, r.den⟩ := by
    show x.ds.map (resR _ _ _) = _
    rw [List.map_map]
    refine List.map_congr_left (fun d hd => ?_)
    obtain ⟨⟨p', q', e'⟩, _, _⟩ := res_two (nlB_dvs hv d hd) (hR d hd)
    simp only [Function.comp, eD, resR, e', curP, curQ]
    rfl
  rw [e]
  exact hs
theorem ptN_in {ps : List Pt} {a : ByteArray} (h : ¬ ptN ps a < 0) : portB ps (ptN ps a) = true := by
  unfold ptN at h ⊢
  cases e : ps.find? (fun o => o.name.toList == a.toList) with
  | none => rw [e] at h; exact absurd (by decide) h
  | some o => exact portB_iff.2 ⟨o, List.mem_of_find?_eq_some e, rfl⟩
theorem ptN_map {ps : List Pt} {a : ByteArray} {names : List Int} (h : ¬ ptN ps a < 0) : ptN (ps.map (renP names)) a = nmOf names (ptN ps a) := by
  unfold ptN at h ⊢
  rw [List.find?_map]
  have e : ((fun o : Pt => o.name.toList == a.toList) ∘ renP names) = fun o : Pt => o.name.toList == a.toList := rfl
  rw [e]
  cases e : ps.find? (fun o => o.name.toList == a.toList) with
  | none => rw [e] at h; exact absurd (by decide) h
  | some o => rfl
theorem nr_parts {x : Nl} {a b : ByteArray} (h : (nrS x a b).2 = 0) : nlB x = true ∧ ¬ ptN x.ps a < 0 ∧ ¬ ptN x.ps b < 0 ∧ AllR x ∧ nwB (netR (rmS x).ds (ptN x.ps a) (ptN x.ps b) x.nets.toNat).nodes (netR (rmS x).ds (ptN x.ps a) (ptN x.ps b) x.nets.toNat).rs = true ∧ nrS x a b = (erS (netR (rmS x).ds (ptN x.ps a) (ptN x.ps b) x.nets.toNat) (cnR (rmS x).ds (ptN x.ps a) (ptN x.ps b) (ptN x.ps a).toNat) (cnR (rmS x).ds (ptN x.ps a) (ptN x.ps b) (ptN x.ps b).toNat), nkC (netR (rmS x).ds (ptN x.ps a) (ptN x.ps b) x.nets.toNat) (cnR (rmS x).ds (ptN x.ps a) (ptN x.ps b) (ptN x.ps a).toNat) (cnR (rmS x).ds (ptN x.ps a) (ptN x.ps b) (ptN x.ps b).toNat)) := by
  unfold nrS at h ⊢
  split at h
  · rename_i hv
    rw [if_pos hv]
    split at h
    · exact absurd h (by decide)
    · rename_i hp
      rw [if_neg hp]
      split at h
      · rename_i hk
        rw [if_pos hk]
        unfold nrQ at h ⊢
        split at h
        · rename_i hw
          rw [if_pos hw]
          exact ⟨hv, fun e => hp (.inl e), fun e => hp (.inr e), fun d hd => of_decide_eq_true (List.all_eq_true.1 hk d hd), hw, rfl⟩
        · exact absurd h (by decide)
      · exact absurd h (by decide)
  · exact absurd h (by decide)
theorem nr_make {x : Nl} {a b : ByteArray} (hv : nlB x = true) (ha : ¬ ptN x.ps a < 0) (hb : ¬ ptN x.ps b < 0) (hR : AllR x) : nrS x a b = nrQ x (ptN x.ps a) (ptN x.ps b) := by
  unfold nrS
  rw [if_pos hv, if_neg (by rintro (h | h) <;> contradiction), if_pos (List.all_eq_true.2 fun d hd => decide_eq_true (hR d hd))]
theorem rr_law {x : Nl} {a b : ByteArray} (h1 : (nrS x a b).2 = 0) (h2 : rdC x = 0) : (nrS (rdS x) a b).2 = 3 ∨ ((nrS (rdS x) a b).2 = 0 ∧ (nrS (rdS x) a b).1 = (nrS x a b).1) := by
  obtain ⟨hv, ha, hb, hR, hw, hE⟩ := nr_parts h1
  have hk : nkC (netR (rmS x).ds (ptN x.ps a) (ptN x.ps b) x.nets.toNat) (cnR (rmS x).ds (ptN x.ps a) (ptN x.ps b) (ptN x.ps a).toNat) (cnR (rmS x).ds (ptN x.ps a) (ptN x.ps b) (ptN x.ps b).toNat) = 0 := by rw [hE] at h1; exact h1
  have hPa := ptN_in ha
  have hPb := ptN_in hb
  rw [hE]
  obtain ⟨rv, rps⟩ := rmS_same hv
  have hvR := rmS_valid hv
  have hRR : AllR (rmS x) := by
    rw [rmS_yes hv]
    exact fun d hd => hR d (List.mem_filter.1 hd).1
  have hnr : (rmS x).nets.toNat = x.nets.toNat := by rw [rv]
  generalize hp : ptN x.ps a = p at *
  generalize hq : ptN x.ps b = q at *
  have hS := (nkX hk).sol
  have hS1 : SolN (rmS x) p q (nkX hk).N (nkX hk).T := by
    refine (sol_nodes hvR hRR (by omega) (by omega)).2 ?_
    rw [hnr]
    have e1 : (((nkX hk).a : Nat) : Int) = ((cnR (rmS x).ds p q p.toNat : Nat) : Int) := rfl
    have e2 : (((nkX hk).b : Nat) : Int) = ((cnR (rmS x).ds p q q.toNat : Nat) : Int) := rfl
    rw [e1, e2] at hS
    exact hS
  have e0 := er_eq hk
  rw [show (erS (netR (rmS x).ds p q x.nets.toNat) (cnR (rmS x).ds p q p.toNat) (cnR (rmS x).ds p q q.toNat)) = _ from e0]
  have hT := (nkX hk).T_pos
  generalize (nkX hk).N = N at *
  generalize (nkX hk).T = T at *
  have h2' : (redF x).2 = 0 := by simpa [rdC, hv] using h2
  obtain ⟨s1, s2, s3, k, s4, s5⟩ := sol_redF _ x p q N T (Nat.le_refl _) hv hPa hPb hRR hS1 h2'
  have eF : redF x = ((redF x).1, 0) := by rw [← h2']
  obtain ⟨y1, _⟩ := rd_yes hv eF
  obtain ⟨t1, t2⟩ := sol_nrm s2 s1 s5
  obtain ⟨u1, u2⟩ := sol_sort t1 t2
  have vz : nlB (sortS (nrmS (redF x).1)) = true := sortS_valid (nrmS_valid s2)
  have pz : (sortS (nrmS (redF x).1)).ps = x.ps := s3
  have za : portB (sortS (nrmS (redF x).1)).ps p = true := by rw [pz]; exact hPa
  have zb : portB (sortS (nrmS (redF x).1)).ps q = true := by rw [pz]; exact hPb
  obtain ⟨w1, w2⟩ := sol_cm vz u1 za zb u2
  have hD := (rd_again hv h2).1.1
  have eps : (rdS x).ps = x.ps.map (renP (nmC (sortS (nrmS (redF x).1)) (sortS (nrmS (redF x).1)).nets.toNat)) := by
    rw [y1, cmS_yes vz, ← pz]
    rfl
  have na : ptN (rdS x).ps a = nms (sortS (nrmS (redF x).1)) p := by
    rw [eps, ptN_map (by omega), hp]; rfl
  have nb : ptN (rdS x).ps b = nms (sortS (nrmS (redF x).1)) q := by
    rw [eps, ptN_map (by omega), hq]; rfl
  rw [← y1, ← na, ← nb] at w2
  rw [← y1] at w1
  have pa : 0 ≤ ptN (rdS x).ps a := by
    rw [na]
    obtain ⟨b0, b1, b2⟩ := port_UsN vz za
    exact (name_bd b0 b1 b2).1
  have pb : 0 ≤ ptN (rdS x).ps b := by
    rw [nb]
    obtain ⟨b0, b1, b2⟩ := port_UsN vz zb
    exact (name_bd b0 b1 b2).1
  have hvD := hD.1
  rw [nr_make hvD (by omega) (by omega) w1]
  have qa := port_UsN hvD (ptN_in (ps := (rdS x).ps) (a := a) (by omega))
  have qb := port_UsN hvD (ptN_in (ps := (rdS x).ps) (a := b) (by omega))
  unfold nrQ
  rw [rmS_red hD]
  clear na nb eps y1
  generalize ptN (rdS x).ps a = A at *
  generalize ptN (rdS x).ps b = B at *
  generalize rdS x = D at *
  split
  · rename_i hwD
    right
    have hs := (sol_nodes hvD w1 pa pb).1 w2
    have hc := sol_con hs
    have la : cnR D.ds A B A.toNat < cnR D.ds A B D.nets.toNat := by
      refine cnR_lt (by have := qa.2.1; omega) ?_
      have e : ((A.toNat : Nat) : Int) = A := by omega
      rw [e]; exact us_p _ _ _
    have lb : cnR D.ds A B B.toNat < cnR D.ds A B D.nets.toNat := by
      refine cnR_lt (by have := qb.2.1; omega) ?_
      have e : ((B.toNat : Nat) : Int) = B := by omega
      rw [e]; exact us_q _ _ _
    have hk2 : nkC (netR D.ds A B D.nets.toNat) (cnR D.ds A B A.toNat) (cnR D.ds A B B.toNat) = 0 :=
      nkC_0 hwD (inB_iff.2 ⟨by omega, by show _ ≤ ((cnR D.ds A B D.nets.toNat : Nat) : Int) - 1; omega⟩) (inB_iff.2 ⟨by omega, by show _ ≤ ((cnR D.ds A B D.nets.toNat : Nat) : Int) - 1; omega⟩) hc
    refine ⟨hk2, ?_⟩
    rw [er_eq hk2]
    have hS2 := (nkX hk2).sol
    have hT2 := (nkX hk2).T_pos
    have e1 : (((nkX hk2).a : Nat) : Int) = ((cnR D.ds A B A.toNat : Nat) : Int) := rfl
    have e2 : (((nkX hk2).b : Nat) : Int) = ((cnR D.ds A B B.toNat : Nat) : Int) := rfl
    rw [e1, e2] at hS2
    have hr := sol_recip hS2 hs
    generalize (nkX hk2).N = N2 at *
    generalize (nkX hk2).T = T2 at *
    have hr' : N2 * T = N * T2 := by
      refine Int.eq_of_mul_eq_mul_left (show k ≠ 0 by omega) ?_
      grind
    obtain ⟨z1, z2⟩ := red_eq hT2 hT hr'
    unfold rtOf
    rw [z1, z2]
  · left; rfl
set_option maxRecDepth 100000 in
set_option maxHeartbeats 2000000 in
theorem nextPair_any (x : Nl) (v : Value) (w : World) (h : NlV w v x) (hok : ∀ p ∈ x.ps, p.ok) (hnn : Fits x.nets) (hv : nlB x = true) :
    Calls Tryz.prog 24 #[v] w fun e w' => (if (firstP parB x.ds).2.2 = true then e = .returned (.tuple #[.int .i64 (firstP parB x.ds).1, .int .i64 (firstP parB x.ds).2.1, .bool true]) else e = .returned (.tuple #[.int .i64 (firstP (serB x) x.ds).1, .int .i64 (firstP (serB x) x.ds).2.1, .bool (firstP (serB x) x.ds).2.2])) ∧ Below w.heap.size w w' := by
  have HN := Lib.hid h
  have HP := Lib.hid (fun v w h => implParallelPair_any x v w h hok hnn)
  have HS := Lib.hid (fun v w h => implSeriesPair_any x v w h hok hnn)
  rw [parPair_yes hv] at HP
  rw [serPair_yes hv] at HS
  obtain ⟨a, c, a', c', rfl⟩ := h.sized
  generalize firstP parB x.ds = r1 at *
  generalize firstP (serB x) x.ds = r2 at *
  clear hv h hok
  obtain ⟨p1, p2, p3⟩ := r1
  obtain ⟨q1, q2, q3⟩ := r2
  dsimp only at HP HS ⊢
  cases p3 with
  | true =>
    simp only [if_true]
    go_enter Tryz.func24, Tryz.ntmps24
    go_wp2_with (go_at_call 52; refine (HP.out _ _ (HN.out.by blwT)).mono ?_; rintro e w1 ⟨rfl, hb1⟩)
    go_ret3
    exact ⟨rfl, blwT⟩
  | false =>
    simp only [Bool.false_eq_true, if_false]
    go_enter Tryz.func24, Tryz.ntmps24
    go_wp2_with (first | (go_at_call 52; refine (HP.out _ _ (HN.out.by blwT)).mono ?_; rintro e w1 ⟨rfl, hb1⟩; have k0 : Blk w1 w.heap.size #[.int .i64 x.nets, .slice a x.ds.length c, .slice a' x.ps.length c'] 27 := blkT; have c0 := k0.cell; have hbw : Below w.heap.size w w1 := blwT) | (go_at_call 53; refine (HS.out _ _ (HN.out.by hbw)).mono ?_; rintro e w2 ⟨rfl, hb2⟩))
    go_ret3
    exact ⟨rfl, below_on hb2 hbw⟩
set_option maxRecDepth 100000 in
set_option maxHeartbeats 4000000 in
theorem implNorm_no (kind wd len : Int) (sv : Value) (zs : List Int) (w : World) (h : IntSl w sv zs) (hn : zs.length ≤ 1048576) (hno : ¬ (0 < pinc kind ∧ (zs.length : Int) = pinc kind)) :
    Calls Tryz.prog 26 #[.agg #[.int .i64 kind, sv, .int .i64 wd, .int .i64 len]] w fun e w' => ∃ v, e = .returned (.agg #[.int .i64 kind, v, .int .i64 wd, .int .i64 len]) ∧ OwnI w' w.heap.size v zs ∧ Below w.heap.size w w' := by
  have HC := Lib.hid (fun w h => copyDevice_any kind wd len sv zs w h hn)
  have h1 := h.by (((Below.refl _ w).alloc (Nat.le_refl _) (.cells #[.int .i64 kind, sv, .int .i64 wd, .int .i64 len] 46)).alloc (by simp) (.cells #[.int .i64 0, .slice none 0 0, .int .i64 0, .int .i64 0] 46))
  obtain ⟨a, c, rfl⟩ := h.len
  clear h
  have HP := Lib.hid (fun w => pinCount_any kind w)
  obtain ⟨m, hm⟩ : ∃ m, pinc kind = m := ⟨_, rfl⟩
  have hm0 : 0 ≤ m ∧ m ≤ 3 := by rw [← hm]; unfold pinc; (repeat' split) <;> omega
  rw [hm] at hno HP
  clear hm
  go_enter Tryz.func26, Tryz.ntmps26
  go_wp2_with fail
  refine (HC.out _ h1).mono ?_
  rintro e w1 ⟨v, rfl, hO, hb1⟩
  clear h1
  have k0 : Blk w1 w.heap.size #[.int .i64 kind, .slice a zs.length c, .int .i64 wd, .int .i64 len] 46 := blkT
  have k1 : Blk w1 (w.heap.size + 1) #[.int .i64 0, .slice none 0 0, .int .i64 0, .int .i64 0] 46 := blkT
  have hW : Below w.heap.size w w1 := blwT
  clear hb1
  have c0 := k0.cell
  have f0 := k0.free
  have l0 := k0.lt
  have c1' := k1.cell
  have f1 := k1.free
  have l1 := k1.lt
  obtain ⟨a1, c1, rfl⟩ := hO.len
  simp at hO
  have hO' := hO.alloc (.cells #[.int .i64 kind, .slice a1 zs.length c1, .int .i64 wd, .int .i64 len] 46)
  clear hO
  go_wp2_with fail
  refine (HP.out _).mono ?_
  rintro e w2 ⟨rfl, rfl⟩
  have k3 : Blk (w1.alloc (.cells #[.int .i64 kind, .slice a1 zs.length c1, .int .i64 wd, .int .i64 len] 46)) w1.heap.size #[.int .i64 kind, .slice a1 zs.length c1, .int .i64 wd, .int .i64 len] 46 := Blk.new _ rfl
  replace k0 := k0.past (.cells #[.int .i64 kind, .slice a1 zs.length c1, .int .i64 wd, .int .i64 len] 46)
  replace k1 := k1.past (.cells #[.int .i64 kind, .slice a1 zs.length c1, .int .i64 wd, .int .i64 len] 46)
  replace hW := below_al hW (.cells #[.int .i64 kind, .slice a1 zs.length c1, .int .i64 wd, .int .i64 len] 46)
  clear c0 f0 l0 c1' f1
  generalize w1.heap.size = px at *
  generalize w1.alloc (.cells #[.int .i64 kind, .slice a1 zs.length c1, .int .i64 wd, .int .i64 len] 46) = w2 at *
  have c0 := k0.cell
  have c1' := k1.cell
  have f1 := k1.free
  have c2 := k3.cell
  have f2 := k3.free
  by_cases hpos : 0 < m
  · have hne : decide ((zs.length : Int) = m) = false := decide_eq_false (fun h => hno ⟨hpos, h⟩)
    have hd : decide (0 < m) = true := decide_eq_true hpos
    have hne' : ¬ (zs.length : Int) = m := fun h => hno ⟨hpos, h⟩
    have hne2 : ((zs.length : Int) == m) = false := by simpa using hne'
    clear hno
    go_wp2
    go_quiet (fail)
    go_wp2
    refine bodyPost_ret (v := .agg #[.int .i64 kind, .slice a1 zs.length c1, .int .i64 wd, .int .i64 len]) (by simp [results, Tryz.results26, go_sem, *]) rfl ⟨_, rfl, ?_, blwT⟩
    refine OwnI.low ?_ (show w.heap.size ≤ w.heap.size + 2 by omega)
    repeat (first | (with_reducible exact hO') | (with_reducible refine OwnI.drewN ?_ _) | ((with_reducible refine OwnI.apart ?_ _ _ _ ?_); rotate_left; focus omega))
  · have hd : decide (0 < m) = false := decide_eq_false hpos
    clear hno
    go_wp2
    go_quiet (fail)
    go_wp2
    refine bodyPost_ret (v := .agg #[.int .i64 kind, .slice a1 zs.length c1, .int .i64 wd, .int .i64 len]) (by simp [results, Tryz.results26, go_sem, *]) rfl ⟨_, rfl, ?_, blwT⟩
    refine OwnI.low ?_ (show w.heap.size ≤ w.heap.size + 2 by omega)
    repeat (first | (with_reducible exact hO') | (with_reducible refine OwnI.drewN ?_ _) | ((with_reducible refine OwnI.apart ?_ _ _ _ ?_); rotate_left; focus omega))
set_option maxRecDepth 100000 in
set_option maxHeartbeats 4000000 in
theorem implNorm_two (kind wd len : Int) (sv : Value) (p q : Int) (w : World) (h : IntSl w sv [p, q]) (hk : pinc kind = 2) :
    Calls Tryz.prog 26 #[.agg #[.int .i64 kind, sv, .int .i64 wd, .int .i64 len]] w fun e w' => ∃ v, e = .returned (.agg #[.int .i64 kind, v, .int .i64 wd, .int .i64 len]) ∧ OwnI w' w.heap.size v [min p q, max p q] ∧ Below w.heap.size w w' := by
  have HC := Lib.hid (fun w h => copyDevice_any kind wd len sv [p, q] w h (by simp))
  have h1 := h.by (((Below.refl _ w).alloc (Nat.le_refl _) (.cells #[.int .i64 kind, sv, .int .i64 wd, .int .i64 len] 46)).alloc (by simp) (.cells #[.int .i64 0, .slice none 0 0, .int .i64 0, .int .i64 0] 46))
  rcases h with ⟨_, _, _, h2⟩ | ⟨b, off, cap, hsv, h2, h3, h4⟩
  · simp at h2
  simp only [List.length_cons, List.length_nil, Nat.zero_add, Nat.reduceAdd] at hsv h2
  subst hsv
  clear h4
  have HP := Lib.hid (fun w => pinCount_any kind w)
  rw [hk] at HP
  clear hk
  go_enter Tryz.func26, Tryz.ntmps26
  go_wp2_with fail
  refine (HC.out _ h1).mono ?_
  rintro e w1 ⟨v, rfl, hO, hb1⟩
  clear h1
  have k0 : Blk w1 w.heap.size #[.int .i64 kind, .slice (some ⟨b, off, none⟩) 2 cap, .int .i64 wd, .int .i64 len] 46 := blkT
  have k1 : Blk w1 (w.heap.size + 1) #[.int .i64 0, .slice none 0 0, .int .i64 0, .int .i64 0] 46 := blkT
  have hW : Below w.heap.size w w1 := blwT
  clear hb1
  have c0 := k0.cell
  have f0 := k0.free
  have l0 := k0.lt
  have c1' := k1.cell
  have f1 := k1.free
  have l1 := k1.lt
  rcases hO with ⟨_, _, _, hO⟩ | ⟨g, cap1, cs, hv, hlo, hcap, hmax, hG, hG'⟩
  · simp at hO
  simp only [List.length_cons, List.length_nil, Nat.zero_add, Nat.reduceAdd] at hv hcap
  subst hv
  simp at hlo
  have hgp := hG.lt
  replace hG := hG.past (.cells #[.int .i64 kind, .slice (some ⟨g, 0, none⟩) 2 cap1, .int .i64 wd, .int .i64 len] 46)
  go_wp2_with fail
  refine (HP.out _).mono ?_
  rintro e w2 ⟨rfl, rfl⟩
  have k3 : Blk (w1.alloc (.cells #[.int .i64 kind, .slice (some ⟨g, 0, none⟩) 2 cap1, .int .i64 wd, .int .i64 len] 46)) w1.heap.size #[.int .i64 kind, .slice (some ⟨g, 0, none⟩) 2 cap1, .int .i64 wd, .int .i64 len] 46 := Blk.new _ rfl
  replace k0 := k0.past (.cells #[.int .i64 kind, .slice (some ⟨g, 0, none⟩) 2 cap1, .int .i64 wd, .int .i64 len] 46)
  replace k1 := k1.past (.cells #[.int .i64 kind, .slice (some ⟨g, 0, none⟩) 2 cap1, .int .i64 wd, .int .i64 len] 46)
  replace hW := below_al hW (.cells #[.int .i64 kind, .slice (some ⟨g, 0, none⟩) 2 cap1, .int .i64 wd, .int .i64 len] 46)
  clear c0 f0 l0 c1' f1
  generalize w1.heap.size = px at *
  generalize w1.alloc (.cells #[.int .i64 kind, .slice (some ⟨g, 0, none⟩) 2 cap1, .int .i64 wd, .int .i64 len] 46) = w2 at *
  have c0 := k0.cell
  have c1' := k1.cell
  have f1 := k1.free
  have c2 := k3.cell
  have f2 := k3.free
  have hG0 := hG' 0 p rfl
  have hG1 := hG' 1 q rfl
  have cg := hG.cell
  have fg := hG.free
  have cp : w2.cell? ⟨g, 0, none⟩ = some (.int .i64 p) := (hG.cell 0).trans hG0
  have cq : w2.cell? ⟨g, 1, none⟩ = some (.int .i64 q) := (hG.cell 1).trans hG1
  have wr0 : IntKind.i64.wrap 0 = 0 := by decide
  have wr1 : IntKind.i64.wrap 1 = 1 := by decide
  have wr2 : IntKind.i64.wrap 2 = 2 := by decide
  clear hG'
  by_cases hpq : q < p
  · have hd : decide (q < p) = true := decide_eq_true hpq
    go_wp2
    go_quiet (fail)
    have e1 : min p q = q := by omega
    have e2 : max p q = p := by omega
    have E1 := Lib.hid e1
    have E2 := Lib.hid e2
    clear e1 e2 hpq
    go_wp2_with fail
    replace hG := hG.drewN nq
    replace k1 := k1.drewN nq
    replace k3 := k3.drewN nq
    replace hW := below_drewN hW nq
    clear c0 c1' f1 c2 f2 cg fg cp cq k0
    generalize w2.drewN nq = w3 at *
    have c1' := k1.cell
    have f1 := k1.free
    have c2 := k3.cell
    have f2 := k3.free
    have cp : w3.cell? ⟨g, 0, none⟩ = some (.int .i64 p) := (hG.cell 0).trans hG0
    have cq : w3.cell? ⟨g, 1, none⟩ = some (.int .i64 q) := (hG.cell 1).trans hG1
    have fg := hG.free
    go_region
    have hs0 : 0 < cs.size := by rcases Nat.lt_or_ge 0 cs.size with h | h; exact h; (rw [Array.getElem?_eq_none h] at hG0; cases hG0)
    have hs1 : 1 < cs.size := by rcases Nat.lt_or_ge 1 cs.size with h | h; exact h; (rw [Array.getElem?_eq_none h] at hG1; cases hG1)
    replace hG : Blk (((w3.setCell ⟨g, 0, none⟩ (.int .i64 q)).setCell ⟨g, 1, none⟩ (.int .i64 p)).drew) g ((cs.setIfInBounds 0 (.int .i64 q)).setIfInBounds 1 (.int .i64 p)) 2 := ((hG.set 0 (.int .i64 q)).set 1 (.int .i64 p)).drew
    replace k1 := ((k1.apart g 0 (.int .i64 q) (by omega)).apart g 1 (.int .i64 p) (by omega)).drew
    replace k3 := ((k3.apart g 0 (.int .i64 q) (by omega)).apart g 1 (.int .i64 p) (by omega)).drew
    replace hW : Below w.heap.size w (((w3.setCell ⟨g, 0, none⟩ (.int .i64 q)).setCell ⟨g, 1, none⟩ (.int .i64 p)).drew) := blwT
    skip
    have hA : ((cs.setIfInBounds 0 (.int .i64 q)).setIfInBounds 1 (.int .i64 p))[0]? = some (.int .i64 q) := by rw [Array.getElem?_setIfInBounds_ne (by omega), Array.getElem?_setIfInBounds_self_of_lt hs0]
    have hB : ((cs.setIfInBounds 0 (.int .i64 q)).setIfInBounds 1 (.int .i64 p))[1]? = some (.int .i64 p) := by rw [Array.getElem?_setIfInBounds_self_of_lt (by rw [Array.size_setIfInBounds]; exact hs1)]
    clear c1' f1 c2 f2 cp cq fg hG0 hG1 hs0 hs1
    generalize (cs.setIfInBounds 0 (Value.int .i64 q)).setIfInBounds 1 (Value.int .i64 p) = cs2 at *
    generalize ((w3.setCell ⟨g, 0, none⟩ (.int .i64 q)).setCell ⟨g, 1, none⟩ (.int .i64 p)).drew = w4 at *
    have c1' := k1.cell
    have f1 := k1.free
    have c2 := k3.cell
    have f2 := k3.free
    go_wp2
    refine bodyPost_ret (v := .agg #[.int .i64 kind, .slice (some ⟨g, 0, none⟩) 2 cap1, .int .i64 wd, .int .i64 len]) (by simp [results, Tryz.results26, go_sem, *]) rfl ⟨_, rfl, ?_, blwT⟩
    refine .inr ⟨g, cap1, cs2, rfl, by omega, hcap, hmax, blkT, ?_⟩
    rw [E1.out, E2.out]
    intro i x hx
    match i, hx with
    | 0, hx => obtain rfl := Option.some.inj hx; exact hA
    | 1, hx => obtain rfl := Option.some.inj hx; exact hB
    | (_ + 2), hx => simp at hx
  · have hd : decide (q < p) = false := decide_eq_false hpq
    have e1 : min p q = p := by omega
    have e2 : max p q = q := by omega
    have E1 := Lib.hid e1
    have E2 := Lib.hid e2
    clear e1 e2 hpq
    go_wp2
    go_quiet (fail)
    go_wp2
    refine bodyPost_ret (v := .agg #[.int .i64 kind, .slice (some ⟨g, 0, none⟩) 2 cap1, .int .i64 wd, .int .i64 len]) (by simp [results, Tryz.results26, go_sem, *]) rfl ⟨_, rfl, ?_, blwT⟩
    refine .inr ⟨g, cap1, cs, rfl, by omega, hcap, hmax, blkT, ?_⟩
    rw [E1.out, E2.out]
    intro i x hx
    match i, hx with
    | 0, hx => obtain rfl := Option.some.inj hx; exact hG0
    | 1, hx => obtain rfl := Option.some.inj hx; exact hG1
    | (_ + 2), hx => simp at hx
set_option maxRecDepth 100000 in
set_option maxHeartbeats 4000000 in
theorem implNorm_three (kind wd len : Int) (sv : Value) (r p q : Int) (w : World) (h : IntSl w sv [r, p, q]) (hk : pinc kind = 3) :
    Calls Tryz.prog 26 #[.agg #[.int .i64 kind, sv, .int .i64 wd, .int .i64 len]] w fun e w' => ∃ v, e = .returned (.agg #[.int .i64 kind, v, .int .i64 wd, .int .i64 len]) ∧ OwnI w' w.heap.size v [r, min p q, max p q] ∧ Below w.heap.size w w' := by
  have HC := Lib.hid (fun w h => copyDevice_any kind wd len sv [r, p, q] w h (by simp))
  have h1 := h.by (((Below.refl _ w).alloc (Nat.le_refl _) (.cells #[.int .i64 kind, sv, .int .i64 wd, .int .i64 len] 46)).alloc (by simp) (.cells #[.int .i64 0, .slice none 0 0, .int .i64 0, .int .i64 0] 46))
  rcases h with ⟨_, _, _, h2⟩ | ⟨b, off, cap, hsv, h2, h3, h4⟩
  · simp at h2
  simp only [List.length_cons, List.length_nil, Nat.zero_add, Nat.reduceAdd] at hsv h2
  subst hsv
  clear h4
  have HP := Lib.hid (fun w => pinCount_any kind w)
  rw [hk] at HP
  clear hk
  go_enter Tryz.func26, Tryz.ntmps26
  go_wp2_with fail
  refine (HC.out _ h1).mono ?_
  rintro e w1 ⟨v, rfl, hO, hb1⟩
  clear h1
  have k0 : Blk w1 w.heap.size #[.int .i64 kind, .slice (some ⟨b, off, none⟩) 3 cap, .int .i64 wd, .int .i64 len] 46 := blkT
  have k1 : Blk w1 (w.heap.size + 1) #[.int .i64 0, .slice none 0 0, .int .i64 0, .int .i64 0] 46 := blkT
  have hW : Below w.heap.size w w1 := blwT
  clear hb1
  have c0 := k0.cell
  have f0 := k0.free
  have l0 := k0.lt
  have c1' := k1.cell
  have f1 := k1.free
  have l1 := k1.lt
  rcases hO with ⟨_, _, _, hO⟩ | ⟨g, cap1, cs, hv, hlo, hcap, hmax, hG, hG'⟩
  · simp at hO
  simp only [List.length_cons, List.length_nil, Nat.zero_add, Nat.reduceAdd] at hv hcap
  subst hv
  simp at hlo
  have hgp := hG.lt
  replace hG := hG.past (.cells #[.int .i64 kind, .slice (some ⟨g, 0, none⟩) 3 cap1, .int .i64 wd, .int .i64 len] 46)
  go_wp2_with fail
  refine (HP.out _).mono ?_
  rintro e w2 ⟨rfl, rfl⟩
  have k3 : Blk (w1.alloc (.cells #[.int .i64 kind, .slice (some ⟨g, 0, none⟩) 3 cap1, .int .i64 wd, .int .i64 len] 46)) w1.heap.size #[.int .i64 kind, .slice (some ⟨g, 0, none⟩) 3 cap1, .int .i64 wd, .int .i64 len] 46 := Blk.new _ rfl
  replace k0 := k0.past (.cells #[.int .i64 kind, .slice (some ⟨g, 0, none⟩) 3 cap1, .int .i64 wd, .int .i64 len] 46)
  replace k1 := k1.past (.cells #[.int .i64 kind, .slice (some ⟨g, 0, none⟩) 3 cap1, .int .i64 wd, .int .i64 len] 46)
  replace hW := below_al hW (.cells #[.int .i64 kind, .slice (some ⟨g, 0, none⟩) 3 cap1, .int .i64 wd, .int .i64 len] 46)
  clear c0 f0 l0 c1' f1
  generalize w1.heap.size = px at *
  generalize w1.alloc (.cells #[.int .i64 kind, .slice (some ⟨g, 0, none⟩) 3 cap1, .int .i64 wd, .int .i64 len] 46) = w2 at *
  have c0 := k0.cell
  have c1' := k1.cell
  have f1 := k1.free
  have c2 := k3.cell
  have f2 := k3.free
  have hR := hG' 0 r rfl
  have hG0 := hG' 1 p rfl
  have hG1 := hG' 2 q rfl
  have cg := hG.cell
  have fg := hG.free
  have cp : w2.cell? ⟨g, 1, none⟩ = some (.int .i64 p) := (hG.cell 1).trans hG0
  have cq : w2.cell? ⟨g, 2, none⟩ = some (.int .i64 q) := (hG.cell 2).trans hG1
  have wr0 : IntKind.i64.wrap 0 = 0 := by decide
  have wr1 : IntKind.i64.wrap 1 = 1 := by decide
  have wr2 : IntKind.i64.wrap 2 = 2 := by decide
  clear hG'
  by_cases hpq : q < p
  · have hd : decide (q < p) = true := decide_eq_true hpq
    go_wp2
    go_quiet (fail)
    have e1 : min p q = q := by omega
    have e2 : max p q = p := by omega
    have E1 := Lib.hid e1
    have E2 := Lib.hid e2
    clear e1 e2 hpq
    go_wp2_with fail
    replace hG := hG.drewN nq
    replace k1 := k1.drewN nq
    replace k3 := k3.drewN nq
    replace hW := below_drewN hW nq
    clear c0 c1' f1 c2 f2 cg fg cp cq k0
    generalize w2.drewN nq = w3 at *
    have c1' := k1.cell
    have f1 := k1.free
    have c2 := k3.cell
    have f2 := k3.free
    have cp : w3.cell? ⟨g, 1, none⟩ = some (.int .i64 p) := (hG.cell 1).trans hG0
    have cq : w3.cell? ⟨g, 2, none⟩ = some (.int .i64 q) := (hG.cell 2).trans hG1
    have fg := hG.free
    go_region
    have hs0 : 1 < cs.size := by rcases Nat.lt_or_ge 1 cs.size with h | h; exact h; (rw [Array.getElem?_eq_none h] at hG0; cases hG0)
    have hs1 : 2 < cs.size := by rcases Nat.lt_or_ge 2 cs.size with h | h; exact h; (rw [Array.getElem?_eq_none h] at hG1; cases hG1)
    replace hG : Blk (((w3.setCell ⟨g, 1, none⟩ (.int .i64 q)).setCell ⟨g, 2, none⟩ (.int .i64 p)).drew) g ((cs.setIfInBounds 1 (.int .i64 q)).setIfInBounds 2 (.int .i64 p)) 2 := ((hG.set 1 (.int .i64 q)).set 2 (.int .i64 p)).drew
    replace k1 := ((k1.apart g 1 (.int .i64 q) (by omega)).apart g 2 (.int .i64 p) (by omega)).drew
    replace k3 := ((k3.apart g 1 (.int .i64 q) (by omega)).apart g 2 (.int .i64 p) (by omega)).drew
    replace hW : Below w.heap.size w (((w3.setCell ⟨g, 1, none⟩ (.int .i64 q)).setCell ⟨g, 2, none⟩ (.int .i64 p)).drew) := blwT
    replace hR : ((cs.setIfInBounds 1 (.int .i64 q)).setIfInBounds 2 (.int .i64 p))[0]? = some (.int .i64 r) := by rw [Array.getElem?_setIfInBounds_ne (by omega), Array.getElem?_setIfInBounds_ne (by omega)]; exact hR
    have hA : ((cs.setIfInBounds 1 (.int .i64 q)).setIfInBounds 2 (.int .i64 p))[1]? = some (.int .i64 q) := by rw [Array.getElem?_setIfInBounds_ne (by omega), Array.getElem?_setIfInBounds_self_of_lt hs0]
    have hB : ((cs.setIfInBounds 1 (.int .i64 q)).setIfInBounds 2 (.int .i64 p))[2]? = some (.int .i64 p) := by rw [Array.getElem?_setIfInBounds_self_of_lt (by rw [Array.size_setIfInBounds]; exact hs1)]
    clear c1' f1 c2 f2 cp cq fg hG0 hG1 hs0 hs1
    generalize (cs.setIfInBounds 1 (Value.int .i64 q)).setIfInBounds 2 (Value.int .i64 p) = cs2 at *
    generalize ((w3.setCell ⟨g, 1, none⟩ (.int .i64 q)).setCell ⟨g, 2, none⟩ (.int .i64 p)).drew = w4 at *
    have c1' := k1.cell
    have f1 := k1.free
    have c2 := k3.cell
    have f2 := k3.free
    go_wp2
    refine bodyPost_ret (v := .agg #[.int .i64 kind, .slice (some ⟨g, 0, none⟩) 3 cap1, .int .i64 wd, .int .i64 len]) (by simp [results, Tryz.results26, go_sem, *]) rfl ⟨_, rfl, ?_, blwT⟩
    refine .inr ⟨g, cap1, cs2, rfl, by omega, hcap, hmax, blkT, ?_⟩
    rw [E1.out, E2.out]
    intro i x hx
    match i, hx with
    | 0, hx => obtain rfl := Option.some.inj hx; exact hR
    | 1, hx => obtain rfl := Option.some.inj hx; exact hA
    | 2, hx => obtain rfl := Option.some.inj hx; exact hB
    | (_ + 3), hx => simp at hx
  · have hd : decide (q < p) = false := decide_eq_false hpq
    have e1 : min p q = p := by omega
    have e2 : max p q = q := by omega
    have E1 := Lib.hid e1
    have E2 := Lib.hid e2
    clear e1 e2 hpq
    go_wp2
    go_quiet (fail)
    go_wp2
    refine bodyPost_ret (v := .agg #[.int .i64 kind, .slice (some ⟨g, 0, none⟩) 3 cap1, .int .i64 wd, .int .i64 len]) (by simp [results, Tryz.results26, go_sem, *]) rfl ⟨_, rfl, ?_, blwT⟩
    refine .inr ⟨g, cap1, cs, rfl, by omega, hcap, hmax, blkT, ?_⟩
    rw [E1.out, E2.out]
    intro i x hx
    match i, hx with
    | 0, hx => obtain rfl := Option.some.inj hx; exact hR
    | 1, hx => obtain rfl := Option.some.inj hx; exact hG0
    | 2, hx => obtain rfl := Option.some.inj hx; exact hG1
    | (_ + 3), hx => simp at hx
/- The program's NormalizeDevice: one contract. -/
theorem implNorm_any (kind wd len : Int) (sv : Value) (zs : List Int) (w : World) (h : IntSl w sv zs) (hn : zs.length ≤ 1048576) :
    Calls Tryz.prog 26 #[.agg #[.int .i64 kind, sv, .int .i64 wd, .int .i64 len]] w fun e w' => ∃ v, e = .returned (.agg #[.int .i64 kind, v, .int .i64 wd, .int .i64 len]) ∧ OwnI w' w.heap.size v (normz kind zs) ∧ Below w.heap.size w w' := by
  by_cases hs : 0 < pinc kind ∧ (zs.length : Int) = pinc kind
  · rcases normz_yes hs with ⟨p, q, rfl, hk, e⟩ | ⟨r, p, q, rfl, hk, e⟩
    · rw [e]; exact implNorm_two kind wd len sv p q w h hk
    · rw [e]; exact implNorm_three kind wd len sv r p q w h hk
  · rw [normz_no hs]; exact implNorm_no kind wd len sv zs w h hn hs
open Go.Sort (swp PermIn SortedIn SWO size_swp swp_get swp_other swp_left swp_right)
def nrmTo (ds : List Dv) (k : Nat) : List Dv := (ds.take k).map normD ++ ds.drop k
theorem nrmTo_zero (ds : List Dv) : nrmTo ds 0 = ds := by simp [nrmTo]
theorem nrmTo_all (ds : List Dv) : nrmTo ds ds.length = ds.map normD := by simp [nrmTo]
theorem length_nrmTo (ds : List Dv) (k : Nat) : (nrmTo ds k).length = ds.length := by simp [nrmTo]; omega
theorem nrmTo_get (ds : List Dv) (k : Nat) (x : Dv) (h : ds[k]? = some x) : (nrmTo ds k)[k]? = some x := by
  have hk := (List.getElem?_eq_some_iff.1 h).1
  unfold nrmTo
  rw [List.getElem?_append_right (by simp; omega)]
  simp
  rw [show k - min k ds.length = 0 by omega]
  simpa using h
theorem nrmTo_step (ds : List Dv) (k : Nat) (x : Dv) (h : ds[k]? = some x) : (nrmTo ds k).set k (normD x) = nrmTo ds (k + 1) := by
  have hk := (List.getElem?_eq_some_iff.1 h).1
  unfold nrmTo
  rw [take_snoc_of ds k x h, List.map_append, List.set_append_right _ _ (by simp; omega)]
  simp
  have e : ds.drop k = x :: ds.drop (k + 1) := by
    obtain ⟨hlt, e⟩ := List.getElem?_eq_some_iff.1 h
    rw [List.drop_eq_getElem_cons hlt, e]
  rw [show k - min k ds.length = 0 by omega, e]
  simp
def NrmRow (w : World) (lo g : Nat) (ds : List Dv) (k : Nat) : Prop := lo ≤ g ∧ ∃ d : Array (Dv × Nat), DRow w g d ∧ d.toList.map (·.1) = nrmTo ds k ∧ (d.toList.map (·.2)).Nodup ∧ ∀ p ∈ d.toList, lo ≤ p.2 ∧ p.2 < w.heap.size ∧ p.2 ≠ g
section
variable {w w1 : World} {lo g k : Nat} {ds : List Dv}
theorem NrmRow.by (hb : Below w.heap.size w w1) (h : NrmRow w lo g ds k) : NrmRow w1 lo g ds k := by
  obtain ⟨h0, d, a, b, c, e⟩ := h
  exact ⟨h0, d, a.by hb, b, c, fun p hp => ⟨(e p hp).1, Nat.lt_of_lt_of_le (e p hp).2.1 hb.size, (e p hp).2.2⟩⟩
theorem NrmRow.lt (h : NrmRow w lo g ds k) : g < w.heap.size := by obtain ⟨_, d, a, _⟩ := h; exact a.lt
theorem NrmRow.get (h : NrmRow w lo g ds k) {x : Dv} (hx : ds[k]? = some x) : ∃ (cs : Array Value) (pv : Value), Blk w g cs 46 ∧ Cs4 cs k (.int .i64 x.kind) pv (.int .i64 x.wd) (.int .i64 x.len) ∧ IntSl w pv x.pins := by
  obtain ⟨_, d, ⟨cs, hB, hR⟩, b, c, e⟩ := h
  have hg : (d.toList.map (·.1))[k]? = some x := by rw [b]; exact nrmTo_get ds k x hx
  rw [List.getElem?_map] at hg
  obtain ⟨p, hp, he⟩ : ∃ p, d.toList[k]? = some p ∧ p.1 = x := by
    cases h : d.toList[k]? with
    | none => rw [h] at hg; simp at hg
    | some p => rw [h] at hg; exact ⟨p, rfl, by simpa using hg⟩
  obtain ⟨hi, e1⟩ := list_getBang d k p hp
  obtain ⟨⟨pv, a1, a2⟩, a3⟩ := hR k hi
  rw [e1, he] at a1 a2
  exact ⟨cs, pv, hB, a1, a2.sl⟩
theorem RowC.put {d : Array (Dv × Nat)} {cs : Array Value} (h : RowC w g d cs) {i : Nat} (hi : i < d.size) {x : Dv} {pv : Value} {fb : Nat} (hO : OwnR w fb (fb + 1) pv x.pins) (hfb : fb ≠ g) :
    RowC w g (d.setIfInBounds i (x, fb)) (set4 cs i (.int .i64 x.kind) pv (.int .i64 x.wd) (.int .i64 x.len)) := by
  intro k hk
  rw [Array.size_setIfInBounds] at hk
  obtain ⟨⟨p0, c0, _⟩, _⟩ := h i hi
  have sz := (Array.getElem?_eq_some_iff.1 c0.2.2.2).1
  by_cases e : k = i
  · subst e
    have e1 : (d.setIfInBounds k (x, fb))[k]! = (x, fb) := by simp [hi]
    rw [e1]
    exact ⟨⟨pv, set4_same _ _ _ _ _ _ sz, hO⟩, hfb⟩
  · have e1 : (d.setIfInBounds i (x, fb))[k]! = d[k]! := by
      have hk' : k < (d.setIfInBounds i (x, fb)).size := by simpa using hk
      rw [getBang _ k hk', getBang _ k hk]
      exact Array.getElem_setIfInBounds_ne hk (by omega)
    rw [e1]
    obtain ⟨⟨pv', a, b⟩, c⟩ := h k hk
    exact ⟨⟨pv', a.at_ (fun q h1 h2 => set4_other _ _ _ _ _ _ _ (by omega)), b⟩, c⟩
theorem NrmRow.step (h : NrmRow w lo g ds k) (hb : Below w.heap.size w w1) {x : Dv} (hx : ds[k]? = some x) {pv : Value} {fb : Nat} (h1 : w.heap.size ≤ fb) (h2 : fb < w1.heap.size) (hO : OwnR w1 fb (fb + 1) pv (normD x).pins) (hlo : lo ≤ w.heap.size) :
    ∃ W, W = (((w1.setCell ⟨g, k * 4, none⟩ (.int .i64 x.kind)).setCell ⟨g, k * 4 + 1, none⟩ pv).setCell ⟨g, k * 4 + 2, none⟩ (.int .i64 x.wd)).setCell ⟨g, k * 4 + 3, none⟩ (.int .i64 x.len) ∧ NrmRow W lo g ds (k + 1) ∧ Within g (g + 1) w1 W := by
  have hgl := h.lt
  obtain ⟨h0, d, ⟨cs, hB, hR⟩, b, c, e⟩ := h
  have hdl : d.size = ds.length := by have := congrArg List.length b; simpa [length_nrmTo] using this
  have hk := (List.getElem?_eq_some_iff.1 hx).1
  have hB1 := Blk.by hb hB
  have hW : Within g (g + 1) w1 ((((w1.setCell ⟨g, k * 4, none⟩ (.int .i64 x.kind)).setCell ⟨g, k * 4 + 1, none⟩ pv).setCell ⟨g, k * 4 + 2, none⟩ (.int .i64 x.wd)).setCell ⟨g, k * 4 + 3, none⟩ (.int .i64 x.len)) := (((Within.off _).on (Within.off _)).on (Within.off _)).on (Within.off _)
  have hR1 := (hR.past (Within.ofBelow (lo := g) (hi := g + 1) hb)).past hW
  have hO1 := hO.past hW (by omega)
  have e1 : (d.setIfInBounds k (normD x, fb)).toList = d.toList.set k (normD x, fb) := by simp
  refine ⟨_, rfl, ⟨h0, d.setIfInBounds k (normD x, fb), ⟨_, (((hB1.set _ _).set _ _).set _ _).set _ _, RowC.put hR1 (x := normD x) (by omega) hO1 (by omega)⟩, ?_, ?_, ?_⟩, hW⟩
  · rw [e1, List.map_set, b]
    exact nrmTo_step ds k x hx
  · rw [e1, List.map_set]
    rw [List.nodup_iff_pairwise_ne] at c ⊢
    rw [List.pairwise_iff_getElem] at c ⊢
    intro i j hi hj hij
    simp only [List.length_set, List.length_map, Array.length_toList] at hi hj
    have old : ∀ q (hq : q < d.size), (d.toList.map (·.2))[q]'(by simpa using hq) < w.heap.size := fun q hq => by
      have := e d.toList[q] (List.getElem_mem (by simpa using hq))
      simpa using this.2.1
    simp only [List.getElem_set]
    split
    · split
      · omega
      · have := old j hj; omega
    · split
      · have := old i hi; omega
      · exact c i j (by simpa using hi) (by simpa using hj) hij
  · intro p hp
    rw [e1] at hp
    have hsz := hW.size
    rcases List.mem_or_eq_of_mem_set hp with hp | rfl
    · obtain ⟨q1, q2, q3⟩ := e p hp
      exact ⟨q1, by have := hb.size; omega, q3⟩
    · exact ⟨by show lo ≤ fb; omega, by show fb < _; omega, by show fb ≠ g; omega⟩
theorem NrmRow.start {hi : Nat} {sv : Value} (h : OwnDs w lo hi sv ds) (hhi : hi ≤ w.heap.size) (hne : ds ≠ []) : ∃ g cap, sv = .slice (some ⟨g, 0, none⟩) ds.length cap ∧ g < hi ∧ ds.length ≤ cap ∧ cap ≤ maxLen ∧ NrmRow w lo g ds 0 := by
  obtain ⟨g, cap, d, h1, h2, h3, h4, h5, h6, h7, h8, h9⟩ := h.row hne
  rw [h2] at h1
  exact ⟨g, cap, h1, h3.2, h4, h5, h3.1, d, h6, by rw [nrmTo_zero]; exact h7, h8, fun p hp => ⟨(h9 p hp).1, by have := (h9 p hp).2.1; omega, (h9 p hp).2.2⟩⟩
theorem NrmRow.done {cap : Nat} (h : NrmRow w lo g ds ds.length) (h1 : ds.length ≤ cap) (h2 : cap ≤ maxLen) : OwnDs w lo w.heap.size (.slice (some ⟨g, 0, none⟩) ds.length cap) (ds.map normD) := by
  have hgl := h.lt
  obtain ⟨h0, d, a, b, c, e⟩ := h
  have hdl : d.size = ds.length := by have := congrArg List.length b; simpa [length_nrmTo] using this
  rw [nrmTo_all] at b
  rw [← b, ← hdl]
  exact a.own ⟨h0, hgl⟩ (by omega) h2 c e
end
def NrmSt (w : World) (l1 h1 : Nat) (sv : Value) (ds : List Dv) (k : Nat) : Prop := (∃ a c, sv = .slice a 0 c ∧ ds = []) ∨ ∃ g cap, sv = .slice (some ⟨g, 0, none⟩) ds.length cap ∧ (l1 ≤ g ∧ g < h1) ∧ ds.length ≤ cap ∧ cap ≤ maxLen ∧ NrmRow w l1 g ds k
theorem NrmSt.start {w : World} {l1 h1 : Nat} {sv : Value} {ds : List Dv} (h : OwnDs w l1 h1 sv ds) (hhi : h1 ≤ w.heap.size) : NrmSt w l1 h1 sv ds 0 := by
  by_cases hne : ds = []
  · subst hne
    obtain ⟨a, c, rfl⟩ := h.sl.sized
    exact .inl ⟨a, c, rfl, rfl⟩
  · obtain ⟨g, cap, e, g1, g2, g3, g4⟩ := NrmRow.start h hhi hne
    exact .inr ⟨g, cap, e, ⟨g4.1, g1⟩, g2, g3, g4⟩
theorem NrmSt.by {w w1 : World} {l1 h1 k : Nat} {sv : Value} {ds : List Dv} (hb : Below w.heap.size w w1) (h : NrmSt w l1 h1 sv ds k) : NrmSt w1 l1 h1 sv ds k := by
  rcases h with h | ⟨g, cap, e, g1, g2, g3, g4⟩
  · exact .inl h
  · exact .inr ⟨g, cap, e, g1, g2, g3, g4.by hb⟩
theorem NrmSt.done {w : World} {l1 h1 : Nat} {sv : Value} {ds : List Dv} (h : NrmSt w l1 h1 sv ds ds.length) : OwnDs w l1 w.heap.size sv (ds.map normD) := by
  rcases h with ⟨a, c, e, h⟩ | ⟨g, cap, e, g1, g2, g3, g4⟩
  · subst h; exact .inl ⟨a, c, e, rfl⟩
  · rw [e]; exact g4.done g2 g3
def NlA (m : Nat) (w : World) (v : Value) (x : Nl) : Prop := ∃ s1 s2, v = .agg #[.int .i64 x.nets, s1, s2] ∧ (∃ lo hi, m ≤ lo ∧ OwnDs w lo hi s1 x.ds) ∧ ∃ lo hi, m ≤ lo ∧ OwnPs w lo hi s2 x.ps
section
variable {m : Nat} {w w' : World} {v : Value} {x : Nl}
theorem NlA.nl (h : NlA m w v x) : NlV w v x := by
  obtain ⟨s1, s2, e, ⟨l1, h1, r1, o1⟩, l2, h2, r2, o2⟩ := h
  exact ⟨s1, s2, e, o1.sl, o2.sl⟩
theorem NlA.by (hb : Below w.heap.size w w') (h : NlA m w v x) : NlA m w' v x := by
  obtain ⟨s1, s2, e, ⟨l1, h1, r1, o1⟩, l2, h2, r2, o2⟩ := h
  exact ⟨s1, s2, e, ⟨l1, h1, r1, o1.by hb⟩, l2, h2, r2, o2.by hb⟩
theorem NlA.past {lo hi : Nat} (hw : Within lo hi w w') (h : NlA m w v x) (hh : hi ≤ m) : NlA m w' v x := by
  obtain ⟨s1, s2, e, ⟨l1, h1, r1, o1⟩, l2, h2, r2, o2⟩ := h
  exact ⟨s1, s2, e, ⟨l1, h1, r1, o1.past hw (by omega)⟩, l2, h2, r2, o2.past hw (by omega)⟩
theorem NlA.low {m' : Nat} (h : NlA m w v x) (hm : m' ≤ m) : NlA m' w v x := by
  obtain ⟨s1, s2, e, ⟨l1, h1, r1, o1⟩, l2, h2, r2, o2⟩ := h
  exact ⟨s1, s2, e, ⟨l1, h1, by omega, o1⟩, l2, h2, by omega, o2⟩
theorem OwnNl.a {lo hi : Nat} (h : OwnNl w lo hi v x) : NlA lo w v x := by
  obtain ⟨s1, s2, l1, h1, l2, h2, e, a, b, c, d, f⟩ := h
  exact ⟨s1, s2, e, ⟨l1, h1, c.1, a⟩, l2, h2, d.1, b⟩
theorem OwnNlX.a {lo hi : Nat} (h : OwnNlX w lo hi v x) : NlA lo w v x := by
  obtain ⟨s1, s2, P, e, a, b, c⟩ := h
  exact ⟨s1, s2, e, ⟨lo, hi, Nat.le_refl _, a.ods⟩, P, P + 1, c.1, b⟩
theorem NlA.sized (h : NlA m w v x) : ∃ a c a' c', v = .agg #[.int .i64 x.nets, .slice a x.ds.length c, .slice a' x.ps.length c'] := h.nl.sized
end
theorem three_cells {w : World} {T : Nat} {a b c a' b' c' : Value} {ty : TypeId} (h : Blk w T #[a, b, c] ty) : ∃ W, W = ((w.setCell ⟨T, 0, none⟩ a').setCell ⟨T, 1, none⟩ b').setCell ⟨T, 2, none⟩ c' ∧ Blk W T #[a', b', c'] ty ∧ Within T (T + 1) w W :=
  ⟨_, rfl, ((h.set 0 a').set 1 b').set 2 c', ((Within.off _).on (Within.off _)).on (Within.off _)⟩
/- ReduceNetlist, the program's. -/
set_option maxRecDepth 100000 in
set_option maxHeartbeats 2000000 in
theorem implRd_no (x : Nl) (v : Value) (w : World) (h : NlV w v x) (hok : ∀ p ∈ x.ps, p.ok) (hnn : Fits x.nets) (hv : nlB x = false) :
    Calls Tryz.prog 7 #[v] w fun e w' => ∃ v', e = .returned (.tuple #[v', .int .i64 (rdC x)]) ∧ OwnNl w' w.heap.size w'.heap.size v' (rdS x) ∧ Below w.heap.size w w' := by
  rw [(rd_no hv).1, (rd_no hv).2]
  have HV := Lib.hid (fun v w h => implNl_any x v w h hok hnn)
  rw [hv] at HV
  have HN := Lib.hid h
  obtain ⟨a, c, a', c', rfl⟩ := h.sized
  clear h hok hv
  go_enter Tryz.func7, Tryz.ntmps7
  go_wp2_with (go_at_call 12; refine (HV.out _ _ (HN.out.by blwT)).mono ?_; rintro e w1 ⟨rfl, hb1⟩; have k1 : Blk w1 (w.heap.size + 1) #[.int .i64 0, .slice none 0 0, .slice none 0 0] 27 := blkT; have f1 := k1.free; have c1 := k1.cell; have l1 := k1.lt)
  exact bodyPost_ret (v := .tuple #[.agg #[.int .i64 0, .slice none 0 0, .slice none 0 0], .int .i64 1]) (by simp [results, Tryz.results7, go_sem, *]) rfl ⟨_, rfl, ownNl_nil _ _ _ (by simp; omega), blwT⟩
set_option maxRecDepth 100000 in
set_option maxHeartbeats 8000000 in
theorem implRd_yes (x : Nl) (v : Value) (w : World) (h : NlV w v x) (hok : ∀ p ∈ x.ps, p.ok) (hnn : Fits x.nets) (hv : nlB x = true) :
    Calls Tryz.prog 7 #[v] w fun e w' => ∃ v', e = .returned (.tuple #[v', .int .i64 (rdC x)]) ∧ OwnNl w' w.heap.size w'.heap.size v' (rdS x) ∧ Below w.heap.size w w' := by
  have HV := Lib.hid (fun v w h => implNl_any x v w h hok hnn)
  rw [hv] at HV
  have HN := Lib.hid h
  obtain ⟨_, hl24, hp8, hdv, _⟩ := nlB_facts hv
  have HCP := Lib.hid (fun v w h => copyNetlist_any x v w h (by omega) (by omega) (fun d hd => by have h1 := (dvB_pins (hdv d hd)).1; have h2 := (dvB_pins (hdv d hd)).2.1; exact ⟨by omega, fun e => by rw [e] at h2; simp at h2⟩))
  have HRM := Lib.hid (fun (y : Nl) v w h (h1 : y.nets = x.nets) (h2 : y.ps = x.ps) => implRm_any y v w h (by rw [h2]; exact hok) (by rw [h1]; exact hnn))
  have HNP := Lib.hid (fun (y : Nl) v w h (h1 : y.nets = x.nets) (h2 : y.ps = x.ps) hv => nextPair_any y v w h (by rw [h2]; exact hok) (by rw [h1]; exact hnn) hv)
  have HMP := Lib.hid (fun (y : Nl) i j v w h (h1 : y.nets = x.nets) (h2 : y.ps = x.ps) => implMp_any y i j v w h (by rw [h2]; exact hok) (by rw [h1]; exact hnn))
  have HVX := Lib.hid hv
  obtain ⟨a, c, a', c', rfl⟩ := h.sized
  clear h hok hv hdv
  go_enter Tryz.func7, Tryz.ntmps7
  go_wp2_with fail
  refine (HV.out _ _ (HN.out.by blwT)).mono ?_
  rintro e w1 ⟨rfl, hb1⟩
  have k0 : Blk w1 w.heap.size #[.int .i64 x.nets, .slice a x.ds.length c, .slice a' x.ps.length c'] 27 := blkT
  have k1 : Blk w1 (w.heap.size + 1) #[.int .i64 0, .slice none 0 0, .slice none 0 0] 27 := blkT
  have hB1 : Below w.heap.size w w1 := blwT
  have c0 := k0.cell
  have l1 := k1.lt
  clear hb1
  go_wp2_with fail
  refine (HCP.out _ _ (HN.out.by hB1)).mono ?_
  rintro e w2 ⟨v2, rfl, hO, hb2⟩
  have hsz2 := hb2.size
  have HO := Lib.hid hO.a
  obtain ⟨a1, c1, a2, c2, rfl⟩ := hO.nl.sized
  have k12 := Blk.by hb2 k1
  have hB2 := below_on hb2 hB1
  clear c0 k0 hb2 hO HN HCP HV
  obtain ⟨T, hT⟩ : ∃ T, w2.heap.size = T := ⟨_, rfl⟩
  obtain ⟨w3, hw3⟩ : ∃ z, z = w2.alloc (.cells #[.int .i64 x.nets, .slice a1 x.ds.length c1, .slice a2 x.ps.length c2] 27) := ⟨_, rfl⟩
  have hal : Below w2.heap.size w2 w3 := by rw [hw3]; exact (Below.refl _ w2).alloc (Nat.le_refl _) _
  have kT3 : Blk w3 T #[.int .i64 x.nets, .slice a1 x.ds.length c1, .slice a2 x.ps.length c2] 27 := by rw [hw3]; exact Blk.new _ hT.symm
  have kZ3 := Blk.by hal k12
  have hB3 := below_on hal hB2
  have hO3 := HO.out.by hal
  have hT1 : w.heap.size + 1 < T := by omega
  go_upto_region 4 with fail
  rw [← hw3]
  (try rw [hT])
  have HO3 := Lib.hid hO3.nl
  have HX0 := Lib.hid (show nlB x = true ∧ x.nets = x.nets ∧ x.ps = x.ps ∧ redF x = redF x from ⟨HVX.out, rfl, rfl, rfl⟩)
  clear hw3 hal hO3 HO hB2 k12 hsz2 hB1 l1 k1 hT
  go_loopg [5] (x.ds.length) (fun gk vp wr => ∃ (y : Nl) (b1 : Option Addr) (d1 : Nat) (b2 : Option Addr) (d2 : Nat), Hid (y.ds.length ≤ gk) ∧ Hid (nlB y = true ∧ y.nets = x.nets ∧ y.ps = x.ps ∧ redF y = redF x) ∧ Blk wr T #[.int .i64 x.nets, .slice b1 y.ds.length d1, .slice b2 x.ps.length d2] 27 ∧ Hid (NlV wr (.agg #[.int .i64 x.nets, .slice b1 y.ds.length d1, .slice b2 x.ps.length d2]) y) ∧ Blk wr (w.heap.size + 1) #[.int .i64 0, .slice none 0 0, .slice none 0 0] 27 ∧ Below w.heap.size w wr)
  case atStart => exact ⟨x, a1, c1, a2, c2, Lib.hid (Nat.le_refl _), HX0, kT3, HO3, kZ3, hB3⟩
  case round =>
    clear HX0 kT3 HO3 kZ3 hB3
    obtain ⟨y, b1, d1, b2, d2, HG, HY, kT, HNY, kZ, hb⟩ := hrel
    have cT := kT.cell
    have lT := kT.lt
    go_wp2_with fail
    refine (HRM.out y _ _ HNY.out HY.out.2.1 HY.out.2.2.1).mono ?_
    rintro e4 w4 ⟨v4, rfl, hO4, hb4⟩
    have hzf : nlB (rmS y) = true ∧ (rmS y).nets = x.nets ∧ (rmS y).ps = x.ps ∧ (rmS y).ds.length ≤ y.ds.length := ⟨rmS_valid HY.out.1, (rmS_same HY.out.1).1.trans HY.out.2.1, (rmS_same HY.out.1).2.trans HY.out.2.2.1, rmS_len y⟩
    have HRS := Lib.hid (fun h => HY.out.2.2.2.symm.trans (redF_stop (x := y) h))
    have HRE1 := Lib.hid (fun h h' => HY.out.2.2.2.symm.trans (redF_err (x := y) h h'))
    have HRG := Lib.hid (fun h h' => HY.out.2.2.2.symm.trans (redF_go (x := y) h h'))
    have HGL := Lib.hid (Nat.le_trans hzf.2.2.2 HG.out)
    obtain ⟨z, hz⟩ : ∃ z, rmS y = z := ⟨_, rfl⟩
    rw [hz] at hzf hO4 HRS HRE1 HRG HGL
    obtain ⟨b3, d3, b4, d4, rfl⟩ := hO4.nl.sized
    rw [hzf.2.1, hzf.2.2.1] at hO4
    rw [hzf.2.1, hzf.2.2.1]
    have HZF := Lib.hid hzf
    have kT4 := Blk.by hb4 kT
    have kZ4 := Blk.by hb4 kZ
    have hb4w := below_on hb4 hb
    have c4 := kT4.cell
    have f4 := kT4.free
    have l4 := kT4.lt
    have hTw : T < wr.heap.size := lT
    have HO4 := Lib.hid hO4
    clear cT lT hO4 hzf hz kT kZ hb HNY HY HG
    go_upto_region 5 with fail
    obtain ⟨w5, hw5, kT5, hW5⟩ := three_cells kT4 (a' := .int .i64 x.nets) (b' := .slice b3 z.ds.length d3) (c' := .slice b4 x.ps.length d4)
    rw [← hw5]
    have HO5 := Lib.hid (HO4.out.past hW5 (by omega))
    have kZ5 := hW5.blk kZ4 (by omega)
    have hb5 := hW5.below hb4w (by omega)
    have hs5 := hW5.size
    clear hw5 c4 f4 l4 kT4 kZ4 HO4 hb4w
    have hnp : ∀ v w, NlV w v z → Calls Tryz.prog 24 #[v] w fun e w' => e = .returned (.tuple #[.int .i64 (nextP z).1, .int .i64 (nextP z).2.1, .bool (nextP z).2.2]) ∧ Below w.heap.size w w' := fun v w h => by
      refine (HNP.out z v w h HZF.out.2.1 HZF.out.2.2.1 HZF.out.1).mono ?_
      rintro e w' ⟨he, hb⟩
      refine ⟨?_, hb⟩
      unfold nextP
      by_cases hq : (firstP parB z.ds).2.2 = true
      · rw [if_pos hq] at he ⊢; rw [he, hq]
      · rw [if_neg hq] at he ⊢; exact he
    have HNX := Lib.hid hnp
    obtain ⟨pi, hpi⟩ : ∃ p, (nextP z).1 = p := ⟨_, rfl⟩
    obtain ⟨pj, hpj⟩ : ∃ p, (nextP z).2.1 = p := ⟨_, rfl⟩
    obtain ⟨pk, hpk⟩ : ∃ p, (nextP z).2.2 = p := ⟨_, rfl⟩
    rw [hpi, hpj, hpk] at HNX
    rw [hpi, hpj, hpk] at HRE1 HRG
    rw [hpk] at HRS
    clear hnp hpi hpj hpk
    have c5 := kT5.cell
    have l5 := kT5.lt
    go_wp2_with fail
    refine (HNX.out _ _ HO5.out.nl).mono ?_
    rintro e6 w6 ⟨rfl, hb6⟩
    have HO6 := Lib.hid (HO5.out.by hb6)
    have kT6 := Blk.by hb6 kT5
    have kZ6 := Blk.by hb6 kZ5
    have hb6w := below_on hb6 hb5
    have hs6 := hb6.size
    clear c5 l5 hb6 HO5 kT5 kZ5 hb5 HNX
    have c6 := kT6.cell
    have l6 := kT6.lt
    have hT6 : T < w6.heap.size := l6
    cases pk with
    | true =>
      go_wp2_with fail
      refine (HMP.out z pi pj _ _ HO6.out.nl HZF.out.2.1 HZF.out.2.2.1).mono ?_
      rintro e7 w7 ⟨v7, rfl, hO7, hb7⟩
      have HO7 := Lib.hid hO7.a
      obtain ⟨b5, d5, b6, d6, rfl⟩ := hO7.nl.sized
      have kT7 := Blk.by hb7 kT6
      have kZ7 := Blk.by hb7 kZ6
      have hb7w := below_on hb7 hb6w
      have hs7 := hb7.size
      clear hO7 hb7 c6 l6 kT6 kZ6 HO6 hb6w
      by_cases hcd : mgC z pi pj = 0
      · have hmf := mgR_facts hcd
        have HRG2 := Lib.hid (HRG.out (by first | trivial | rfl) hcd)
        have HMF := Lib.hid hmf
        rw [hmf.2.1, hmf.2.2.1, HZF.out.2.1, HZF.out.2.2.1] at HO7
        rw [hmf.2.1, hmf.2.2.1, HZF.out.2.1, HZF.out.2.2.1]
        rw [hcd]
        obtain ⟨u, hu⟩ : ∃ u, mgR z pi pj = u := ⟨_, rfl⟩
        rw [hu] at HO7 HRG2 HMF ⊢
        clear hmf hcd hu HRG HRE1 HRS
        have fT7 := kT7.free
        have cT7 := kT7.cell
        have lT7 := kT7.lt
        obtain ⟨w8, hw8, kT8, hW8⟩ := three_cells kT7 (a' := .int .i64 x.nets) (b' := .slice b5 u.ds.length d5) (c' := .slice b6 x.ps.length d6)
        obtain ⟨w9, hw9⟩ : ∃ q, q = w8.alloc (.cells #[.int .i64 x.nets, .slice b5 u.ds.length d5, .slice b6 x.ps.length d6] 27) := ⟨_, rfl⟩
        have hal : Below w8.heap.size w8 w9 := by rw [hw9]; exact (Below.refl _ w8).alloc (Nat.le_refl _) _
        have kT9 := Blk.by hal kT8
        have kZF := Blk.by hal (hW8.blk kZ7 (by omega))
        have hbF := below_on hal (hW8.below hb7w (by omega))
        have HNF := Lib.hid ((HO7.out.past hW8 (by omega)).by hal).nl
        go_wp2_with fail
        rw [← hw8, ← hw9]
        have HFIN := Lib.hid (show u.ds.length < gk ∧ nlB u = true ∧ u.nets = x.nets ∧ u.ps = x.ps ∧ redF u = redF x from ⟨by have := HMF.out.2.2.2; have := HGL.out; omega, HMF.out.1, HMF.out.2.1.trans HZF.out.2.1, HMF.out.2.2.1.trans HZF.out.2.2.1, HRG2.out.symm⟩)
        go_roundg u.ds.length
        case measure => exact HFIN.out.1
        case rel => exact ⟨u, b5, d5, b6, d6, Lib.hid (Nat.le_refl _), Lib.hid HFIN.out.2, kT9, HNF, kZF, hbF⟩
      · have hre := rd_err HVX.out (by rw [HRE1.out (by first | trivial | rfl) hcd]; exact hcd)
        have hr2 : (redF x).2 = mgC z pi pj := by rw [HRE1.out (by first | trivial | rfl) hcd]
        rw [hr2] at hre
        have HRE := Lib.hid hre
        have hcb : (mgC z pi pj == 0) = false := by simpa using hcd
        have hcb2 : (mgC z pi pj != 0) = true := by simpa using hcd
        obtain ⟨cc, hcc⟩ : ∃ c, mgC z pi pj = c := ⟨_, rfl⟩
        rw [hcc] at hcb hcb2 HRE ⊢
        clear hcc
        have cZ7 := kZ7.cell
        have fZ7 := kZ7.free
        have lZ7 := kZ7.lt
        obtain ⟨u, hu⟩ : ∃ u, mgR z pi pj = u := ⟨_, rfl⟩
        rw [hu]
        clear hre hr2 hcd hu HRG HRE1 HRS HO7
        go_wp2
        refine bodyPost_ret (v := .tuple #[.agg #[.int .i64 0, .slice none 0 0, .slice none 0 0], .int .i64 cc]) (by simp [results, Tryz.results7, go_sem, *]) rfl ⟨_, by rw [HRE.out.2], ?_, ?_⟩
        · rw [HRE.out.1]
          exact ownNl_nil _ _ _ (by have := hb7w.size; simp; omega)
        · repeat (first | (with_reducible exact hb7w) | ((with_reducible refine Below.setCell ?_ ?_ _); rotate_left; focus (simp; try omega)) | (with_reducible refine below_al ?_ _))
    | false =>
      have hrs := HRS.out (by first | trivial | rfl)
      have hre := rd_yes HVX.out hrs
      obtain ⟨RR, hRR⟩ : ∃ RR, cmS (sortS (nrmS z)) = RR := ⟨_, rfl⟩
      rw [hRR] at hre
      have HRE := Lib.hid hre
      obtain ⟨_, zl24, zp8, zdv, _⟩ := nlB_facts HZF.out.1
      have nv := nrmS_valid HZF.out.1
      obtain ⟨_, nl24, np8, ndv, _⟩ := nlB_facts nv
      have HSO := Lib.hid (fun v w h => implSorted_any (nrmS z) v w h (by omega) (by omega) (fun d hd => by have h1 := (dvB_pins (ndv d hd)).1; have h2 := (dvB_pins (ndv d hd)).2.1; exact ⟨by omega, fun e => by rw [e] at h2; simp at h2⟩))
      have HCM := Lib.hid (fun v w h => compact_any (sortS (nrmS z)) v w h (sortS_valid nv))
      rw [hRR] at HCM
      have HDV := Lib.hid zdv
      obtain ⟨s1, s2, l1, h1, l2, h2, ee, hOD, hOP, ⟨m1, m2⟩, ⟨m3, m4⟩, hdis⟩ := HO6.out
      obtain rfl : Value.slice b3 z.ds.length d3 = s1 := by have := congrArg (fun v => match v with | .agg a => a[1]? | _ => none) ee; simpa using this
      obtain rfl : Value.slice b4 x.ps.length d4 = s2 := by have := congrArg (fun v => match v with | .agg a => a[2]? | _ => none) ee; simpa using this
      rw [HZF.out.2.2.1] at hOP
      have HST := Lib.hid (NrmSt.start hOD (by omega))
      have HOP := Lib.hid hOP
      clear hrs hre hRR nv ndv zdv hOD hOP ee HO6 HRS HRG HRE1 nl24 np8
      go_wp2
      go_loopw [43] (fun vi wr => ∃ k : Nat, k ≤ z.ds.length ∧ vi = .int .i64 k ∧ Hid (NrmSt wr l1 h1 (.slice b3 z.ds.length d3) z.ds k) ∧ Hid (OwnPs wr l2 h2 (.slice b4 x.ps.length d4) x.ps) ∧ Blk wr T #[.int .i64 x.nets, .slice b3 z.ds.length d3, .slice b4 x.ps.length d4] 27 ∧ Blk wr (w.heap.size + 1) #[.int .i64 0, .slice none 0 0, .slice none 0 0] 27 ∧ (h1 ≤ wr.heap.size ∧ h2 ≤ wr.heap.size) ∧ Below w.heap.size w wr) (fun vi _ => z.ds.length - (intOf vi).toNat)
      case atStart => exact ⟨0, Nat.zero_le _, rfl, HST, HOP, kT6, kZ6, ⟨by omega, by omega⟩, hb6w⟩
      case round =>
        clear HST HOP kT6 kZ6 hb6w c6 l6
        obtain ⟨k, hk, rfl, HST, HOP, kT, kZ, ⟨hh1, hh2⟩, hb⟩ := hrel
        by_cases hlk : k < z.ds.length
        · obtain ⟨D, hD⟩ : ∃ D, z.ds[k]? = some D := ⟨_, List.getElem?_eq_getElem hlk⟩
          have hst := HST.out
          rcases hst with ⟨_, _, _, h0⟩ | ⟨g, cap, eg, hg, hcap, hmax, hrow⟩
          · rw [h0] at hlk; simp at hlk
          obtain ⟨rfl, rfl⟩ : b3 = some ⟨g, 0, none⟩ ∧ d3 = cap := by simpa using eg
          obtain ⟨cs, pv, hB, ⟨p0, p1, p2, p3⟩, hpv⟩ := hrow.get hD
          have hdd := dvB_pins (HDV.out D (List.mem_of_getElem? hD))
          have HNM := Lib.hid (fun w h => implNorm_any D.kind D.wd D.len pv D.pins w h (by omega))
          have HNE := Lib.hid (show normz D.kind D.pins ≠ [] from fun e => by have := (normz_facts D.kind D.pins).1; rw [e] at this; simp at this; omega)
          obtain ⟨ap, cp, rfl⟩ := hpv.len
          have HPV := Lib.hid hpv
          have HROW := Lib.hid hrow
          have HD := Lib.hid hD
          have hBc := hB.cell
          have hBl := hB.lt
          have cT := kT.cell
          have lT := kT.lt
          have i1 : (0 : Int) ≤ (k : Int) := by omega
          have i2 : (k : Int) < (z.ds.length : Int) := by omega
          clear hD eg hpv hrow hdd
          go_upto_region 14 with fail
          obtain ⟨E, hE⟩ : ∃ E, wr.heap.size = E := ⟨_, rfl⟩
          obtain ⟨w7, hw7⟩ : ∃ q, q = wr.alloc (.cells #[.int .i64 D.kind, .slice ap D.pins.length cp, .int .i64 D.wd, .int .i64 D.len] 46) := ⟨_, rfl⟩
          have hal : Below wr.heap.size wr w7 := by rw [hw7]; exact (Below.refl _ wr).alloc (Nat.le_refl _) _
          have kE7 : Blk w7 E #[.int .i64 D.kind, .slice ap D.pins.length cp, .int .i64 D.wd, .int .i64 D.len] 46 := by rw [hw7]; exact Blk.new _ hE.symm
          have kT7 := Blk.by hal kT
          have kZ7 := Blk.by hal kZ
          have kG7 := Blk.by hal hB
          have hb7 := below_on hal hb
          have HPV7 := Lib.hid (HPV.out.by hal)
          have HROW7 := Lib.hid (HROW.out.by hal)
          have HOP7 := Lib.hid (HOP.out.by hal)
          have hsz7 := hal.size
          rw [← hw7]
          (try rw [hE])
          have hgE : g < wr.heap.size := hBl
          have hl1 : w.heap.size + 1 < l1 := by omega
          clear hw7 hal cT lT hBc hBl kT kZ hb HPV HROW HOP HST
          have cT := kT7.cell
          have lT := kT7.lt
          have cE := kE7.cell
          have lE := kE7.lt
          go_region_held_law ((fun w' => (Blk w' (T) #[.int .i64 x.nets, .slice (some ⟨g, 0, none⟩) z.ds.length d3, .slice b4 x.ps.length d4] 27 ∧ ∀ o, w'.cell? ⟨T, o, none⟩ = (#[.int .i64 x.nets, .slice (some ⟨g, 0, none⟩) z.ds.length d3, .slice b4 x.ps.length d4] : Array Value)[o]?) ∧ (Blk w' (E) #[.int .i64 D.kind, .slice ap D.pins.length cp, .int .i64 D.wd, .int .i64 D.len] 46 ∧ ∀ o, w'.cell? ⟨E, o, none⟩ = (#[.int .i64 D.kind, .slice ap D.pins.length cp, .int .i64 D.wd, .int .i64 D.len] : Array Value)[o]?) ∧ Below w.heap.size w w')) (((try (obtain ⟨⟨hS0, _⟩, ⟨hS1, _⟩, hSB⟩ := hHeld)); refine ⟨Blk.both ?_, Blk.both ?_, ?_⟩ <;> first | ((repeat (first | (with_reducible assumption) | (with_reducible refine Blk.drewN ?_ _) | (with_reducible refine Blk.drew ?_) | ((with_reducible refine Blk.new _ ?_); focus (first | omega | (simp; done) | (simp; omega))) | (with_reducible refine Blk.past ?_ _) | ((with_reducible refine Blk.apart ?_ _ _ _ ?_); rotate_left; focus (first | omega | (simp; done) | (simp; omega))) | (with_reducible refine Blk.by (by assumption) ?_))); done) | ((repeat (first | (with_reducible exact Below.refl _ _) | (with_reducible refine below_drewN ?_ _) | (with_reducible refine Below.drew ?_) | (with_reducible refine below_al ?_ _) | (with_reducible refine below_on (by assumption) ?_) | ((with_reducible refine Below.setCell ?_ ?_ _); rotate_left; focus (first | omega | (simp; done) | (simp; omega))) | (with_reducible assumption))); done)))
            (first | (go_simp; go_at_call 26; refine (HNM.out _ (HPV7.out.by blwT)).mono ?_; rintro e w8 ⟨pv8, rfl, hOI, hb8⟩; obtain ⟨fb, hf1, hf2, hOR⟩ := hOI.pin HNE.out; have HOR := Lib.hid hOR; obtain ⟨aq, cq, rfl⟩ := hOR.sl.len; clear hOR hOI; have hb88 : Below w7.heap.size w7 w8 := blwT; have hf0 : w7.heap.size ≤ fb := hf1; have kG8 := Blk.by hb88 kG7; have cG8 := kG8.cell; have fG8 := kG8.free; have lG8 := kG8.lt; have kT8 := Blk.by hb88 kT7; have cT8 := kT8.cell; dsimp only))
          all_goals
            go_wp2_with fail
            obtain ⟨W, hW, hROW, hWW⟩ := NrmRow.step HROW7.out hb88 HD.out hf0 hf2 (show OwnR w8 fb (fb + 1) (.slice aq (normz D.kind D.pins).length cq) (normD D).pins from HOR.out) (by omega)
            rw [← hW]
            have hs88 := hb88.size
            have hsW := hWW.size
            have hTl : T < l1 := by omega
            exact ⟨⟨k + 1, by omega, by go_num, Lib.hid (.inr ⟨g, d3, rfl, hg, hcap, hmax, hROW⟩), Lib.hid ((HOP7.out.by hb88).past hWW (by omega)), hWW.blk kT8 (by omega), hWW.blk (Blk.by hb88 kZ7) (by omega), ⟨by omega, by omega⟩, hWW.below (below_on hb88 hb7) (by omega)⟩, by simp [intOf]; omega⟩
        · obtain rfl : k = z.ds.length := by omega
          have hdone := NrmSt.done HST.out
          have HF := Lib.hid (show NlV wr (.agg #[.int .i64 x.nets, .slice b3 z.ds.length d3, .slice b4 x.ps.length d4]) (nrmS z) from ⟨_, _, by rw [show (nrmS z).nets = x.nets from HZF.out.2.1], hdone.sl, by rw [show (nrmS z).ps = x.ps from HZF.out.2.2.1]; exact HOP.out.sl⟩)
          have j3 : ¬ (z.ds.length : Int) < (z.ds.length : Int) := by omega
          clear hdone HST HOP
          have cT := kT.cell
          have lT := kT.lt
          go_wp2_with (first | (go_at_call 28; refine (HSO.out _ _ HF.out).mono ?_; rintro e w8 ⟨v8, rfl, hO8, hb8⟩; have HO8 := Lib.hid hO8.nl; have kZ8 := Blk.by hb8 kZ; have hb8w := below_on hb8 hb; obtain ⟨q1, q2, q3, q4, rfl⟩ := hO8.nl.sized; clear hO8) | (go_at_call 27; refine (HCM.out _ _ HO8.out).mono ?_; rintro e w9 ⟨v9, rfl, hO9, hb9⟩; have HO9 := Lib.hid hO9; have kZ9 := Blk.by hb9 kZ8; have hb9w := below_on hb9 hb8w; obtain ⟨q5, q6, q7, q8, rfl⟩ := hO9.nl.sized; clear hO9; have cZ9 := kZ9.cell; have fZ9 := kZ9.free; have lZ9 := kZ9.lt))
          have hs8 := hb8.size
          have hsw := hb.size
          have hlt9 := kZ8.lt
          have hre := HRE.out
          refine bodyPost_ret (v := .tuple #[.agg #[.int .i64 RR.nets, .slice q5 RR.ds.length q6, .slice q7 RR.ps.length q8], .int .i64 0]) (by simp [results, Tryz.results7, go_sem, *]) rfl ⟨_, by rw [hre.2], ?_, ?_⟩
          · rw [hre.1]
            exact ((((HO9.out.past (Within.off _) (by omega)).past (Within.off _) (by omega)).past (Within.off _) (by omega)).wide (by omega) (by simp))
          · repeat (first | (with_reducible exact hb9w) | ((with_reducible refine Below.setCell ?_ ?_ _); rotate_left; focus (simp; try omega)))
/- ReduceNetlist, the reference's. -/
/- Both ReduceNetlist; bounds of what they answer. -/
theorem redk_valid : ∀ (k : Nat) (x : Nl), nlB x = true → (redk k x).2 = 0 → nlB (redk k x).1 = true
  | 0, x, h, _ => h
  | k + 1, x, h, h' => by
    unfold redk at h' ⊢
    split
    · rename_i h1
      rw [if_pos h1] at h'
      split
      · rename_i h2
        rw [if_pos h2] at h'
        exact redk_valid k _ (mgR_facts h2).1 h'
      · rename_i h2
        rw [if_neg h2] at h'
        exact absurd h' h2
    · exact rmS_valid h
theorem rdS_valid {x : Nl} (h : nlB x = true) (h' : rdC x = 0) : nlB (rdS x) = true := by
  have hc : (redF x).2 = 0 := by unfold rdC at h'; rw [if_pos h] at h'; exact h'
  have e : rdS x = cmS (sortS (nrmS (redF x).1)) := (rd_yes (y := (redF x).1) h (by rw [← hc])).1
  rw [e]
  exact cmS_valid (sortS_valid (nrmS_valid (redk_valid _ _ h hc)))
theorem implRd_any (x : Nl) (v : Value) (w : World) (h : NlV w v x) (hok : ∀ p ∈ x.ps, p.ok) (hnn : Fits x.nets) :
    Calls Tryz.prog 7 #[v] w fun e w' => ∃ v', e = .returned (.tuple #[v', .int .i64 (rdC x)]) ∧ OwnNl w' w.heap.size w'.heap.size v' (rdS x) ∧ Below w.heap.size w w' := by
  cases hv : nlB x with
  | false => exact implRd_no x v w h hok hnn hv
  | true => exact implRd_yes x v w h hok hnn hv
end Go.Proofs.YtacbdmngcdhgoaaGreat
namespace Go.Proofs.YtacbdmngcdhgoaaGreat.facts
open Go.RowKit Go.Proofs.YtacbdmngcdhgoaaGreat
theorem laid : (laidOutB Tryz.pinned.checked.prog) = true := by kernel_rfl
theorem rowed : (mapsRowed Tryz.pinned.checked.prog) = true := by kernel_rfl
theorem stops : (Tryz.pinned.checked.prog.stops == []) = true := by kernel_rfl
theorem knobs : (Tryz.pinned.checked.prog.stopKnobs == []) = true := by kernel_rfl
theorem keys : (Rows.fnReduceResistanceRow.plainKeys == Tryz.pinned.checked.prog.plainKeys) = true := by kernel_rfl
theorem heard : (Tryz.pinned.checked.prog.stopsHeard) = true := by kernel_rfl
theorem enter : (Tryz.pinned.checked.prog.mayEnter) = true := by kernel_rfl
theorem lifts : (Rows.fnReduceResistanceRow.lifted == Tryz.pinned.checked.prog.liftsFinal) = true := by kernel_rfl
theorem make : (Tryz.pinned.checked.prog.make == some Rows.fnReduceResistanceRow.make) = true := by kernel_rfl
theorem own : ownKnob Tryz.prog.godebug = none := by kernel_rfl
theorem laidOut : laidOutB Tryz.prog = true := laid
end Go.Proofs.YtacbdmngcdhgoaaGreat.facts
