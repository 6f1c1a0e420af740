/- Contracts and plain laws, part 12, for the statement's proof. -/
import Derived.Test.YtifbffianbgeaaaGreatPkChgLaw11
import Derived.BigQuiet
import Derived.Deep.DeepCutAuto
import Derived.Deep.CutRange
namespace Go.Proofs.YtifbffianbgeaaaGreat
open Go.RowKit
set_option linter.unusedVariables false
set_option linter.unusedSimpArgs false
theorem nmP {zs : List Int} {n : Int} (hp : permB zs n = true) {i : Int} (h0 : 0 ≤ i) (h1 : i < n) : zs[i.toNat]? = some (nmOf zs i) ∧ 0 ≤ nmOf zs i ∧ nmOf zs i < n := by
  obtain ⟨a1, a2, a3⟩ := permB_iff.1 hp
  have e : zs[i.toNat]? = some (zs[i.toNat]'(by omega)) := List.getElem?_eq_getElem (by omega)
  have e2 : nmOf zs i = zs[i.toNat]'(by omega) := by unfold nmOf; rw [List.getD_eq_getElem?_getD, e]; rfl
  rw [e2]
  exact ⟨e, a3 _ (List.getElem_mem _)⟩
theorem nmP_inj {zs : List Int} {n : Int} (hp : permB zs n = true) {i j : Int} (hi : 0 ≤ i ∧ i < n) (hj : 0 ≤ j ∧ j < n) (h : nmOf zs i = nmOf zs j) : i = j := by
  have a := (nmP hp hi.1 hi.2).1
  have b := (nmP hp hj.1 hj.2).1
  rw [h] at a
  rcases Nat.lt_trichotomy i.toNat j.toNat with q | q | q
  · have := permB_dup (n := n) q a b; rw [hp] at this; cases this
  · omega
  · have := permB_dup (n := n) q b a; rw [hp] at this; cases this
theorem nmP_onto {zs : List Int} {n : Int} (hp : permB zs n = true) {k : Int} (h0 : 0 ≤ k) (h1 : k < n) : ∃ i : Nat, (i : Int) < n ∧ nmOf zs i = k := by
  obtain ⟨i, hi⟩ := permB_has hp k h0 h1
  have hl := (List.getElem?_eq_some_iff.1 hi).1
  have := (permB_iff.1 hp).1
  exact ⟨i, by omega, by unfold nmOf; rw [Int.toNat_natCast, List.getD_eq_getElem?_getD, hi]; rfl⟩
theorem coB_lens {x : Nl} {c : List Int × List Int} (h : coB x c = true) : (c.1.length : Int) = x.nets ∧ c.2.length = x.ds.length ∧ 0 ≤ x.nets ∧ x.nets ≤ 24 := by
  obtain ⟨h1, h2, _⟩ := coB_nets h
  obtain ⟨_, _, h3, _⟩ := coB_facts h
  exact ⟨h1, h3, h2.1, h2.2⟩
theorem rankOf_mem {ls ls' : List (List Int)} (h : ∀ z, z ∈ ls ↔ z ∈ ls') (x : List Int) : rankOf ls x = rankOf ls' x := by
  rw [rankOf_fsts, rankOf_fsts]
  exact (perm_of_mem _ _ (nodup_fsts ls) (nodup_fsts ls') (fun z => by rw [mem_fsts, mem_fsts]; exact h z)).countP_eq _
theorem nm_range {f : Nat → Int} {n i : Nat} (h : i < n) : nmOf ((List.range n).map f) (i : Int) = f i := by
  unfold nmOf; rw [Int.toNat_natCast]; simp [List.getD_eq_getElem?_getD, h]
theorem rank_eqv {zs : List Int} {n : Nat} (hp : permB zs (n : Int) = true) (kx ky : Nat → List Int) (h : ∀ i, i < n → kx i = ky (nmOf zs (i : Int)).toNat) (i : Nat) (hi : i < n) :
    nmOf (rankS ((List.range n).map kx)) (i : Int) = nmOf (rankS ((List.range n).map ky)) (nmOf zs (i : Int)) := by
  have hm : ∀ z, z ∈ (List.range n).map kx ↔ z ∈ (List.range n).map ky := by
    intro z
    simp only [List.mem_map, List.mem_range]
    constructor
    · rintro ⟨j, hj, rfl⟩
      have := (nmP hp (i := (j : Int)) (by omega) (by omega)).2
      exact ⟨(nmOf zs (j : Int)).toNat, by omega, (h j hj).symm⟩
    · rintro ⟨j, hj, rfl⟩
      obtain ⟨k, hk, e⟩ := nmP_onto hp (k := (j : Int)) (by omega) (by omega)
      exact ⟨k, by omega, by rw [h k (by omega), e]; rfl⟩
  have hz := (nmP hp (i := (i : Int)) (by omega) (by omega)).2
  obtain ⟨z, hze⟩ : ∃ z : Nat, nmOf zs (i : Int) = (z : Int) := ⟨(nmOf zs (i : Int)).toNat, by omega⟩
  have hi2 := h i hi
  rw [hze] at hi2 hz ⊢
  rw [Int.toNat_natCast] at hi2
  unfold rankS
  rw [List.map_map, List.map_map, nm_range hi, nm_range (by omega)]
  show ((rankOf _ (kx i) : Nat) : Int) = ((rankOf _ (ky z) : Nat) : Int)
  rw [hi2, rankOf_mem hm]
def rep (l : List Int) (k : Nat) : List Int := (List.replicate k l).flatten
theorem rep_add (l : List Int) (a b : Nat) : rep l (a + b) = rep l a ++ rep l b := by
  unfold rep; rw [← List.replicate_append_replicate, List.flatten_append]
def sumN (h : Nat → Nat) : Nat → Nat
  | 0 => 0
  | k + 1 => sumN h k + h k
theorem flat_rep (l : List Int) (h : Nat → Nat) (n : Nat) : (List.range n).flatMap (fun j => rep l (h j)) = rep l (sumN h n) := by
  induction n with
  | zero => rfl
  | succ n ih => rw [flat_succ, ih]; exact (rep_add _ _ _).symm
theorem sumN_list (h : Nat → Nat) (n : Nat) : sumN h n = ((List.range n).map h).sum := by
  induction n with
  | zero => rfl
  | succ n ih => rw [List.range_succ, List.map_append, List.sum_append, ← ih]; simp [sumN]
theorem sumN_congr {h g : Nat → Nat} {n : Nat} (e : ∀ j, j < n → h j = g j) : sumN h n = sumN g n := by
  induction n with
  | zero => rfl
  | succ n ih => show _ + _ = _ + _; rw [ih (fun j hj => e j (by omega)), e n (by omega)]
theorem sumN_perm {zs : List Int} {n : Nat} (hp : permB zs (n : Int) = true) (g : Nat → Nat) : sumN (fun j => g (nmOf zs (j : Int)).toNat) n = sumN g n := by
  have hl := (permB_iff.1 hp).1
  rw [sumN_list, sumN_list]
  have e1 : (List.range n).map (fun j : Nat => g (nmOf zs (j : Int)).toNat) = zs.map (fun z => g z.toNat) := by
    apply List.ext_getElem?
    intro j
    rw [List.getElem?_map, List.getElem?_map]
    by_cases hj : j < n
    · rw [List.getElem?_range hj]
      have := (nmP hp (i := (j : Int)) (by omega) (by omega)).1
      rw [Int.toNat_natCast] at this
      rw [this]; rfl
    · rw [List.getElem?_eq_none (by simp; omega), List.getElem?_eq_none (by omega)]; rfl
  have e2 : (List.range n).map g = (iota n).map (fun z => g z.toNat) := by
    unfold iota; rw [List.map_map]; exact List.map_congr_left (fun j _ => by simp)
  rw [e1, e2]
  have hn : zs.length = n := by omega
  have := (permB_perm hp)
  rw [hn] at this
  exact (this.map _).sum_nat
def hits (ci kind : Int) (pins : List Int) (net color role : Int) : Nat := sumN (fun k => if pHit ci kind pins net color role k = true then 1 else 0) pins.length
theorem pTo_rep (ci kind : Int) (pins : List Int) (net color role : Int) : pTo ci kind pins net color role pins.length = rep [color, role] (hits ci kind pins net color role) := by
  unfold pTo hits
  rw [← flat_rep]
  congr 1
  funext k
  split <;> rfl
theorem dTo_rep (ds : List Dv) (cs : List Int) (net color role : Int) : dTo ds cs net color role ds.length = rep [color, role] (sumN (fun j => hits (nmOf cs (j : Int)) (dAt ds j).kind (dAt ds j).pins net color role) ds.length) := by
  unfold dTo
  rw [← flat_rep]
  congr 1
  funext j
  exact pTo_rep _ _ _ _ _ _
def DvEqv (p : List Int) (d e : Dv) : Prop :=
  e.kind = d.kind ∧ e.wd = d.wd ∧ e.len = d.len ∧
  (e.pins = d.pins.map (nmOf p) ∨
   (∃ a b, d.pins = [a, b] ∧ e.pins = [nmOf p b, nmOf p a]) ∨ ∃ g a b, d.pins = [g, a, b] ∧ e.pins = [nmOf p g, nmOf p b, nmOf p a])
structure NlIso (x y : Nl) (p q : List Int) : Prop where
  pp : permB p x.nets = true
  pq : permB q (x.ds.length : Int) = true
  nets : y.nets = x.nets
  len : y.ds.length = x.ds.length
  dev : ∀ (i : Nat) (d : Dv), x.ds[i]? = some d → ∃ e, y.ds[(nmOf q (i : Int)).toNat]? = some e ∧ DvEqv p d e
  plen : y.ps.length = x.ps.length
  port : ∀ (i : Nat) (a : Pt), x.ps[i]? = some a → ∃ b, y.ps[i]? = some b ∧ b.name = a.name ∧ b.net = nmOf p a.net
def ColEqv (x : Nl) (p q : List Int) (c d : List Int × List Int) : Prop :=
  (∀ i : Nat, (i : Int) < x.nets → nmOf c.1 (i : Int) = nmOf d.1 (nmOf p (i : Int))) ∧ ∀ i : Nat, i < x.ds.length → nmOf c.2 (i : Int) = nmOf d.2 (nmOf q (i : Int))
theorem pinsOf_two {d : Dv} {nets : Int} (h : dvB nets d = true) : (d.kind = 2 ∧ ∃ a b, d.pins = [a, b]) ∨ (¬ d.kind = 2 ∧ ∃ g a b, d.pins = [g, a, b]) := by
  obtain ⟨h1, h2, _⟩ := dvB_all h
  by_cases hk : d.kind = 2
  · left
    have : d.pins.length = 2 := by rw [h2, hk]; rfl
    match e : d.pins with
    | [a, b] => exact ⟨hk, a, b, rfl⟩
    | [] => rw [e] at this; cases this
    | [_] => rw [e] at this; cases this
    | _ :: _ :: _ :: _ => rw [e] at this; simp at this
  · right
    have : d.pins.length = 3 := by rw [h2]; unfold pinsOf; rw [if_neg (by omega)]
    match e : d.pins with
    | [g, a, b] => exact ⟨hk, g, a, b, rfl⟩
    | [] => rw [e] at this; cases this
    | [_] => rw [e] at this; cases this
    | [_, _] => rw [e] at this; cases this
    | _ :: _ :: _ :: _ :: _ => rw [e] at this; simp at this
theorem dvB_in {nets : Int} {d : Dv} (h : dvB nets d = true) {p : Int} (hp : p ∈ d.pins) : 0 ≤ p ∧ p < nets := (dvB_pins h).2.2 p hp
theorem hits_eqv {x : Nl} {p : List Int} (hp : permB p x.nets = true) {d e : Dv} (hd : dvB x.nets d = true) (h : DvEqv p d e) (ci net color role : Int) (h0 : 0 ≤ net) (h1 : net < x.nets) :
    hits ci d.kind d.pins net color role = hits ci e.kind e.pins (nmOf p net) color role := by
  obtain ⟨k1, k2, k3, k4⟩ := h
  have inj : ∀ a, a ∈ d.pins → (nmOf p a = nmOf p net ↔ a = net) := fun a ha =>
    ⟨fun e => nmP_inj hp (dvB_in hd ha) ⟨h0, h1⟩ e, fun e => by rw [e]⟩
  rw [k1]
  rcases pinsOf_two hd with ⟨hk, a, b, hpn⟩ | ⟨hk, g, a, b, hpn⟩
  · have ia := inj a (by rw [hpn]; simp)
    have ib := inj b (by rw [hpn]; simp)
    have k4' : e.pins = [nmOf p a, nmOf p b] ∨ e.pins = [nmOf p b, nmOf p a] := by
      rcases k4 with q | ⟨a', b', q1, q2⟩ | ⟨g', a', b', q1, q2⟩
      · left; rw [q, hpn]; rfl
      · right; rw [hpn] at q1; injection q1 with q1 q3; injection q3 with q3; subst q1 q3; exact q2
      · rw [hpn] at q1; simp at q1
    rw [hpn, hk]
    rcases k4' with q | q <;> rw [q] <;> simp only [hits, List.length_cons, List.length_nil, sumN, pHit, roleOf, List.getD_cons_zero, List.getD_cons_succ, if_true, ia, ib]
    omega
  · have ig := inj g (by rw [hpn]; simp)
    have ia := inj a (by rw [hpn]; simp)
    have ib := inj b (by rw [hpn]; simp)
    have k4' : e.pins = [nmOf p g, nmOf p a, nmOf p b] ∨ e.pins = [nmOf p g, nmOf p b, nmOf p a] := by
      rcases k4 with q | ⟨a', b', q1, q2⟩ | ⟨g', a', b', q1, q2⟩
      · left; rw [q, hpn]; rfl
      · rw [hpn] at q1; simp at q1
      · right; rw [hpn] at q1; injection q1 with q0 q1; injection q1 with q1 q3; injection q3 with q3; subst q0 q1 q3; exact q2
    rw [hpn]
    rcases k4' with q | q <;> rw [q] <;> simp only [hits, List.length_cons, List.length_nil, sumN, pHit, roleOf, List.getD_cons_zero, List.getD_cons_succ, if_neg hk, ig, ia, ib, show min (((0 + 1 + 1 : Nat)) : Int) 1 = 1 from rfl, show min (((0 + 1 : Nat)) : Int) 1 = 1 from rfl, show min (((1 : Nat)) : Int) 1 = 1 from rfl, show min (((2 : Nat)) : Int) 1 = 1 from rfl]
    omega
theorem dAt_some {ds : List Dv} {i : Nat} {d : Dv} (h : ds[i]? = some d) : dAt ds i = d := by unfold dAt; rw [List.getD_eq_getElem?_getD, h]; rfl
section
variable {x y : Nl} {p q : List Int} (H : NlIso x y p q) (hx : nlB x = true)
include H hx
theorem NlIso.at_ (i : Nat) (hi : i < x.ds.length) : DvEqv p (dAt x.ds i) (dAt y.ds (nmOf q (i : Int)).toNat) ∧ dvB x.nets (dAt x.ds i) = true := by
  have e : x.ds[i]? = some x.ds[i] := List.getElem?_eq_getElem hi
  obtain ⟨f, h1, h2⟩ := H.dev i _ e
  rw [dAt_some e, dAt_some h1]
  exact ⟨h2, (nlB_facts hx).2.2.2.1 _ (List.getElem_mem hi)⟩
theorem NlIso.sig {c d : List Int × List Int} (hc : ColEqv x p q c d) (net : Nat) (hn : (net : Int) < x.nets) : netL' x c (net : Int) = netL' y d (nmOf p (net : Int)) := by
  unfold netL'
  rw [hc.1 net hn]
  congr 1
  unfold cTo
  congr 1
  funext color
  unfold rTo
  congr 1
  funext role
  rw [dTo_rep, dTo_rep, H.len]
  congr 1
  rw [← sumN_perm H.pq (fun j => hits (nmOf d.2 (j : Int)) (dAt y.ds j).kind (dAt y.ds j).pins (nmOf p (net : Int)) color role)]
  refine sumN_congr (fun j hj => ?_)
  obtain ⟨h1, h2⟩ := H.at_ hx j hj
  have hq := (nmP H.pq (i := (j : Int)) (by omega) (by omega)).2
  rw [hits_eqv H.pp h2 h1 _ _ _ _ (by omega) hn, hc.2 j hj, Int.toNat_of_nonneg hq.1]
theorem NlIso.dsig {c d : List Int × List Int} (hc : ColEqv x p q c d) (i : Nat) (hi : i < x.ds.length) : dsgL (dAt x.ds i) (nmOf c.2 (i : Int)) c.1 = dsgL (dAt y.ds (nmOf q (i : Int)).toNat) (nmOf d.2 (nmOf q (i : Int))) d.1 := by
  obtain ⟨⟨k1, k2, k3, k4⟩, h2⟩ := H.at_ hx i hi
  have nc : ∀ a, a ∈ (dAt x.ds i).pins → nmOf c.1 a = nmOf d.1 (nmOf p a) := fun a ha => by
    have := dvB_in h2 ha
    have q := hc.1 a.toNat (by omega)
    rwa [Int.toNat_of_nonneg this.1] at q
  rw [← hc.2 i hi]
  generalize dAt x.ds i = D at *
  generalize dAt y.ds (nmOf q (i : Int)).toNat = E at *
  rcases pinsOf_two h2 with ⟨hk, a, b, hpn⟩ | ⟨hk, g, a, b, hpn⟩
  · have ia := nc a (by rw [hpn]; simp)
    have ib := nc b (by rw [hpn]; simp)
    rw [dsgL_r hk hpn]
    rcases k4 with q | ⟨a', b', q1, q2⟩ | ⟨g', a', b', q1, q2⟩
    · rw [dsgL_r (by rw [k1]; exact hk) (by rw [q, hpn]; rfl), ia, ib]
    · rw [hpn] at q1; injection q1 with q1 q3; injection q3 with q3; subst q1 q3
      rw [dsgL_r (by rw [k1]; exact hk) q2, ia, ib]
      unfold dsgT; rw [Int.min_comm, Int.max_comm]
    · rw [hpn] at q1; simp at q1
  · have ig := nc g (by rw [hpn]; simp)
    have ia := nc a (by rw [hpn]; simp)
    have ib := nc b (by rw [hpn]; simp)
    rw [dsgL_m hk hpn]
    rcases k4 with q | ⟨a', b', q1, q2⟩ | ⟨g', a', b', q1, q2⟩
    · rw [dsgL_m (by rw [k1]; exact hk) (by rw [q, hpn]; rfl), ig, ia, ib]
    · rw [hpn] at q1; simp at q1
    · rw [hpn] at q1; injection q1 with q0 q1; injection q1 with q1 q3; injection q3 with q3; subst q0 q1 q3
      rw [dsgL_m (by rw [k1]; exact hk) q2, ig, ia, ib]
      unfold dsgT; rw [Int.min_comm, Int.max_comm]
theorem NlIso.ref {c d : List Int × List Int} (hc : ColEqv x p q c d) (hl : (c.1.length : Int) = x.nets) (hl2 : (d.1.length : Int) = x.nets) : ColEqv x p q (refS x c) (refS y d) := by
  obtain ⟨n, hn⟩ : ∃ n : Nat, x.nets = n := ⟨x.nets.toNat, by omega⟩
  have e1 : c.1.length = n := by omega
  have e2 : d.1.length = n := by omega
  constructor
  · intro i hi
    unfold refS
    dsimp only
    rw [e1, e2]
    refine rank_eqv (by rw [← hn]; exact H.pp) _ _ (fun j hj => ?_) i (by omega)
    have hz := (nmP H.pp (i := (j : Int)) (by omega) (by omega)).2
    rw [Int.toNat_of_nonneg hz.1]
    exact H.sig hx hc j (by omega)
  · intro i hi
    unfold refS dsgLs
    dsimp only
    rw [H.len]
    refine rank_eqv H.pq _ _ (fun j hj => ?_) i hi
    have hz := (nmP H.pq (i := (j : Int)) (by omega) (by omega)).2
    rw [Int.toNat_of_nonneg hz.1]
    exact H.dsig hx hc j hj
end
theorem difI_mem {zs ys : List Int} (h : ∀ z, z ∈ zs ↔ z ∈ ys) : difI zs = difI ys := by
  unfold difI
  refine (perm_of_mem _ _ (nodup_fstTo _ (Nat.le_refl _)) (nodup_fstTo _ (Nat.le_refl _)) (fun z => ?_)).length_eq
  rw [mem_fstTo _ (Nat.le_refl _), mem_fstTo _ (Nat.le_refl _), List.take_length, List.take_length]
  exact h z
theorem dif_eqv {zs : List Int} {n : Nat} (hp : permB zs (n : Int) = true) {a b : List Int} (ha : a.length = n) (hb : b.length = n) (h : ∀ i : Nat, i < n → nmOf a (i : Int) = nmOf b (nmOf zs (i : Int))) : difI a = difI b := by
  refine difI_mem (fun z => ?_)
  have at_ : ∀ (l : List Int) (i : Nat), i < l.length → l[i]? = some (nmOf l (i : Int)) := fun l i hi => by
    unfold nmOf; rw [Int.toNat_natCast, List.getD_eq_getElem?_getD, List.getElem?_eq_getElem hi]; rfl
  constructor
  · intro hz
    obtain ⟨i, hi, e⟩ := List.mem_iff_getElem.1 hz
    have e1 := at_ a i hi
    rw [List.getElem?_eq_getElem hi, e] at e1
    rw [Option.some.inj e1, h i (by omega)]
    have hq := (nmP hp (i := (i : Int)) (by omega) (by omega)).2
    have e2 := at_ b (nmOf zs (i : Int)).toNat (by omega)
    rw [Int.toNat_of_nonneg hq.1] at e2
    exact List.mem_of_getElem? e2
  · intro hz
    obtain ⟨j, hj, e⟩ := List.mem_iff_getElem.1 hz
    have e1 := at_ b j hj
    rw [List.getElem?_eq_getElem hj, e] at e1
    obtain ⟨k, hk, ek⟩ := nmP_onto hp (k := (j : Int)) (by omega) (by omega)
    have e2 := at_ a k (by omega)
    rw [h k (by omega), ek, ← Option.some.inj e1] at e2
    exact List.mem_of_getElem? e2
section
variable {x y : Nl} {p q : List Int} (H : NlIso x y p q)
include H
theorem NlIso.cnt {c d : List Int × List Int} (hcx : coB x c = true) (hdy : coB y d = true) (hc : ColEqv x p q c d) : cntC c = cntC d := by
  obtain ⟨n, hn⟩ : ∃ n : Nat, x.nets = n := ⟨x.nets.toNat, by have := (coB_facts hcx); have := (permB_iff.1 H.pp).1; omega⟩
  obtain ⟨f1, f2, f3, f4⟩ := coB_lens hcx
  obtain ⟨g1, g2, g3, g4⟩ := coB_lens hdy
  have e1 : difI c.1 = difI d.1 := dif_eqv (n := n) (by rw [← hn]; exact H.pp) (by omega) (by have := H.nets; omega) (fun i hi => hc.1 i (by omega))
  have e2 : difI c.2 = difI d.2 := dif_eqv (n := x.ds.length) H.pq (by omega) (by have := H.len; omega) hc.2
  unfold cntC
  rw [e1, e2]
theorem NlIso.refN (hx : nlB x = true) : ∀ (f : Nat) (c d : List Int × List Int) (s : Int), coB x c = true → coB y d = true → ColEqv x p q c d → (refN x f c s).2 = (refN y f d s).2 ∧ ColEqv x p q (refN x f c s).1 (refN y f d s).1
  | 0, c, d, s, _, _, h => ⟨rfl, h⟩
  | f + 1, c, d, s, hc, hd, h => by
    obtain ⟨f1, f2, f3, f4⟩ := coB_lens hc
    obtain ⟨g1, g2, g3, g4⟩ := coB_lens hd
    have hr := H.ref hx h f1 (by rw [g1]; exact H.nets)
    have c1 := coB_ref hc
    have d1 := coB_ref hd
    have e1 := H.cnt hc hd h
    have e2 := H.cnt c1 d1 hr
    by_cases e : cntC (refS x c) ≤ cntC c
    · rw [refN_stop e, refN_stop (by rw [← e1, ← e2]; exact e)]
      exact ⟨rfl, h⟩
    · rw [refN_go e, refN_go (by rw [← e1, ← e2]; exact e)]
      exact NlIso.refN hx f _ _ _ c1 d1 hr
theorem NlIso.ini (hx : nlB x = true) : ColEqv x p q (iniS x) (iniS y) := by
  obtain ⟨⟨n0, n1⟩, hl, hp, hd, hpt⟩ := nlB_facts hx
  obtain ⟨n, hn⟩ : ∃ n : Nat, x.nets = n := ⟨x.nets.toNat, by omega⟩
  constructor
  · intro i hi
    unfold iniS netL
    dsimp only
    rw [H.nets, hn, Int.toNat_natCast]
    refine rank_eqv (by rw [← hn]; exact H.pp) _ _ (fun j hj => ?_) i (by omega)
    have hz := (nmP H.pp (i := (j : Int)) (by omega) (by omega)).2
    rw [Int.toNat_of_nonneg hz.1, H.plen]
    unfold portTo
    congr 1
    refine List.filter_congr (fun k hk => ?_)
    rw [List.mem_range] at hk
    have e : x.ps[k]? = some x.ps[k] := List.getElem?_eq_getElem hk
    obtain ⟨b, hb, _, hbn⟩ := H.port k _ e
    rw [e, hb]
    dsimp only
    rw [hbn]
    have hpk := hpt k hk
    have hin : 0 ≤ x.ps[k].net ∧ x.ps[k].net < x.nets := by
      unfold ptOk at hpk
      rw [e] at hpk
      simp only [Bool.and_eq_true] at hpk
      have := inB_iff.1 hpk.2.1
      omega
    by_cases hc : x.ps[k].net = (j : Int)
    · rw [hc]; simp
    · have : ¬ nmOf p x.ps[k].net = nmOf p (j : Int) := fun e => hc (nmP_inj H.pp hin (by omega) e)
      simp [hc, this]
  · intro i hi
    unfold iniS
    dsimp only
    have form : ∀ ds : List Dv, devL ds = (List.range ds.length).map (fun k => [(dAt ds k).kind, (dAt ds k).wd, (dAt ds k).len]) := fun ds => by
      apply List.ext_getElem?
      intro k
      unfold devL
      rw [List.getElem?_map, List.getElem?_map]
      by_cases hk : k < ds.length
      · rw [List.getElem?_range hk, List.getElem?_eq_getElem hk]
        show some _ = some _
        dsimp only
        rw [dAt_some (List.getElem?_eq_getElem hk)]
      · rw [List.getElem?_eq_none (by omega), List.getElem?_eq_none (by simp; omega)]; rfl
    rw [form, form, H.len]
    refine rank_eqv H.pq _ _ (fun j hj => ?_) i hi
    obtain ⟨⟨k1, k2, k3, _⟩, _⟩ := H.at_ hx j hj
    rw [k1, k2, k3]
theorem NlIso.net (hx : nlB x = true) (hy : nlB y = true) : (refNet x).2 = (refNet y).2 ∧ ColEqv x p q (refNet x).1 (refNet y).1 := by
  unfold refNet
  rw [if_pos hx, if_pos hy]
  exact H.refN hx 64 _ _ 0 (coB_ini hx) (coB_ini hy) (H.ini hx)
end
theorem ap_valid {x : Nl} {m : List Int × List Int} (hx : nlB x = true) (h1 : permB m.1 x.nets = true) (h2 : permB m.2 (x.ds.length : Int) = true) : nlB ⟨x.nets, ordD m.2 (x.ds.map (renD m.1)), x.ps.map (renP m.1)⟩ = true := by
  obtain ⟨⟨n0, n1⟩, hl, hp, hd, hpt⟩ := nlB_facts hx
  have hx' := hx
  simp only [nlB, Bool.and_eq_true, decide_eq_true_eq, List.all_eq_true] at hx'
  have hl2 := (permB_iff.1 h2).1
  simp only [nlB, Bool.and_eq_true, decide_eq_true_eq, List.all_eq_true, ptsB, List.mem_range]
  refine ⟨hx'.1, by rw [length_ordD]; omega, by simp; omega, fun d hdm => ?_, fun i hi => ?_⟩
  · obtain ⟨k, hk, e⟩ := List.mem_iff_getElem.1 hdm
    obtain ⟨i, _, _, hi⟩ := ordD_inv (zs := m.2) (ds := x.ds.map (renD m.1)) (by rw [List.length_map]; exact h2) k d (by rw [List.getElem?_eq_getElem hk, e])
    rw [List.getElem?_map] at hi
    cases hxd : x.ds[i]? with
    | none => rw [hxd] at hi; cases hi
    | some d0 =>
      rw [hxd] at hi
      have hi := Option.some.inj hi
      subst hi
      obtain ⟨a1, a2, a3, a4, a5, a6⟩ := dvB_all (hd d0 (List.mem_of_getElem? hxd))
      unfold dvB renD
      simp only [Bool.and_eq_true, decide_eq_true_eq, List.all_eq_true]
      refine ⟨a1, by rw [List.length_map]; exact a2, a3, a4, fun p hpm => ?_, by simpa using a6⟩
      obtain ⟨q, hq, rfl⟩ := List.mem_map.1 hpm
      have q0 := inB_iff.1 (a5 q hq)
      have := (nmP h1 (i := q) (by omega) (by omega)).2
      exact inB_iff.2 (by omega)
  · rw [List.length_map] at hi
    have hpk := hpt i hi
    unfold ptOk at hpk ⊢
    rw [List.getElem?_map, List.getElem?_eq_getElem hi] at *
    simp only [Option.map_some, Bool.and_eq_true] at hpk ⊢
    obtain ⟨b1, b2, b3⟩ := hpk
    have q0 := inB_iff.1 b2
    have := (nmP h1 (i := x.ps[i].net) (by omega) (by omega)).2
    refine ⟨b1, inB_iff.2 (show 0 ≤ nmOf m.1 x.ps[i].net ∧ nmOf m.1 x.ps[i].net ≤ x.nets - 1 by omega), ?_⟩
    cases i with
    | zero => rfl
    | succ j =>
      dsimp only at b3 ⊢
      rw [List.getElem?_map]
      cases e : x.ps[j]? with
      | none => rfl
      | some z => rw [e] at b3; exact b3
theorem ap_iso {x : Nl} {m : List Int × List Int} (hx : nlB x = true) (h1 : permB m.1 x.nets = true) (h2 : permB m.2 (x.ds.length : Int) = true) : NlIso x ⟨x.nets, ordD m.2 (x.ds.map (renD m.1)), x.ps.map (renP m.1)⟩ m.1 m.2 where
  pp := h1
  pq := h2
  nets := rfl
  len := by
    have := (permB_iff.1 h2).1
    show (ordD m.2 _).length = _
    rw [length_ordD]; omega
  dev := fun i d hd => by
    have hi := (List.getElem?_eq_some_iff.1 hd).1
    have hz := (nmP h2 (i := (i : Int)) (by omega) (by omega)).1
    rw [Int.toNat_natCast] at hz
    exact ⟨renD m.1 d, ordD_get (by rw [List.length_map]; exact h2) i _ _ hz (by rw [List.getElem?_map, hd]; rfl), rfl, rfl, rfl, .inl rfl⟩
  plen := by simp
  port := fun i a ha => ⟨renP m.1 a, by show (x.ps.map (renP m.1))[i]? = _; rw [List.getElem?_map, ha]; rfl, rfl, rfl⟩
/- What FnColorsInvariant wants of the plain part. -/
theorem refN_nn (x : Nl) : ∀ (f : Nat) (c : List Int × List Int) (s : Int), s ≤ (refN x f c s).2
  | 0, c, s => Int.le_refl _
  | f + 1, c, s => by
    by_cases e : cntC (refS x c) ≤ cntC c
    · rw [refN_stop e]; exact Int.le_refl _
    · rw [refN_go e]
      have := refN_nn x f (refS x c) (s + 1)
      omega
theorem refNet_ok {x : Nl} (hx : nlB x = true) : 0 ≤ (refNet x).2 ∧ coB x (refNet x).1 = true := by
  unfold refNet
  rw [if_pos hx]
  exact ⟨refN_nn x 64 _ 0, coB_refN 64 _ 0 (coB_ini hx)⟩
theorem ap_ports {x : Nl} {z : List Int × List Int} (hx : nlB x = true) (h1 : permB z.1 x.nets = true) (hok : ∀ p ∈ x.ps, p.ok) : ∀ p ∈ x.ps.map (renP z.1), p.ok := by
  obtain ⟨⟨n0, n1⟩, hl, hp, hd, hpt⟩ := nlB_facts hx
  intro p hpm
  obtain ⟨a, ha, rfl⟩ := List.mem_map.1 hpm
  obtain ⟨k, hk, e⟩ := List.mem_iff_getElem.1 ha
  have hpk := hpt k hk
  unfold ptOk at hpk
  rw [List.getElem?_eq_getElem hk, e] at hpk
  simp only [Bool.and_eq_true] at hpk
  have q0 := inB_iff.1 hpk.2.1
  have := (nmP h1 (i := a.net) (by omega) (by omega)).2
  exact ⟨(hok a ha).1, show -9223372036854775808 ≤ nmOf z.1 a.net ∧ nmOf z.1 a.net ≤ 9223372036854775807 by omega⟩
theorem inv_facts {x : Nl} {z : List Int × List Int} (hx : nlB x = true) (h1 : permB z.1 x.nets = true) (h2 : permB z.2 (x.ds.length : Int) = true) (hok : ∀ p ∈ x.ps, p.ok) :
    apC x z = 0 ∧ (refNet (apR x z)).2 = (refNet x).2 ∧ 0 ≤ (refNet x).2 ∧ coB x (refNet x).1 = true ∧ coB (apR x z) (refNet (apR x z)).1 = true ∧
    ((refNet x).1.1.length = z.1.length ∧ (refNet (apR x z)).1.1.length = z.1.length ∧ (refNet x).1.2.length = z.2.length ∧ (refNet (apR x z)).1.2.length = z.2.length) ∧
    (∀ i : Nat, i < z.1.length → 0 ≤ nmOf z.1 (i : Int) ∧ nmOf z.1 (i : Int) < (z.1.length : Int) ∧ nmOf (refNet x).1.1 (i : Int) = nmOf (refNet (apR x z)).1.1 (nmOf z.1 (i : Int))) ∧
    (∀ i : Nat, i < z.2.length → 0 ≤ nmOf z.2 (i : Int) ∧ nmOf z.2 (i : Int) < (z.2.length : Int) ∧ nmOf (refNet x).1.2 (i : Int) = nmOf (refNet (apR x z)).1.2 (nmOf z.2 (i : Int))) ∧
    (∀ p ∈ (apR x z).ps, p.ok) ∧ Fits (apR x z).nets := by
  have e : apR x z = ⟨x.nets, ordD z.2 (x.ds.map (renD z.1)), x.ps.map (renP z.1)⟩ := by unfold apR; rw [if_pos hx, if_pos ⟨h1, h2⟩]
  have ec : apC x z = 0 := by unfold apC; rw [if_pos hx, if_pos ⟨h1, h2⟩]
  have hy := ap_valid hx h1 h2
  have hi := ap_iso hx h1 h2
  have hn := hi.net hx hy
  have hpo := ap_ports hx h1 hok
  obtain ⟨⟨n0, n1⟩, _⟩ := nlB_facts hx
  rw [e]
  obtain ⟨s1, c1⟩ := refNet_ok hx
  obtain ⟨s2, c2⟩ := refNet_ok hy
  obtain ⟨f1, f2, _⟩ := coB_lens c1
  obtain ⟨g1, g2, _⟩ := coB_lens c2
  have l1 := (permB_iff.1 h1).1
  have l2 := (permB_iff.1 h2).1
  have len := hi.len
  have g1' : (((refNet ⟨x.nets, ordD z.2 (x.ds.map (renD z.1)), x.ps.map (renP z.1)⟩).1.1.length : Nat) : Int) = x.nets := g1
  refine ⟨ec, hn.1.symm, s1, c1, c2, ⟨by omega, by omega, by omega, by omega⟩, fun i h => ?_, fun i h => ?_, hpo, show -9223372036854775808 ≤ x.nets ∧ x.nets ≤ 9223372036854775807 by omega⟩
  · have q := (nmP h1 (i := (i : Int)) (by omega) (by omega)).2
    exact ⟨q.1, by omega, hn.2.1 i (by omega)⟩
  · have q := (nmP h2 (i := (i : Int)) (by omega) (by omega)).2
    exact ⟨q.1, by omega, hn.2.2 i (by omega)⟩
theorem inv_bad {x : Nl} {z : List Int × List Int} (h : ¬ (nlB x = true ∧ permB z.1 x.nets = true ∧ permB z.2 (x.ds.length : Int) = true)) : apC x z ≠ 0 ∧ apR x z = ⟨0, [], []⟩ := by
  unfold apC apR
  by_cases hx : nlB x = true
  · rw [if_pos hx, if_pos hx]
    have : ¬ (permB z.1 x.nets = true ∧ permB z.2 (x.ds.length : Int) = true) := fun e => h ⟨hx, e⟩
    rw [if_neg this, if_neg this]
    exact ⟨by decide, rfl⟩
  · rw [if_neg hx, if_neg hx]
    exact ⟨by decide, rfl⟩
instance Dv.dec : DecidableEq Dv := fun a b => decidable_of_iff (a.kind = b.kind ∧ a.pins = b.pins ∧ a.wd = b.wd ∧ a.len = b.len) ⟨fun h => by cases a; cases b; simp_all, fun h => by subst h; simp⟩
def nzD (d : Dv) : Dv := ⟨d.kind, normz d.kind d.pins, d.wd, d.len⟩
def Two (d : Dv) : Prop := (d.kind = 2 ∧ ∃ a b, d.pins = [a, b]) ∨ ((d.kind = 0 ∨ d.kind = 1) ∧ ∃ g a b, d.pins = [g, a, b])
theorem dvB_Two {nets : Int} {d : Dv} (h : dvB nets d = true) : Two d := by
  have h1 := inB_iff.1 (dvB_all h).1
  rcases pinsOf_two h with ⟨k, h⟩ | ⟨k, h⟩
  · exact .inl ⟨k, h⟩
  · exact .inr ⟨by omega, h⟩
theorem Two.ren {d : Dv} (h : Two d) (f : List Int) : Two (renD f d) := by
  rcases h with ⟨k, a, b, e⟩ | ⟨k, g, a, b, e⟩
  · exact .inl ⟨k, _, _, by simp [renD, e]; exact ⟨rfl, rfl⟩⟩
  · exact .inr ⟨k, _, _, _, by simp [renD, e]; exact ⟨rfl, rfl, rfl⟩⟩
theorem nz_two {kind a b : Int} (h : kind = 2) : normz kind [a, b] = [min a b, max a b] := by
  subst h; simp [normz, pinc, lastTwo]
theorem nz_three {kind g a b : Int} (h : kind = 0 ∨ kind = 1) : normz kind [g, a, b] = [g, min a b, max a b] := by
  rcases h with rfl | rfl <;> simp [normz, pinc, lastTwo]
theorem mm_fix (f : Int → Int) (a b : Int) : min (f (min a b)) (f (max a b)) = min (f a) (f b) ∧ max (f (min a b)) (f (max a b)) = max (f a) (f b) := by
  by_cases h : a ≤ b
  · rw [show min a b = a by omega, show max a b = b by omega]; exact ⟨rfl, rfl⟩
  · rw [show min a b = b by omega, show max a b = a by omega]; omega
theorem nz_ren (f : List Int) {d : Dv} (h : Two d) : nzD (renD f (nzD d)) = nzD (renD f d) := by
  obtain ⟨kind, pins, wd, len⟩ := d
  rcases h with ⟨k, a, b, e⟩ | ⟨k, g, a, b, e⟩
  · dsimp only at k e; subst e
    simp only [nzD, renD, nz_two k, List.map_cons, List.map_nil, (mm_fix (nmOf f) a b).1, (mm_fix (nmOf f) a b).2]
  · dsimp only at k e; subst e
    simp only [nzD, renD, nz_three k, List.map_cons, List.map_nil, (mm_fix (nmOf f) a b).1, (mm_fix (nmOf f) a b).2]
theorem nz_all (P : Int → Bool) {d : Dv} (h : Two d) : (nzD d).pins.all P = d.pins.all P := by
  obtain ⟨kind, pins, wd, len⟩ := d
  have c : ∀ a b : Int, (P (min a b) && P (max a b)) = (P a && P b) := fun a b => by
    by_cases h : a ≤ b
    · rw [show min a b = a by omega, show max a b = b by omega]
    · rw [show min a b = b by omega, show max a b = a by omega, Bool.and_comm]
  rcases h with ⟨k, a, b, e⟩ | ⟨k, g, a, b, e⟩
  · dsimp only at k e; subst e
    simp only [nzD, nz_two k, List.all_cons, List.all_nil, Bool.and_true, c]
  · dsimp only at k e; subst e
    simp only [nzD, nz_three k, List.all_cons, List.all_nil, Bool.and_true, c]
theorem nz_eqv {p : List Int} {d e : Dv} (hd : Two d) (he : Two e) : nzD (renD p d) = nzD e ↔ DvEqv p d e := by
  obtain ⟨k1, p1, w1, l1⟩ := d
  obtain ⟨k2, p2, w2, l2⟩ := e
  have mm : ∀ a b c d : Int, (min a b = min c d ∧ max a b = max c d) ↔ ((c = a ∧ d = b) ∨ (c = b ∧ d = a)) := fun a b c d => by omega
  unfold DvEqv
  rcases hd with ⟨h1, a, b, e1⟩ | ⟨h1, g, a, b, e1⟩ <;> rcases he with ⟨h2, c, d, e2⟩ | ⟨h2, f, c, d, e2⟩ <;> dsimp only at h1 h2 e1 e2 <;> subst e1 <;> subst e2
  · simp only [nzD, renD, nz_two h1, nz_two h2, List.map_cons, List.map_nil, Dv.mk.injEq, List.cons.injEq, and_true, reduceCtorEq, false_and, exists_false, or_false, and_false]
    have := mm (nmOf p a) (nmOf p b) c d
    constructor
    · rintro ⟨q1, q2, q3, q4⟩
      refine ⟨q1.symm, q3.symm, q4.symm, ?_⟩
      rcases this.1 q2 with q | q
      · exact .inl q
      · exact .inr ⟨a, b, ⟨rfl, rfl⟩, q⟩
    · rintro ⟨q1, q2, q3, q4⟩
      refine ⟨q1.symm, this.2 ?_, q2.symm, q3.symm⟩
      rcases q4 with q | ⟨a', b', ⟨rfl, rfl⟩, q⟩
      · exact .inl q
      · exact .inr q
  · constructor
    · intro q
      have : k1 = k2 := by have := congrArg Dv.kind q; simpa [nzD, renD] using this
      omega
    · rintro ⟨q, _⟩
      dsimp only at q; omega
  · constructor
    · intro q
      have : k1 = k2 := by have := congrArg Dv.kind q; simpa [nzD, renD] using this
      omega
    · rintro ⟨q, _⟩
      dsimp only at q; omega
  · simp only [nzD, renD, nz_three h1, nz_three h2, List.map_cons, List.map_nil, Dv.mk.injEq, List.cons.injEq, and_true, reduceCtorEq, false_and, exists_false, false_or, and_false]
    have := mm (nmOf p a) (nmOf p b) c d
    constructor
    · rintro ⟨q1, ⟨q5, q2⟩, q3, q4⟩
      refine ⟨q1.symm, q3.symm, q4.symm, ?_⟩
      rcases this.1 q2 with q | q
      · exact .inl ⟨q5.symm, q⟩
      · exact .inr ⟨g, a, b, ⟨rfl, rfl, rfl⟩, q5.symm, q⟩
    · rintro ⟨q1, q2, q3, q4⟩
      rcases q4 with ⟨q5, q⟩ | ⟨g', a', b', ⟨rfl, rfl, rfl⟩, q5, q⟩
      · exact ⟨q1.symm, ⟨q5.symm, this.2 (.inl q)⟩, q2.symm, q3.symm⟩
      · exact ⟨q1.symm, ⟨q5.symm, this.2 (.inr q)⟩, q2.symm, q3.symm⟩
def inD (names : List Int) (d : Dv) : Bool := d.pins.all fun p => decide (0 ≤ nmOf names p)
def innerS (ds : List Dv) (names : List Int) : List Dv := srtD ((ds.filter (inD names)).map fun d => nzD (renD names d))
def lefTo (n : Nat) : Nat → List Int
  | 0 => List.replicate n (-1)
  | i + 1 => (lefTo n i).set i (i : Int)
def rigTo (n : Nat) (nets : List Int) : Nat → List Int
  | 0 => List.replicate n (-1)
  | i + 1 => (rigTo n nets i).set (nmOf nets (i : Int)).toNat (i : Int)
theorem length_lefTo (n : Nat) : ∀ i, (lefTo n i).length = n
  | 0 => by simp [lefTo]
  | i + 1 => by rw [lefTo, List.length_set]; exact length_lefTo n i
theorem length_rigTo (n : Nat) (nets : List Int) : ∀ i, (rigTo n nets i).length = n
  | 0 => by simp [rigTo]
  | i + 1 => by rw [rigTo, List.length_set]; exact length_rigTo n nets i
theorem lefTo_get (n : Nat) : ∀ (m k : Nat), k < n → (lefTo n m)[k]? = some (if k < m then (k : Int) else -1)
  | 0, k, h => by simp [lefTo, h]
  | m + 1, k, h => by
    rw [lefTo, List.getElem?_set, length_lefTo]
    by_cases e : m = k
    · subst e; simp [h]
    · rw [if_neg e, lefTo_get n m k h]
      congr 1
      by_cases q : k < m
      · rw [if_pos q, if_pos (by omega)]
      · rw [if_neg q, if_neg (by omega)]
theorem nm_lefTo {n m : Nat} {p : Int} (h0 : 0 ≤ p) (h1 : p < n) : nmOf (lefTo n m) p = if p < m then p else -1 := by
  unfold nmOf
  rw [List.getD_eq_getElem?_getD, lefTo_get n m p.toNat (by omega)]
  show (if p.toNat < m then ((p.toNat : Nat) : Int) else -1) = _
  by_cases q : p < m
  · rw [if_pos q, if_pos (by omega)]; omega
  · rw [if_neg q, if_neg (by omega)]
def goodN (n : Nat) (nets : List Int) : Prop := nets.Nodup ∧ ∀ z ∈ nets, 0 ≤ z ∧ z < (n : Int)
theorem nm_get {zs : List Int} {i : Nat} (h : i < zs.length) : zs[i]? = some (nmOf zs (i : Int)) := by
  unfold nmOf; rw [Int.toNat_natCast, List.getD_eq_getElem?_getD, List.getElem?_eq_getElem h]; rfl
theorem goodN.at_ {n : Nat} {nets : List Int} (h : goodN n nets) {i : Nat} (hi : i < nets.length) : 0 ≤ nmOf nets (i : Int) ∧ nmOf nets (i : Int) < n := h.2 _ (List.mem_of_getElem? (nm_get hi))
theorem goodN.inj {n : Nat} {nets : List Int} (h : goodN n nets) {i j : Nat} (hi : i < nets.length) (hj : j < nets.length) (e : nmOf nets (i : Int) = nmOf nets (j : Int)) : i = j := by
  have a := nm_get hi
  have b := nm_get hj
  rw [← e] at b
  exact (List.getElem?_inj hi h.1).1 (a.trans b.symm)
theorem rigTo_get {n : Nat} {nets : List Int} (h : goodN n nets) : ∀ (m k : Nat), m ≤ nets.length → k < n → (∀ i, i < m → nmOf nets (i : Int) = (k : Int) → (rigTo n nets m)[k]? = some (i : Int)) ∧ ((∀ i, i < m → ¬ nmOf nets (i : Int) = (k : Int)) → (rigTo n nets m)[k]? = some (-1))
  | 0, k, hm, hk => by simp [rigTo, hk]
  | m + 1, k, hm, hk => by
    obtain ⟨h1, h2⟩ := rigTo_get h m k (by omega) hk
    have a := h.at_ (i := m) (by omega)
    constructor
    · intro i hi e
      rw [rigTo, List.getElem?_set, length_rigTo]
      by_cases q : i = m
      · subst q; rw [if_pos (by omega), if_pos (by omega)]
      · rw [if_neg (fun e2 => q (h.inj (by omega) (by omega) (by omega)))]
        exact h1 i (by omega) e
    · intro hn
      rw [rigTo, List.getElem?_set, length_rigTo, if_neg (fun e2 => hn m (by omega) (by omega))]
      exact h2 (fun i hi => hn i (by omega))
theorem nm_rig {n : Nat} {nets : List Int} (h : goodN n nets) {i : Nat} (hi : i < nets.length) : nmOf (rigTo n nets nets.length) (nmOf nets (i : Int)) = i := by
  have a := h.at_ hi
  have := (rigTo_get h nets.length (nmOf nets (i : Int)).toNat (Nat.le_refl _) (by omega)).1 i hi (by omega)
  unfold nmOf at this ⊢
  rw [List.getD_eq_getElem?_getD, this]; rfl
theorem nm_rig_no {n : Nat} {nets : List Int} (h : goodN n nets) {k : Int} (h0 : 0 ≤ k) (h1 : k < n) (hk : ¬ k ∈ nets) : nmOf (rigTo n nets nets.length) k = -1 := by
  have := (rigTo_get h nets.length k.toNat (Nat.le_refl _) (by omega)).2 (fun i hi e => hk (by have := List.mem_of_getElem? (nm_get hi); rw [e] at this; rwa [Int.toNat_of_nonneg h0] at this))
  unfold nmOf
  rw [List.getD_eq_getElem?_getD, this]; rfl
theorem mem_nm {nets : List Int} {k : Int} (h : k ∈ nets) : ∃ i, i < nets.length ∧ nmOf nets (i : Int) = k := by
  obtain ⟨i, hi, e⟩ := List.mem_iff_getElem.1 h
  refine ⟨i, hi, ?_⟩
  have := nm_get hi
  rw [List.getElem?_eq_getElem hi, e] at this
  exact (Option.some.inj this).symm
theorem rig_pos {n : Nat} {nets : List Int} (h : goodN n nets) {k : Int} (h0 : 0 ≤ k) (h1 : k < n) : decide (0 ≤ nmOf (rigTo n nets nets.length) k) = nets.contains k := by
  by_cases hk : k ∈ nets
  · obtain ⟨i, hi, e⟩ := mem_nm hk
    have : nmOf (rigTo n nets nets.length) k = i := by rw [← e]; exact nm_rig h hi
    rw [this]; simp [hk]
  · rw [nm_rig_no h h0 h1 hk]; simp [hk]
def prtLR (ps qs : List Pt) (left right : List Int) (i : Nat) : Bool :=
  match ps[i]?, qs[i]? with
  | some p, some q => decide (nmOf left p.net = nmOf right q.net)
  | _, _ => false
def fitB (x y : Nl) (nets : List Int) : Bool :=
  allB (prtLR x.ps y.ps (lefTo x.nets.toNat nets.length) (rigTo y.nets.toNat nets nets.length)) x.ps.length &&
  decide (innerS x.ds (lefTo x.nets.toNat nets.length) = innerS y.ds (rigTo y.nets.toNat nets nets.length))
def fitI (x y : Nl) (nets : List Int) : Bool :=
  decide (srtD ((x.ds.filter fun d => d.pins.all fun p => decide (p < (nets.length : Int))).map fun d => nzD (renD nets d)) = srtD ((y.ds.map nzD).filter fun d => d.pins.all fun p => nets.contains p))
theorem srtD_eq {a b : List Dv} : srtD a = srtD b ↔ a.Perm b := by
  constructor
  · intro h
    have := srtD_perm a
    rw [h] at this
    exact this.symm.trans (srtD_perm b)
  · intro h
    exact srtD_of ((srtD_perm a).trans h) (srtD_pairwise a)
theorem filter_cong {α : Type} {p q : α → Bool} {l : List α} (h : ∀ a ∈ l, p a = q a) : l.filter p = l.filter q := List.filter_congr h
theorem fit_same {x y : Nl} {nets : List Int} {n : Nat} (hx : ∀ d ∈ x.ds, dvB (n : Int) d = true) (hy : ∀ d ∈ y.ds, dvB (n : Int) d = true) (hg : goodN n nets) :
    decide (innerS x.ds (lefTo n nets.length) = innerS y.ds (rigTo n nets nets.length)) = fitI x y nets := by
  unfold fitI innerS
  have e1 : x.ds.filter (inD (lefTo n nets.length)) = x.ds.filter fun d => d.pins.all fun p => decide (p < (nets.length : Int)) := filter_cong (fun d hd => by
    unfold inD
    rw [Bool.eq_iff_iff, List.all_eq_true, List.all_eq_true]
    constructor
    · intro h p hp
      have b := dvB_in (hx d hd) hp
      have := h p hp
      rw [nm_lefTo b.1 b.2] at this
      by_cases q : p < (nets.length : Int)
      · simpa using q
      · rw [if_neg q] at this; simp at this
    · intro h p hp
      have b := dvB_in (hx d hd) hp
      have q : p < (nets.length : Int) := by simpa using h p hp
      rw [nm_lefTo b.1 b.2, if_pos q]; simpa using b.1)
  have e2 : y.ds.filter (inD (rigTo n nets nets.length)) = y.ds.filter fun d => d.pins.all fun p => nets.contains p := filter_cong (fun d hd => by
    unfold inD
    rw [Bool.eq_iff_iff, List.all_eq_true, List.all_eq_true]
    constructor
    · intro h p hp
      have b := dvB_in (hy d hd) hp
      rw [← rig_pos hg b.1 b.2]; exact h p hp
    · intro h p hp
      have b := dvB_in (hy d hd) hp
      have := h p hp
      rw [← rig_pos hg b.1 b.2] at this; exact this)
  rw [e1, e2]
  have e3 : (y.ds.map nzD).filter (fun d => d.pins.all fun p => nets.contains p) = (y.ds.filter fun d => d.pins.all fun p => nets.contains p).map nzD := by
    rw [List.filter_map]
    congr 1
    exact filter_cong (fun d hd => nz_all _ (dvB_Two (hy d hd)))
  rw [e3]
  obtain ⟨F, hF⟩ : ∃ F, (x.ds.filter fun d => d.pins.all fun p => decide (p < (nets.length : Int))) = F := ⟨_, rfl⟩
  obtain ⟨G, hG⟩ : ∃ G, (y.ds.filter fun d => d.pins.all fun p => nets.contains p) = G := ⟨_, rfl⟩
  have kF : ∀ d ∈ F, Two d ∧ ∀ p ∈ d.pins, 0 ≤ p ∧ p < (n : Int) ∧ p < (nets.length : Int) := fun d hd => by
    rw [← hF, List.mem_filter] at hd
    have := List.all_eq_true.1 hd.2
    exact ⟨dvB_Two (hx d hd.1), fun p hp => ⟨(dvB_in (hx d hd.1) hp).1, (dvB_in (hx d hd.1) hp).2, by simpa using this p hp⟩⟩
  have kG : ∀ d ∈ G, Two d ∧ ∀ p ∈ d.pins, 0 ≤ p ∧ p < (n : Int) ∧ p ∈ nets := fun d hd => by
    rw [← hG, List.mem_filter] at hd
    have := List.all_eq_true.1 hd.2
    exact ⟨dvB_Two (hy d hd.1), fun p hp => ⟨(dvB_in (hy d hd.1) hp).1, (dvB_in (hy d hd.1) hp).2, by simpa using this p hp⟩⟩
  rw [hF, hG]
  have renId : ∀ (f : List Int) (d : Dv), (∀ p ∈ d.pins, nmOf f p = p) → renD f d = d := fun f d h => by
    obtain ⟨k, ps, wd, ln⟩ := d
    unfold renD
    dsimp only at h ⊢
    rw [List.map_congr_left (g := id) h, List.map_id]
  have e4 : F.map (fun d => nzD (renD (lefTo n nets.length) d)) = F.map nzD := List.map_congr_left (fun d hd => by
    rw [renId _ d (fun p hp => by have := (kF d hd).2 p hp; rw [nm_lefTo this.1 this.2.1, if_pos this.2.2])])
  rw [e4]
  have renren : ∀ (f g : List Int) (d : Dv), renD f (renD g d) = ⟨d.kind, d.pins.map (fun p => nmOf f (nmOf g p)), d.wd, d.len⟩ := fun f g d => by
    simp [renD, Function.comp_def]
  have cG : ∀ d ∈ G, nzD (renD nets (nzD (renD (rigTo n nets nets.length) d))) = nzD d := fun d hd => by
    rw [nz_ren _ ((kG d hd).1.ren _), renren]
    congr 1
    obtain ⟨k, ps, wd, ln⟩ := d
    have : ps.map (fun p => nmOf nets (nmOf (rigTo n nets nets.length) p)) = ps := by
      rw [List.map_congr_left (g := id) (fun p hp => ?_), List.map_id]
      obtain ⟨i, hi, e⟩ := mem_nm ((kG _ hd).2 p hp).2.2
      rw [← e, nm_rig hg hi]; rfl
    simp only [this]
  have cF : ∀ d ∈ F, nzD (renD (rigTo n nets nets.length) (nzD (renD nets d))) = nzD d := fun d hd => by
    rw [nz_ren _ ((kF d hd).1.ren _), renren]
    congr 1
    obtain ⟨k, ps, wd, ln⟩ := d
    have : ps.map (fun p => nmOf (rigTo n nets nets.length) (nmOf nets p)) = ps := by
      rw [List.map_congr_left (g := id) (fun p hp => ?_), List.map_id]
      have b := (kF _ hd).2 p hp
      have := nm_rig hg (i := p.toNat) (by omega)
      rw [Int.toNat_of_nonneg b.1] at this
      exact this
    simp only [this]
  have hiff : (srtD (F.map nzD) = srtD (G.map fun d => nzD (renD (rigTo n nets nets.length) d))) ↔ (srtD (F.map fun d => nzD (renD nets d)) = srtD (G.map nzD)) := by
    rw [srtD_eq, srtD_eq]
    constructor
    · intro h
      have h2 := h.map (fun d => nzD (renD nets d))
      rw [List.map_map, List.map_map] at h2
      rw [show F.map ((fun d => nzD (renD nets d)) ∘ nzD) = F.map (fun d => nzD (renD nets d)) from List.map_congr_left (fun d hd => nz_ren _ (kF d hd).1)] at h2
      rw [show G.map ((fun d => nzD (renD nets d)) ∘ fun d => nzD (renD (rigTo n nets nets.length) d)) = G.map nzD from List.map_congr_left (fun d hd => cG d hd)] at h2
      exact h2
    · intro h
      have h2 := h.map (fun d => nzD (renD (rigTo n nets nets.length) d))
      rw [List.map_map, List.map_map] at h2
      rw [show F.map ((fun d => nzD (renD (rigTo n nets nets.length) d)) ∘ fun d => nzD (renD nets d)) = F.map nzD from List.map_congr_left (fun d hd => cF d hd)] at h2
      rw [show G.map ((fun d => nzD (renD (rigTo n nets nets.length) d)) ∘ nzD) = G.map (fun d => nzD (renD (rigTo n nets nets.length) d)) from List.map_congr_left (fun d hd => nz_ren _ (kG d hd).1)] at h2
      exact h2
  exact decide_eq_decide.2 hiff
def srTo (g : Nat → List (List Int)) (one : Bool) : Nat → List (List Int)
  | 0 => []
  | k + 1 => if (one && decide (0 < (srTo g one k).length)) = true then srTo g one k else srTo g one k ++ g k
def srch (fit : List Int → Bool) (col : Nat → Nat → Bool) (n : Nat) (one : Bool) : Nat → List Int → List (List Int)
  | 0, nets => [nets]
  | r + 1, nets => srTo (fun k => if (col nets.length k && (!nets.contains (k : Int) && fit (nets ++ [(k : Int)]))) = true then srch fit col n one r (nets ++ [(k : Int)]) else []) one n
section
variable {g : Nat → List (List Int)} {one : Bool}
theorem srTo_stop {k : Nat} (h1 : one = true) (h : 0 < (srTo g one k).length) : ∀ m, srTo g one (k + m) = srTo g one k
  | 0 => rfl
  | m + 1 => by
    show (if (one && decide (0 < (srTo g one (k + m)).length)) = true then srTo g one (k + m) else srTo g one (k + m) ++ g (k + m)) = _
    rw [srTo_stop h1 h m, if_pos (by rw [h1] at h ⊢; simp [h])]
theorem srTo_sub {z : List Int} : ∀ {n : Nat}, z ∈ srTo g one n → ∃ k, k < n ∧ z ∈ g k
  | 0, h => by cases h
  | n + 1, h => by
    unfold srTo at h
    split at h
    · obtain ⟨k, a, b⟩ := srTo_sub h; exact ⟨k, by omega, b⟩
    · rcases List.mem_append.1 h with h | h
      · obtain ⟨k, a, b⟩ := srTo_sub h; exact ⟨k, by omega, b⟩
      · exact ⟨n, by omega, h⟩
end
section
variable {fit : List Int → Bool} {col : Nat → Nat → Bool} {n : Nat} {one : Bool}
theorem srch_sound {z : List Int} : ∀ (r : Nat) (nets : List Int), goodN n nets → fit nets = true → (∀ i, i < nets.length → col i (nmOf nets (i : Int)).toNat = true) → nets.length + r = n → z ∈ srch fit col n one r nets →
    goodN n z ∧ z.length = n ∧ fit z = true ∧ (∀ i, i < n → col i (nmOf z (i : Int)).toNat = true) ∧ z.take nets.length = nets
  | 0, nets, hg, hf, hc, hl, h => by
    have e : z = nets := by simpa [srch] using h
    subst e
    exact ⟨hg, by omega, hf, fun i hi => hc i (by omega), List.take_length⟩
  | r + 1, nets, hg, hf, hc, hl, h => by
    obtain ⟨k, hk, hz⟩ := srTo_sub h
    (try dsimp only at hz)
    split at hz
    · rename_i q
      simp only [Bool.and_eq_true, Bool.not_eq_true', List.contains_eq_mem, decide_eq_false_iff_not] at q
      obtain ⟨q1, q2, q3⟩ := q
      obtain ⟨a, b, c, d, e⟩ := srch_sound r (nets ++ [(k : Int)]) ⟨by
          rw [List.nodup_append]
          exact ⟨hg.1, by simp, fun u hu v hv e => by rw [List.mem_singleton] at hv; subst e; subst hv; exact q2 hu⟩, fun u hu => by
          rcases List.mem_append.1 hu with hu | hu
          · exact hg.2 u hu
          · rw [List.mem_singleton] at hu; omega⟩ q3 (fun i hi => by
          rw [List.length_append, List.length_singleton] at hi
          by_cases e : i = nets.length
          · subst e
            have : nmOf (nets ++ [(k : Int)]) (nets.length : Int) = k := by unfold nmOf; simp [List.getD_eq_getElem?_getD]
            rw [this]; simpa using q1
          · have : nmOf (nets ++ [(k : Int)]) (i : Int) = nmOf nets (i : Int) := by unfold nmOf; rw [Int.toNat_natCast, List.getD_eq_getElem?_getD, List.getD_eq_getElem?_getD, List.getElem?_append_left (by omega)]
            rw [this]; exact hc i (by omega)) (by rw [List.length_append, List.length_singleton]; omega) hz
      refine ⟨a, b, c, d, ?_⟩
      rw [List.length_append, List.length_singleton] at e
      have := congrArg (List.take nets.length) e
      rw [List.take_take, Nat.min_eq_left (by omega), List.take_left] at this
      exact this
    · cases hz
end
def grd (A B : List Dv) : Nat → List Int
  | 0 => []
  | k + 1 => grd A B k ++ [((((List.range B.length).find? fun j : Nat => !(grd A B k).contains (j : Int) && decide (B[j]? = A[k]?)).getD 0 : Nat) : Int)]
theorem nodup_sub_len : ∀ {a b : List Int}, a.Nodup → (∀ z ∈ a, z ∈ b) → a.length ≤ b.length
  | [], b, _, _ => by simp
  | x :: a, b, hn, h => by
    have hx := h x (by simp)
    have hn' := List.nodup_cons.1 hn
    have := nodup_sub_len (a := a) (b := b.erase x) hn'.2 (fun z hz => by
      have : z ≠ x := fun e => hn'.1 (e ▸ hz)
      exact (List.mem_erase_of_ne this).2 (h z (by simp [hz])))
    rw [List.length_erase_of_mem hx] at this
    have hp := List.length_pos_of_mem hx
    rw [List.length_cons]; omega
theorem cnt_idx {α : Type} [DecidableEq α] (B : List α) (a : α) : ((List.range B.length).filter fun j => decide (B[j]? = some a)).length = B.count a := by
  have h : ∀ k, k ≤ B.length → ((List.range k).filter fun j => decide (B[j]? = some a)).length = (B.take k).count a := by
    intro k hk
    induction k with
    | zero => simp
    | succ k ih =>
      have e : B[k]? = some B[k] := List.getElem?_eq_getElem (by omega)
      rw [List.range_succ, List.filter_append, List.length_append, ih (by omega), take_snoc_of B k _ e, List.count_append, List.count_singleton]
      congr 1
      by_cases q : B[k] = a
      · rw [List.filter_cons_of_pos (by simp [e, q])]; simp [q]
      · rw [List.filter_cons_of_neg (by simp [e, q])]; simp [q]
  have := h _ (Nat.le_refl _)
  rwa [List.take_length] at this
structure GrdOk (A B : List Dv) (k : Nat) : Prop where
  len : (grd A B k).length = k
  nodup : (grd A B k).Nodup
  range : ∀ z ∈ grd A B k, 0 ≤ z ∧ z < (B.length : Int)
  same : (grd A B k).map (fun z => B[z.toNat]?) = (A.take k).map some
theorem grd_next {A B : List Dv} (hp : A.Perm B) {k : Nat} (hk : k < A.length) (h : GrdOk A B k) : ∃ j : Nat, j < B.length ∧ ¬ (j : Int) ∈ grd A B k ∧ B[j]? = A[k]? := by
  have ea : A[k]? = some A[k] := List.getElem?_eq_getElem hk
  by_cases hex : ∃ j : Nat, j < B.length ∧ ¬ (j : Int) ∈ grd A B k ∧ B[j]? = A[k]?
  · exact hex
  · exfalso
    have hall : ∀ j, j < B.length → B[j]? = some A[k] → (j : Int) ∈ grd A B k := fun j hj e => by
      by_cases q : (j : Int) ∈ grd A B k
      · exact q
      · exact absurd ⟨j, hj, q, by rw [e, ea]⟩ hex
    have h1 := cnt_idx B A[k]
    have h2 : (((List.range B.length).filter fun j => decide (B[j]? = some A[k])).map fun j : Nat => (j : Int)).length ≤ ((grd A B k).filter fun z => decide (B[z.toNat]? = some A[k])).length := by
      refine nodup_sub_len ?_ (fun z hz => ?_)
      · have : ((List.range B.length).filter fun j => decide (B[j]? = some A[k])).Nodup := (List.nodup_range).sublist List.filter_sublist
        exact List.Pairwise.map (fun j : Nat => (j : Int)) (fun a b h e => h (by omega)) this
      · obtain ⟨j, hj, rfl⟩ := List.mem_map.1 hz
        rw [List.mem_filter, List.mem_range] at hj
        rw [List.mem_filter]
        exact ⟨hall j hj.1 (by simpa using hj.2), by simpa using hj.2⟩
    rw [List.length_map, h1] at h2
    have h3 : ((grd A B k).filter fun z => decide (B[z.toNat]? = some A[k])).length = (A.take k).count A[k] := by
      have e := congrArg (List.countP (fun o => decide (o = some A[k]))) h.same
      rw [List.countP_map, List.countP_map] at e
      rw [← List.countP_eq_length_filter]
      refine Eq.trans ?_ (e.trans ?_)
      · rfl
      · rw [List.count]
        congr 1
        funext a
        rw [Bool.eq_iff_iff]
        simp [Function.comp]
    rw [h3, ← hp.count_eq] at h2
    have h4 : A.count A[k] = (A.take k).count A[k] + (A.drop k).count A[k] := by rw [← List.count_append, List.take_append_drop]
    have h5 : 0 < (A.drop k).count A[k] := by
      exact List.count_pos_iff.2 (by rw [List.drop_eq_getElem_cons hk]; exact List.mem_cons_self)
    omega
theorem grd_pick {A B : List Dv} {k : Nat} (h : ∃ j : Nat, j < B.length ∧ ¬ (j : Int) ∈ grd A B k ∧ B[j]? = A[k]?) :
    ∃ j : Nat, grd A B (k + 1) = grd A B k ++ [(j : Int)] ∧ j < B.length ∧ ¬ (j : Int) ∈ grd A B k ∧ B[j]? = A[k]? ∧ ∀ i : Nat, i < j → ¬ (¬ (i : Int) ∈ grd A B k ∧ B[i]? = A[k]?) := by
  obtain ⟨j0, a, b, c⟩ := h
  cases hf : (List.range B.length).find? fun j : Nat => !(grd A B k).contains (j : Int) && decide (B[j]? = A[k]?) with
  | none =>
    have := List.find?_eq_none.1 hf j0 (List.mem_range.2 a)
    simp at this
    exact absurd c (this b)
  | some j =>
    refine ⟨j, by rw [grd, hf]; rfl, ?_⟩
    have h1 := List.find?_some hf
    have h2 := List.mem_of_find?_eq_some hf
    rw [List.mem_range] at h2
    simp only [Bool.and_eq_true, Bool.not_eq_true', List.contains_eq_mem, decide_eq_false_iff_not, decide_eq_true_eq] at h1
    refine ⟨h2, h1.1, h1.2, fun i hi q => ?_⟩
    obtain ⟨_, us, bs, e, hn⟩ := List.find?_eq_some_iff_append.1 hf
    have hil : us.length = j := by
      have e1 : (us ++ j :: bs)[us.length]? = some j := by simp
      rw [← e, List.getElem?_range (by have := congrArg List.length e; simp at this; omega)] at e1
      simpa using e1
    have him : i ∈ us := by
      have e1 : (List.range B.length)[i]? = some i := List.getElem?_range (by omega)
      rw [e, List.getElem?_append_left (by omega)] at e1
      exact List.mem_of_getElem? e1
    have := hn i him
    simp [q.1, q.2] at this
theorem grd_ok {A B : List Dv} (hp : A.Perm B) : ∀ k, k ≤ A.length → GrdOk A B k
  | 0, _ => ⟨rfl, by simp [grd], by simp [grd], by simp [grd]⟩
  | k + 1, hk => by
    have ih := grd_ok hp k (by omega)
    obtain ⟨j, e, h1, h2, h3, _⟩ := grd_pick (grd_next hp (by omega) ih)
    have ea : A[k]? = some A[k] := List.getElem?_eq_getElem (by omega)
    refine ⟨by rw [e, List.length_append, ih.len]; rfl, ?_, ?_, ?_⟩
    · rw [e, List.nodup_append]
      exact ⟨ih.nodup, by simp, fun a ha b hb q => by rw [List.mem_singleton] at hb; subst q; subst hb; exact h2 ha⟩
    · intro z hz
      rw [e] at hz
      rcases List.mem_append.1 hz with hz | hz
      · exact ih.range z hz
      · rw [List.mem_singleton] at hz; omega
    · rw [e, List.map_append, ih.same, take_snoc_of A k _ ea, List.map_append]
      simp [h3, ea]
theorem pt_in {x : Nl} (h : nlB x = true) {p : Pt} (hp : p ∈ x.ps) : 0 ≤ p.net ∧ p.net < x.nets := by
  obtain ⟨_, _, _, _, h5⟩ := nlB_facts h
  obtain ⟨i, hi, e⟩ := List.mem_iff_getElem.1 hp
  have := h5 i hi
  have e2 : x.ps[i]? = some p := by rw [List.getElem?_eq_getElem hi, e]
  unfold ptOk at this
  rw [e2] at this
  simp only [Bool.and_eq_true] at this
  have := inB_iff.1 this.2.1
  omega
theorem good_perm {n : Nat} {z : List Int} (hg : goodN n z) (hz : z.length = n) : permB z (n : Int) = true := permB_iff.2 ⟨by omega, hg.1, hg.2⟩
theorem full_perm {x y : Nl} {n : Nat} {z : List Int} (hx : ∀ d ∈ x.ds, dvB (n : Int) d = true) (hy : ∀ d ∈ y.ds, dvB (n : Int) d = true) (hg : goodN n z) (hz : z.length = n) (h : fitI x y z = true) :
    (x.ds.map fun d => nzD (renD z d)).Perm (y.ds.map nzD) := by
  unfold fitI at h
  have h := srtD_eq.1 (of_decide_eq_true h)
  rw [List.filter_eq_self.2 (fun d hd => by
    rw [List.all_eq_true]
    intro p hp
    have := dvB_in (hx d hd) hp
    simpa using (by omega : p < (z.length : Int)))] at h
  rw [List.filter_eq_self.2 (fun d hd => by
    obtain ⟨e, he, rfl⟩ := List.mem_map.1 hd
    rw [nz_all _ (dvB_Two (hy e he)), List.all_eq_true]
    intro p hp
    have := dvB_in (hy e he) hp
    obtain ⟨i, hi⟩ := permB_has (good_perm hg hz) p this.1 this.2
    simpa using List.mem_of_getElem? hi)] at h
  exact h
theorem iso_of {x y : Nl} (hx : nlB x = true) (hy : nlB y = true) (hn : y.nets = x.nets) (hl : y.ds.length = x.ds.length) (hpl : y.ps.length = x.ps.length) (hnm : ∀ (i : Nat) (a b : Pt), x.ps[i]? = some a → y.ps[i]? = some b → b.name = a.name)
    {z : List Int} (hg : goodN x.nets.toNat z) (hz : z.length = x.nets.toNat) (hf : fitB x y z = true) :
    NlIso x y z (grd (x.ds.map fun d => nzD (renD z d)) (y.ds.map nzD) x.ds.length) := by
  obtain ⟨⟨n0, n1⟩, _, _, hdx, _⟩ := nlB_facts hx
  obtain ⟨_, _, _, hdy, _⟩ := nlB_facts hy
  obtain ⟨n, hnn⟩ : ∃ n : Nat, x.nets = n := ⟨x.nets.toNat, by omega⟩
  rw [hn, hnn] at hdy
  rw [hnn] at hdx
  have hnt : x.nets.toNat = n := by omega
  rw [hnt] at hg hz
  unfold fitB at hf
  rw [hn, hnt] at hf
  simp only [Bool.and_eq_true] at hf
  obtain ⟨hf1, hf2⟩ := hf
  rw [fit_same hdx hdy hg] at hf2
  have hperm := full_perm hdx hdy hg hz hf2
  have ok := grd_ok hperm x.ds.length (by simp)
  refine ⟨by rw [hnn]; exact good_perm hg hz, permB_iff.2 ⟨by rw [ok.len], ok.nodup, fun q hq => by have := ok.range q hq; rw [List.length_map, hl] at this; exact this⟩, hn, hl, fun i d hd => ?_, hpl, fun i a ha => ?_⟩
  · have hi := (List.getElem?_eq_some_iff.1 hd).1
    have h1 := congrArg (fun l => l[i]?) ok.same
    (try dsimp only at h1)
    rw [List.getElem?_map, List.getElem?_map, nm_get (by rw [ok.len]; exact hi), List.getElem?_take_of_lt hi, List.getElem?_map, hd] at h1
    simp only [Option.map_some, Option.some.injEq, List.getElem?_map] at h1
    obtain ⟨e, he, e2⟩ := Option.map_eq_some_iff.1 h1
    exact ⟨e, he, (nz_eqv (dvB_Two (hdx d (List.mem_of_getElem? hd))) (dvB_Two (hdy e (List.mem_of_getElem? he)))).1 e2.symm⟩
  · have hi := (List.getElem?_eq_some_iff.1 ha).1
    have hb : y.ps[i]? = some (y.ps[i]'(by omega)) := List.getElem?_eq_getElem (by omega)
    refine ⟨_, hb, hnm i a _ ha hb, ?_⟩
    have h1 : prtLR x.ps y.ps (lefTo n z.length) (rigTo n z z.length) i = true := by
      have := hf1
      simp only [allB, List.all_eq_true, List.mem_range] at this
      exact this i hi
    unfold prtLR at h1
    rw [ha, hb] at h1
    simp only [decide_eq_true_eq] at h1
    have ra := pt_in hx (List.mem_of_getElem? ha)
    have rb := pt_in hy (List.mem_of_getElem? hb)
    rw [nm_lefTo ra.1 (by omega), if_pos (by omega)] at h1
    obtain ⟨k, hk⟩ := permB_has (good_perm hg hz) _ rb.1 (by omega)
    have hkl := (List.getElem?_eq_some_iff.1 hk).1
    have e3 : nmOf z (k : Int) = (y.ps[i]'(by omega)).net := by have := nm_get hkl; rw [hk] at this; exact (Option.some.inj this).symm
    rw [← e3, nm_rig hg hkl] at h1
    rw [h1]; exact e3.symm
theorem iota_map {α : Type} (B : List α) (d : α) : (iota B.length).map (fun z => (B[z.toNat]?).getD d) = B := by
  apply List.ext_getElem?
  intro i
  by_cases h : i < B.length
  · simp [iota, h]
  · have : B[i]? = none := by simp; omega
    simp [iota, h, this]
theorem NlIso.perm {x y : Nl} {p q : List Int} (H : NlIso x y p q) (hx : nlB x = true) (hy : nlB y = true) : (x.ds.map fun d => nzD (renD p d)).Perm (y.ds.map nzD) := by
  obtain ⟨_, _, _, hdx, _⟩ := nlB_facts hx
  obtain ⟨_, _, _, hdy, _⟩ := nlB_facts hy
  have hq := permB_perm H.pq
  have hql := (permB_iff.1 H.pq).1
  have h2 := hq.map (fun z => ((y.ds.map nzD)[z.toNat]?).getD ⟨0, [], 0, 0⟩)
  have e1 : q.length = (y.ds.map nzD).length := by rw [List.length_map, H.len]; omega
  rw [e1, iota_map] at h2
  refine List.Perm.trans (List.Perm.of_eq ?_) h2
  apply List.ext_getElem?
  intro i
  by_cases hi : i < x.ds.length
  · have hd : x.ds[i]? = some x.ds[i] := List.getElem?_eq_getElem hi
    obtain ⟨e, he, hv⟩ := H.dev i _ hd
    have eq := nm_get (zs := q) (i := i) (by omega)
    rw [List.getElem?_map, List.getElem?_map, hd, eq]
    simp only [Option.map_some, List.getElem?_map, he, Option.getD_some, Option.some.injEq]
    exact (nz_eqv (dvB_Two (hdx _ (List.mem_of_getElem? hd))) (dvB_Two (hdy e (List.mem_of_getElem? he)))).2 hv
  · have a : x.ds[i]? = none := by simp; omega
    have b : q[i]? = none := by simp; omega
    rw [List.getElem?_map, List.getElem?_map, a, b]; rfl
def colB (cx cy : List Int) (i k : Nat) : Bool := decide (nmOf cx (i : Int) = nmOf cy (k : Int))
noncomputable def srchS (x y : Nl) (one : Bool) : List (List Int) := srch (fitB x y) (colB (refNet x).1.1 (refNet y).1.1) x.nets.toNat one x.nets.toNat []
theorem fit_root {x y : Nl} (hx : nlB x = true) (hy : nlB y = true) (hn : y.nets = x.nets) (hpl : y.ps.length = x.ps.length) : fitB x y [] = true := by
  obtain ⟨⟨n0, n1⟩, _, _, hdx, _⟩ := nlB_facts hx
  obtain ⟨_, _, _, hdy, _⟩ := nlB_facts hy
  obtain ⟨n, hnn⟩ : ∃ n : Nat, x.nets = n := ⟨x.nets.toNat, by omega⟩
  have hnt : x.nets.toNat = n := by omega
  rw [hn, hnn] at hdy
  rw [hnn] at hdx
  unfold fitB
  rw [hn, hnt, fit_same hdx hdy ⟨by simp, by simp⟩, Bool.and_eq_true]
  constructor
  · refine allB_yes (fun i hi => ?_)
    have ha : x.ps[i]? = some x.ps[i] := List.getElem?_eq_getElem hi
    have hb : y.ps[i]? = some (y.ps[i]'(by omega)) := List.getElem?_eq_getElem (by omega)
    have ra := pt_in hx (List.mem_of_getElem? ha)
    have rb := pt_in hy (List.mem_of_getElem? hb)
    unfold prtLR
    rw [ha, hb]
    simp only [decide_eq_true_eq]
    rw [nm_lefTo ra.1 (by omega), if_neg (by simp; omega)]
    exact (nm_rig_no (nets := []) ⟨by simp, by simp⟩ rb.1 (by omega) (by simp)).symm
  · unfold fitI
    rw [decide_eq_true_eq]
    have e : ∀ (P : Int → Bool) (hP : ∀ p, 0 ≤ p → P p = false) (ds : List Dv), (∀ d ∈ ds, dvB (n : Int) d = true) → ds.filter (fun d => d.pins.all P) = [] := fun P hP ds h => by
      rw [List.filter_eq_nil_iff]
      intro d hd hc
      have h2 := dvB_pins (h d hd)
      have hc := List.all_eq_true.1 hc
      cases hp : d.pins with
      | nil => rw [hp] at h2; simp at h2
      | cons a s =>
        have ha : a ∈ d.pins := by rw [hp]; simp
        have := hc a ha
        rw [hP a (h2.2.2 a ha).1] at this; cases this
    rw [e _ (fun p hp => by simpa using hp) x.ds hdx, List.filter_map]
    rw [show y.ds.filter ((fun d : Dv => d.pins.all fun p => ([] : List Int).contains p) ∘ nzD) = y.ds.filter (fun d => d.pins.all fun p => ([] : List Int).contains p) from filter_cong (fun d hd => nz_all _ (dvB_Two (hdy d hd)))]
    rw [e _ (fun p hp => by simp) y.ds hdy]
    rfl
theorem srchS_iso {x y : Nl} (hx : nlB x = true) (hy : nlB y = true) (hn : y.nets = x.nets) (hl : y.ds.length = x.ds.length) (hpl : y.ps.length = x.ps.length) (hnm : ∀ (i : Nat) (a b : Pt), x.ps[i]? = some a → y.ps[i]? = some b → b.name = a.name)
    {one : Bool} {z : List Int} (h : z ∈ srchS x y one) : goodN x.nets.toNat z ∧ z.length = x.nets.toNat ∧ fitB x y z = true ∧ NlIso x y z (grd (x.ds.map fun d => nzD (renD z d)) (y.ds.map nzD) x.ds.length) := by
  obtain ⟨a, b, c, _, _⟩ := srch_sound x.nets.toNat [] ⟨by simp, by simp⟩ (fit_root hx hy hn hpl) (fun i hi => by simp at hi) (by simp) h
  exact ⟨a, b, c, iso_of hx hy hn hl hpl hnm a b c⟩
theorem ba_loop (d : Array UInt8) : ∀ (n i : Nat) (r : List UInt8), d.size - i = n → ByteArray.toList.loop ⟨d⟩ i r = r.reverse ++ d.toList.drop i
  | 0, i, r, h => by
    rw [ByteArray.toList.loop]
    have hs : (ByteArray.mk d).size = d.size := rfl
    have hl : d.toList.length = d.size := Array.length_toList
    rw [if_neg (by omega), List.drop_eq_nil_of_le (by omega), List.append_nil]
  | n + 1, i, r, h => by
    rw [ByteArray.toList.loop]
    have hs : (ByteArray.mk d).size = d.size := rfl
    have hl : d.toList.length = d.size := Array.length_toList
    rw [if_pos (by omega), ba_loop d n (i + 1) _ (by omega), List.drop_eq_getElem_cons (by omega : i < d.toList.length)]
    have : (ByteArray.mk d).get! i = d.toList[i]'(by omega) := by
      show d[i]! = _
      rw [getElem!_pos d i (by omega)]
      exact (Array.getElem_toList _).symm
    rw [this, List.reverse_cons, List.append_assoc]; rfl
theorem ba_toList (s : ByteArray) : s.toList = s.data.toList := by
  cases s
  unfold ByteArray.toList
  rw [ba_loop _ _ 0 [] rfl]; rfl
theorem ba_inj {a b : ByteArray} (h : a.toList = b.toList) : a = b := by
  rw [ba_toList, ba_toList] at h
  exact ByteArray.ext (Array.toList_inj.1 h)
def fstNo (f : Nat → Bool) (n : Nat) : Int :=
  match (List.range n).find? (fun i => !f i) with
  | some i => (i : Int)
  | none => -1
theorem fstNo_none {f : Nat → Bool} {n : Nat} (h : ∀ i, i < n → f i = true) : fstNo f n = -1 := by
  unfold fstNo
  rw [List.find?_eq_none.2 (fun i hi => by simp [h i (List.mem_range.1 hi)])]
theorem fstNo_at {f : Nat → Bool} {n k : Nat} (hk : k < n) (h1 : f k = false) (h : ∀ i, i < k → f i = true) : fstNo f n = k := by
  unfold fstNo
  cases hf : (List.range n).find? (fun i => !f i) with
  | none =>
    have := List.find?_eq_none.1 hf k (List.mem_range.2 hk)
    simp [h1] at this
  | some j =>
    have hj := List.find?_some hf
    simp only [Bool.not_eq_true'] at hj
    obtain ⟨_, us, bs, e, hn⟩ := List.find?_eq_some_iff_append.1 hf
    have hlt := List.mem_range.1 (List.mem_of_find?_eq_some hf)
    have hil : us.length = j := by
      have e1 : (us ++ j :: bs)[us.length]? = some j := by simp
      rw [← e, List.getElem?_range (by have := congrArg List.length e; simp at this; omega)] at e1
      simpa using e1
    have h2 : ¬ j < k := fun q => by rw [h j q] at hj; cases hj
    have h3 : ¬ k < j := fun q => by
      have e1 : (List.range n)[k]? = some k := List.getElem?_range hk
      rw [e, List.getElem?_append_left (by omega)] at e1
      have := hn k (List.mem_of_getElem? e1)
      simp [h1] at this
    have : j = k := by omega
    subst this; rfl
theorem fstNo_cases (f : Nat → Bool) (n : Nat) : (fstNo f n = -1 ∧ ∀ i, i < n → f i = true) ∨ ∃ k : Nat, k < n ∧ fstNo f n = k ∧ f k = false ∧ ∀ i, i < k → f i = true := by
  by_cases h : ∃ k, k < n ∧ f k = false
  · have : ∀ m, (∀ i, i < m → f i = true) ∨ ∃ k, k < m ∧ f k = false ∧ ∀ i, i < k → f i = true := by
      intro m
      induction m with
      | zero => exact .inl (fun i hi => by omega)
      | succ m ih =>
        rcases ih with ih | ⟨k, a, b, c⟩
        · cases q : f m with
          | true =>
            exact .inl (fun i hi => by
              by_cases e : i = m
              · subst e; exact q
              · exact ih i (by omega))
          | false => exact .inr ⟨m, by omega, q, ih⟩
        · exact .inr ⟨k, by omega, b, c⟩
    rcases this n with h2 | ⟨k, a, b, c⟩
    · obtain ⟨k, a, b⟩ := h
      rw [h2 k a] at b; cases b
    · exact .inr ⟨k, a, fstNo_at a b c, b, c⟩
  · have h2 : ∀ i, i < n → f i = true := fun i hi => by
      cases q : f i with
      | true => rfl
      | false => exact absurd ⟨i, hi, q⟩ h
    exact .inl ⟨fstNo_none h2, h2⟩
def namAt (ps qs : List Pt) (i : Nat) : Bool :=
  match ps[i]?, qs[i]? with
  | some p, some q => p.name.toList == q.name.toList
  | _, _ => false
def namD (ps qs : List Pt) : Int := fstNo (namAt ps qs) (max ps.length qs.length)
def szD (d : Dv) : Dv := ⟨d.kind, [], d.wd, d.len⟩
def szL (ds : List Dv) : List Dv := srtD (ds.map szD)
def sizD (ds es : List Dv) : Int := fstNo (fun i => decide ((szL ds)[i]? = (szL es)[i]?)) ds.length
def colD (a b : List Int) : Int := fstNo (fun c => decide (a.count (c : Int) = b.count (c : Int))) 24
theorem names_of {x y : Nl} {p q : List Int} (H : NlIso x y p q) : namD x.ps y.ps = -1 := by
  refine fstNo_none (fun i hi => ?_)
  have := H.plen
  have ha : x.ps[i]? = some (x.ps[i]'(by omega)) := List.getElem?_eq_getElem (by omega)
  obtain ⟨b, hb, e, _⟩ := H.port i _ ha
  unfold namAt
  rw [ha, hb]
  simp [e]
theorem sizes_of {x y : Nl} {p q : List Int} (H : NlIso x y p q) (hx : nlB x = true) (hy : nlB y = true) : sizD x.ds y.ds = -1 := by
  have h := (H.perm hx hy).map szD
  rw [List.map_map, List.map_map] at h
  have e1 : x.ds.map (szD ∘ fun d => nzD (renD p d)) = x.ds.map szD := List.map_congr_left (fun d _ => rfl)
  have e2 : y.ds.map (szD ∘ nzD) = y.ds.map szD := List.map_congr_left (fun d _ => rfl)
  rw [e1, e2] at h
  have : szL x.ds = szL y.ds := srtD_eq.2 h
  exact fstNo_none (fun i _ => by rw [this]; simp)
theorem col_perm {a b : List Int} {p : List Int} {n : Nat} (hp : permB p (n : Int) = true) (ha : a.length = n) (hb : b.length = n) (h : ∀ i : Nat, i < n → nmOf a (i : Int) = nmOf b (nmOf p (i : Int))) : a.Perm b := by
  have h1 := (permB_perm hp).map (fun z => (b[z.toNat]?).getD 0)
  have hl := (permB_iff.1 hp).1
  rw [show p.length = b.length by omega, iota_map] at h1
  refine List.Perm.trans (List.Perm.of_eq ?_) h1
  apply List.ext_getElem?
  intro i
  by_cases hi : i < n
  · rw [nm_get (by omega), List.getElem?_map, nm_get (zs := p) (by omega), h i hi]
    unfold nmOf
    simp [List.getD_eq_getElem?_getD]
  · have e1 : a[i]? = none := by simp; omega
    have e2 : p[i]? = none := by simp; omega
    rw [List.getElem?_map, e1, e2]; rfl
theorem colD_perm {a b : List Int} (h : a.Perm b) : colD a b = -1 := fstNo_none (fun c _ => by rw [h.count_eq]; simp)
theorem colors_of {x y : Nl} {p q : List Int} (H : NlIso x y p q) (hx : nlB x = true) (hy : nlB y = true)
    (lx : ((refNet x).1.1.length : Int) = x.nets ∧ (refNet x).1.2.length = x.ds.length) (ly : ((refNet y).1.1.length : Int) = y.nets ∧ (refNet y).1.2.length = y.ds.length) :
    colD (refNet x).1.1 (refNet y).1.1 = -1 ∧ colD (refNet x).1.2 (refNet y).1.2 = -1 := by
  obtain ⟨n, hn⟩ : ∃ n : Nat, x.nets = n := ⟨x.nets.toNat, by have := (nlB_facts hx).1; omega⟩
  have hc := (H.net hx hy).2
  have hpp := H.pp
  rw [hn] at hpp
  constructor
  · exact colD_perm (col_perm hpp (by omega) (by have := H.nets; omega) (fun i hi => hc.1 i (by omega)))
  · exact colD_perm (col_perm H.pq lx.2 (by have := H.len; omega) hc.2)
noncomputable def mayB (x y : Nl) : Bool := decide (x.nets = y.nets) && (decide (x.ds.length = y.ds.length) && (decide (namD x.ps y.ps = -1) && (decide (sizD x.ds y.ds = -1) && (decide (colD (refNet x).1.1 (refNet y).1.1 = -1) && decide (colD (refNet x).1.2 (refNet y).1.2 = -1)))))
theorem namD_no {ps qs : List Pt} (h : namD ps qs = -1) : qs.length = ps.length ∧ ∀ (i : Nat) (a b : Pt), ps[i]? = some a → qs[i]? = some b → b.name = a.name := by
  rcases fstNo_cases (namAt ps qs) (max ps.length qs.length) with ⟨_, h2⟩ | ⟨k, _, e, _⟩
  · have hl : qs.length = ps.length := by
      by_cases q : ps.length < qs.length
      · have := h2 ps.length (by omega)
        unfold namAt at this
        rw [show ps[ps.length]? = none by simp] at this
        simp at this
      · by_cases q2 : qs.length < ps.length
        · have := h2 qs.length (by omega)
          unfold namAt at this
          rw [show qs[qs.length]? = none by simp, List.getElem?_eq_getElem q2] at this
          simp at this
        · omega
    refine ⟨hl, fun i a b ha hb => ?_⟩
    have hi := (List.getElem?_eq_some_iff.1 ha).1
    have := h2 i (by omega)
    unfold namAt at this
    rw [ha, hb] at this
    simp only [beq_iff_eq] at this
    have e : b.name.toList = a.name.toList := this.symm
    exact ba_inj e
  · unfold namD at h; omega
theorem mem_portTo {ps : List Pt} {net : Int} {k j : Nat} : (j : Int) ∈ portTo ps net k ↔ j < k ∧ ∃ p, ps[j]? = some p ∧ p.net = net := by
  unfold portTo
  rw [List.mem_map]
  constructor
  · rintro ⟨i, hi, e⟩
    rw [List.mem_filter, List.mem_range] at hi
    have : i = j := by omega
    subst this
    refine ⟨hi.1, ?_⟩
    cases hp : ps[i]? with
    | none => rw [hp] at hi; simp at hi
    | some p => rw [hp] at hi; exact ⟨p, rfl, by simpa using hi.2⟩
  · rintro ⟨h1, p, hp, e⟩
    exact ⟨j, by rw [List.mem_filter, List.mem_range, hp]; exact ⟨h1, by simpa using e⟩, rfl⟩
theorem nm_rig_snoc {n : Nat} {nets : List Int} {k : Int} (hg : goodN n (nets ++ [k])) {b : Int} (h0 : 0 ≤ b) (h1 : b < n) :
    nmOf (rigTo n (nets ++ [k]) (nets ++ [k]).length) b = if b = k then (nets.length : Int) else nmOf (rigTo n nets nets.length) b := by
  have hg' : goodN n nets := ⟨(List.nodup_append.1 hg.1).1, fun z hz => hg.2 z (List.mem_append.2 (.inl hz))⟩
  have hl : (nets ++ [k]).length = nets.length + 1 := by simp
  have hin : ∀ i : Nat, i < nets.length → nmOf (nets ++ [k]) (i : Int) = nmOf nets (i : Int) := fun i hi => by
    unfold nmOf; rw [Int.toNat_natCast, List.getD_eq_getElem?_getD, List.getD_eq_getElem?_getD, List.getElem?_append_left hi]
  have hk : nmOf (nets ++ [k]) (nets.length : Int) = k := by unfold nmOf; simp [List.getD_eq_getElem?_getD]
  by_cases e : b = k
  · rw [if_pos e, e]
    have := nm_rig hg (i := nets.length) (by omega)
    rw [hk] at this; exact this
  · rw [if_neg e]
    by_cases hb : b ∈ nets
    · obtain ⟨i, hi, rfl⟩ := mem_nm hb
      have a1 := nm_rig hg (i := i) (by omega)
      rw [hin i hi] at a1
      rw [a1, nm_rig hg' hi]
    · rw [nm_rig_no hg' h0 h1 hb]
      exact nm_rig_no hg h0 h1 (fun h => by
        rcases List.mem_append.1 h with h | h
        · exact hb h
        · exact e (by simpa using h))
theorem port_step {ps qs : List Pt} {n : Nat} {nets : List Int} {k : Int} (hp : ∀ p ∈ ps, 0 ≤ p.net ∧ p.net < (n : Int)) (hq : ∀ p ∈ qs, 0 ≤ p.net ∧ p.net < (n : Int)) (hl : qs.length = ps.length) (hg : goodN n (nets ++ [k]))
    (h : allB (prtLR ps qs (lefTo n nets.length) (rigTo n nets nets.length)) ps.length = true) :
    allB (prtLR ps qs (lefTo n (nets ++ [k]).length) (rigTo n (nets ++ [k]) (nets ++ [k]).length)) ps.length = decide (portTo ps (nets.length : Int) ps.length = portTo qs k qs.length) := by
  have hll : (nets ++ [k]).length = nets.length + 1 := by simp
  have at_ : ∀ j, j < ps.length → ∃ a b, ps[j]? = some a ∧ qs[j]? = some b ∧ (0 ≤ a.net ∧ a.net < (n : Int)) ∧ (0 ≤ b.net ∧ b.net < (n : Int)) := fun j hj => by
    have ha : ps[j]? = some ps[j] := List.getElem?_eq_getElem hj
    have hb : qs[j]? = some (qs[j]'(by omega)) := List.getElem?_eq_getElem (by omega)
    exact ⟨_, _, ha, hb, hp _ (List.mem_of_getElem? ha), hq _ (List.mem_of_getElem? hb)⟩
  have old : ∀ j a b, j < ps.length → ps[j]? = some a → qs[j]? = some b → (if a.net < (nets.length : Int) then a.net else -1) = nmOf (rigTo n nets nets.length) b.net := fun j a b hj ha hb => by
    have := h
    simp only [allB, List.all_eq_true, List.mem_range] at this
    have := this j hj
    unfold prtLR at this
    rw [ha, hb] at this
    have h2 := of_decide_eq_true this
    have r := hp _ (List.mem_of_getElem? ha)
    rw [nm_lefTo r.1 r.2] at h2
    exact h2
  have new : ∀ j a b, j < ps.length → ps[j]? = some a → qs[j]? = some b → prtLR ps qs (lefTo n (nets ++ [k]).length) (rigTo n (nets ++ [k]) (nets ++ [k]).length) j = decide ((if a.net < (nets.length : Int) + 1 then a.net else -1) = if b.net = k then (nets.length : Int) else nmOf (rigTo n nets nets.length) b.net) := fun j a b hj ha hb => by
    have r := hp _ (List.mem_of_getElem? ha)
    have s := hq _ (List.mem_of_getElem? hb)
    unfold prtLR
    rw [ha, hb]
    dsimp only
    rw [nm_lefTo r.1 r.2, nm_rig_snoc hg s.1 s.2, hll]
    simp
  have lt : ∀ j a b, j < ps.length → ps[j]? = some a → qs[j]? = some b → nmOf (rigTo n nets nets.length) b.net < (nets.length : Int) := fun j a b hj ha hb => by
    rw [← old j a b hj ha hb]; split <;> omega
  have iff : allB (prtLR ps qs (lefTo n (nets ++ [k]).length) (rigTo n (nets ++ [k]) (nets ++ [k]).length)) ps.length = true ↔ ∀ j a b, j < ps.length → ps[j]? = some a → qs[j]? = some b → (a.net = (nets.length : Int) ↔ b.net = k) := by
    constructor
    · intro hA j a b hj ha hb
      simp only [allB, List.all_eq_true, List.mem_range] at hA
      have h2 := hA j hj
      rw [new j a b hj ha hb] at h2
      have h2 := of_decide_eq_true h2
      have := lt j a b hj ha hb
      have := (hp _ (List.mem_of_getElem? ha)).1
      constructor
      · intro e
        by_cases q : b.net = k
        · exact q
        · rw [if_neg q, if_pos (by omega)] at h2; omega
      · intro e
        rw [if_pos e] at h2
        split at h2 <;> omega
    · intro hA
      refine allB_yes (fun j hj => ?_)
      obtain ⟨a, b, ha, hb, r, s⟩ := at_ j hj
      rw [new j a b hj ha hb]
      have h1 := hA j a b hj ha hb
      have h2 := old j a b hj ha hb
      refine decide_eq_true ?_
      by_cases q : b.net = k
      · rw [if_pos q, if_pos (by have := h1.2 q; omega)]; exact h1.2 q
      · have : ¬ a.net = (nets.length : Int) := fun e => q (h1.1 e)
        rw [if_neg q, ← h2]
        by_cases q2 : a.net < (nets.length : Int)
        · rw [if_pos q2, if_pos (by omega)]
        · rw [if_neg q2, if_neg (by omega)]
  have iff2 : portTo ps (nets.length : Int) ps.length = portTo qs k qs.length ↔ ∀ j a b, j < ps.length → ps[j]? = some a → qs[j]? = some b → (a.net = (nets.length : Int) ↔ b.net = k) := by
    constructor
    · intro e j a b hj ha hb
      have m1 := mem_portTo (ps := ps) (net := (nets.length : Int)) (k := ps.length) (j := j)
      have m2 := mem_portTo (ps := qs) (net := k) (k := qs.length) (j := j)
      rw [e] at m1
      have := m1.symm.trans m2
      rw [ha, hb] at this
      constructor
      · intro q
        obtain ⟨_, p, hp', h'⟩ := this.1 ⟨hj, a, rfl, q⟩
        cases hp'; exact h'
      · intro q
        obtain ⟨_, p, hp', h'⟩ := this.2 ⟨by omega, b, rfl, q⟩
        cases hp'; exact h'
    · intro hA
      unfold portTo
      rw [hl]
      congr 1
      refine List.filter_congr (fun j hj => ?_)
      obtain ⟨a, b, ha, hb, _, _⟩ := at_ j (List.mem_range.1 hj)
      rw [ha, hb]
      exact decide_eq_decide.2 (hA j a b (List.mem_range.1 hj) ha hb)
  rw [Bool.eq_iff_iff, iff, decide_eq_true_iff, iff2]
theorem fit_step {x y : Nl} {nets : List Int} {k : Int} (hx : nlB x = true) (hy : nlB y = true) (hn : y.nets = x.nets) (hpl : y.ps.length = x.ps.length) (hg : goodN x.nets.toNat (nets ++ [k])) (h : fitB x y nets = true) :
    fitB x y (nets ++ [k]) = (decide (portTo x.ps (nets.length : Int) x.ps.length = portTo y.ps k y.ps.length) && fitI x y (nets ++ [k])) := by
  obtain ⟨⟨n0, n1⟩, _, _, hdx, _⟩ := nlB_facts hx
  obtain ⟨_, _, _, hdy, _⟩ := nlB_facts hy
  obtain ⟨n, hnn⟩ : ∃ n : Nat, x.nets = n := ⟨x.nets.toNat, by omega⟩
  have hnt : x.nets.toNat = n := by omega
  rw [hn, hnn] at hdy
  rw [hnn] at hdx
  rw [hnt] at hg
  unfold fitB at h ⊢
  rw [hn, hnt] at h ⊢
  rw [Bool.and_eq_true] at h
  rw [fit_same hdx hdy hg, port_step (fun p hp => by have := pt_in hx hp; omega) (fun p hp => by have := pt_in hy hp; omega) hpl hg h.1]
theorem srTo_next {g : Nat → List (List Int)} {one : Bool} {k : Nat} (h : ¬ (one && decide (0 < (srTo g one k).length)) = true) : srTo g one (k + 1) = srTo g one k ++ g k := by
  show (if _ then _ else _) = _
  rw [if_neg h]
def smlB (x : Nl) : Bool := decide (x.nets ≤ 10) && decide (x.ds.length ≤ 10)
noncomputable def cpS (x y : Nl) (z : List Int) : List Int := grd (x.ds.map fun d => nzD (renD z d)) (y.ds.map nzD) x.ds.length
noncomputable def cmpF (x y : Nl) : Option (List Int) := if mayB x y = true then (srchS x y true).head? else none
noncomputable def cmpR (x y : Nl) : List Int × List Int :=
  if (nlB x && nlB y) = true then (if (smlB x && smlB y) = true then (match cmpF x y with | some z => (z, cpS x y z) | none => ([], [])) else ([], [])) else ([], [])
noncomputable def cmpC (x y : Nl) : Int :=
  if (nlB x && nlB y) = true then (if (smlB x && smlB y) = true then (match cmpF x y with | some _ => 0 | none => 5) else 3) else 1
def preB (x y : Nl) : Bool := decide (x.nets = y.nets) && (decide (x.ds.length = y.ds.length) && decide (namD x.ps y.ps = -1))
theorem pre_facts {x y : Nl} (h : preB x y = true) : y.nets = x.nets ∧ y.ds.length = x.ds.length ∧ y.ps.length = x.ps.length ∧ ∀ (i : Nat) (a b : Pt), x.ps[i]? = some a → y.ps[i]? = some b → b.name = a.name := by
  simp only [preB, Bool.and_eq_true, decide_eq_true_eq] at h
  obtain ⟨h1, h2, h3⟩ := h
  obtain ⟨h4, h5⟩ := namD_no h3
  exact ⟨h1.symm, h2.symm, h4, h5⟩
theorem ref_lens {x : Nl} (hx : nlB x = true) : ((refNet x).1.1.length : Int) = x.nets ∧ (refNet x).1.2.length = x.ds.length := by
  have hr : refNet x = refN x 64 (iniS x) 0 := by unfold refNet; rw [if_pos hx]
  have := coB_lens (coB_refN 64 (iniS x) 0 (coB_ini hx))
  rw [hr]
  exact ⟨this.1, this.2.1⟩
theorem iso_may {x y : Nl} {p q : List Int} (H : NlIso x y p q) (hx : nlB x = true) (hy : nlB y = true) : mayB x y = true := by
  obtain ⟨c1, c2⟩ := colors_of H hx hy (ref_lens hx) (ref_lens hy)
  simp only [mayB, Bool.and_eq_true, decide_eq_true_eq]
  exact ⟨H.nets.symm, H.len.symm, names_of H, sizes_of H hx hy, c1, c2⟩
theorem cmpF_pre {x y : Nl} (hx : nlB x = true) (hy : nlB y = true) : cmpF x y = if preB x y = true then (srchS x y true).head? else none := by
  unfold cmpF
  by_cases hp : preB x y = true
  · rw [if_pos hp]
    obtain ⟨f1, f2, f3, f4⟩ := pre_facts hp
    by_cases hm : mayB x y = true
    · rw [if_pos hm]
    · rw [if_neg hm]
      cases hs : srchS x y true with
      | nil => rfl
      | cons z l =>
        obtain ⟨_, _, _, H⟩ := srchS_iso hx hy f1 f2 f3 f4 (one := true) (z := z) (by rw [hs]; simp)
        exact absurd (iso_may H hx hy) hm
  · rw [if_neg hp, if_neg (fun hm => hp (by
      simp only [mayB, Bool.and_eq_true, decide_eq_true_eq] at hm
      simp only [preB, Bool.and_eq_true, decide_eq_true_eq]
      exact ⟨hm.1, hm.2.1, hm.2.2.1⟩))]
noncomputable def expR (x y : Nl) : (Int × Int × Int) × Int :=
  if (nlB x && nlB y) = true then
    (if x.nets = y.nets then
      (if x.ds.length = y.ds.length then
        (if namD x.ps y.ps = -1 then
          (if sizD x.ds y.ds = -1 then
            (if colD (refNet x).1.1 (refNet y).1.1 = -1 then
              (if colD (refNet x).1.2 (refNet y).1.2 = -1 then
                (if (smlB x && smlB y) = true then (match cmpF x y with | some _ => ((0, 0, 0), 0) | none => ((7, 0, 0), 0)) else ((0, 0, 0), 3))
              else ((6, colD (refNet x).1.2 (refNet y).1.2, 0), 0))
            else ((5, colD (refNet x).1.1 (refNet y).1.1, 0), 0))
          else ((4, sizD x.ds y.ds, 0), 0))
        else ((3, namD x.ps y.ps, 0), 0))
      else ((2, (x.ds.length : Int), (y.ds.length : Int)), 0))
    else ((1, x.nets, y.nets), 0))
  else ((0, 0, 0), 1)
theorem isoD_eq (z : List Int) (d e : Dv) : isoD z d e = decide (nzD (renD z d) = nzD e) := by
  unfold isoD
  rw [show devcmp d.kind e.kind (normz d.kind (d.pins.map (nmOf z))) (normz e.kind e.pins) d.wd e.wd d.len e.len = dcf (nzD (renD z d)) (nzD e) from rfl]
  exact decide_eq_decide.2 dcf_zero
theorem dev_pick {xs ys : List Dv} {z : List Int} (hp : (xs.map fun d => nzD (renD z d)).Perm (ys.map nzD)) {k : Nat} (hk : k < xs.length) :
    ∃ j : Nat, grd (xs.map fun d => nzD (renD z d)) (ys.map nzD) (k + 1) = grd (xs.map fun d => nzD (renD z d)) (ys.map nzD) k ++ [(j : Int)] ∧ j < ys.length ∧ (grd (xs.map fun d => nzD (renD z d)) (ys.map nzD) k).contains (j : Int) = false ∧
      (∀ d e, xs[k]? = some d → ys[j]? = some e → isoD z d e = true) ∧ ∀ i : Nat, i < j → (grd (xs.map fun d => nzD (renD z d)) (ys.map nzD) k).contains (i : Int) = false → ∀ d e, xs[k]? = some d → ys[i]? = some e → isoD z d e = false := by
  have ok := grd_ok hp k (by rw [List.length_map]; omega)
  obtain ⟨j, h1, h2, h3, h4, h5⟩ := grd_pick (grd_next hp (by rw [List.length_map]; exact hk) ok)
  refine ⟨j, h1, by simpa using h2, by simpa using h3, fun d e hd he => ?_, fun i hi hc d e hd he => ?_⟩
  · rw [isoD_eq]
    rw [List.getElem?_map, List.getElem?_map, hd, he] at h4
    exact decide_eq_true (Option.some.inj h4).symm
  · rw [isoD_eq]
    refine decide_eq_false (fun q => h5 i hi ⟨by simpa using hc, ?_⟩)
    rw [List.getElem?_map, List.getElem?_map, hd, he]
    simp [q]
def HasN (w : World) (g n : Nat) (zs : List Int) : Prop := ∃ cs : Array Value, Blk w g cs 2 ∧ cs.size = n ∧ ICs cs zs
theorem HasN.by {w w' : World} {g n : Nat} {zs : List Int} (hb : Below w.heap.size w w') (h : HasN w g n zs) : HasN w' g n zs := by
  obtain ⟨cs, a, b⟩ := h; exact ⟨cs, Blk.by hb a, b⟩
theorem HasN.sl {w : World} {g n : Nat} {zs : List Int} (h : HasN w g n zs) (hz : zs.length = n) (hn : n ≤ 1000) : IntSl w (.slice (some ⟨g, 0, none⟩) n n) zs := by
  obtain ⟨cs, a, b, c⟩ := h
  have : OwnR w g (g + 1) (.slice (some ⟨g, 0, none⟩) zs.length n) zs := ICs.own c a (by omega) (by unfold maxLen; omega)
  rw [hz] at this
  exact this.sl
theorem HasN.nm {w : World} {g n i : Nat} {zs : List Int} (h : HasN w g n zs) (hz : zs.length = n) (hi : i < n) : w.cell? ⟨g, i, none⟩ = some (.int .i64 (nmOf zs (i : Int))) := by
  obtain ⟨cs, a, b, c⟩ := h
  exact (a.cell i).trans (c i _ (nm_get (by omega)))
theorem nm_map {p r : List Int} {k : Int} (h0 : 0 ≤ k) (h1 : k < p.length) : nmOf (p.map (nmOf r)) k = nmOf r (nmOf p k) := by
  have e := nm_get (zs := p) (i := k.toNat) (by omega)
  rw [Int.toNat_of_nonneg h0] at e
  conv => lhs; unfold nmOf
  rw [List.getD_eq_getElem?_getD, List.getElem?_map, e]; rfl
theorem nm_inv {zs : List Int} {n : Int} (hp : permB zs n = true) {i : Int} (h0 : 0 ≤ i) (h1 : i < n) : nmOf (invS zs) (nmOf zs i) = i := by
  have hl := (permB_iff.1 hp).1
  have e := thru_inv hp
  rw [show thruS zs (invS zs) = zs.map (nmOf (invS zs)) from rfl] at e
  rw [← nm_map h0 (by omega), e]
  unfold nmOf
  rw [List.getD_eq_getElem?_getD, iota_get _ _ (by omega)]
  show ((i.toNat : Nat) : Int) = i
  omega
theorem nm_inv' {zs : List Int} {n : Int} (hp : permB zs n = true) {i : Int} (h0 : 0 ≤ i) (h1 : i < n) : nmOf zs (nmOf (invS zs) i) = i := by
  have hl := (permB_iff.1 hp).1
  have e := inv_thru hp
  rw [show thruS (invS zs) zs = (invS zs).map (nmOf zs) from rfl] at e
  rw [← nm_map h0 (by rw [length_invS]; omega), e]
  unfold nmOf
  rw [List.getD_eq_getElem?_getD, iota_get _ _ (by omega)]
  show ((i.toNat : Nat) : Int) = i
  omega
theorem map_perm {zs ys : List Int} {n : Int} (hp : permB zs n = true) (hq : permB ys n = true) : permB (zs.map (nmOf ys)) n = true := by
  obtain ⟨a, b, c⟩ := permB_iff.1 hp
  refine permB_iff.2 ⟨by rw [List.length_map]; exact a, ?_, fun z hz => ?_⟩
  · have h : ∀ (l : List Int), (∀ z ∈ l, 0 ≤ z ∧ z < n) → l.Nodup → (l.map (nmOf ys)).Nodup := by
      intro l
      induction l with
      | nil => simp
      | cons u l ih =>
        intro hr hn
        rw [List.map_cons, List.nodup_cons]
        rw [List.nodup_cons] at hn
        refine ⟨fun hm => ?_, ih (fun z hz => hr z (by simp [hz])) hn.2⟩
        obtain ⟨v, hv, e⟩ := List.mem_map.1 hm
        have := nmP_inj hq (hr v (by simp [hv])) (hr u (by simp)) e
        subst this
        exact hn.1 hv
    exact h zs c b
  · obtain ⟨u, hu, rfl⟩ := List.mem_map.1 hz
    exact (nmP hq (c u hu).1 (c u hu).2).2
theorem ren_ren {p r : List Int} {d : Dv} (h : ∀ k ∈ d.pins, 0 ≤ k ∧ k < p.length) : renD (p.map (nmOf r)) d = renD r (renD p d) := by
  obtain ⟨kd, ps, wd, ln⟩ := d
  unfold renD
  dsimp only at h ⊢
  rw [List.map_map]
  congr 1
  exact List.map_congr_left (fun k hk => nm_map (h k hk).1 (h k hk).2)
section
variable {x y z : Nl} {p q r s : List Int}
theorem NlIso.trans (H : NlIso x y p q) (K : NlIso y z r s) (hx : nlB x = true) (hy : nlB y = true) (hz : nlB z = true) : NlIso x z (p.map (nmOf r)) (q.map (nmOf s)) := by
  obtain ⟨_, _, _, hdx, _⟩ := nlB_facts hx
  obtain ⟨_, _, _, hdy, _⟩ := nlB_facts hy
  obtain ⟨_, _, _, hdz, _⟩ := nlB_facts hz
  have hpl := (permB_iff.1 H.pp).1
  have hql := (permB_iff.1 H.pq).1
  have k1 := K.pp
  rw [H.nets] at k1
  have k2 := K.pq
  rw [H.len] at k2
  refine ⟨map_perm H.pp k1, map_perm H.pq k2, K.nets.trans H.nets, K.len.trans H.len, fun i d hd => ?_, K.plen.trans H.plen, fun i a ha => ?_⟩
  · have hi := (List.getElem?_eq_some_iff.1 hd).1
    obtain ⟨e, he, h1⟩ := H.dev i d hd
    obtain ⟨hq0, hq1⟩ := (nmP H.pq (i := (i : Int)) (by omega) (by omega)).2
    obtain ⟨f, hf, h2⟩ := K.dev _ e he
    rw [Int.toNat_of_nonneg hq0] at hf
    refine ⟨f, by rw [nm_map (by omega) (by omega)]; exact hf, ?_⟩
    have t1 := dvB_Two (hdx d (List.mem_of_getElem? hd))
    have t2 := dvB_Two (hdy e (List.mem_of_getElem? he))
    have t3 := dvB_Two (hdz f (List.mem_of_getElem? hf))
    refine (nz_eqv t1 t3).1 ?_
    rw [ren_ren (fun k hk => by have := dvB_in (hdx d (List.mem_of_getElem? hd)) hk; omega), ← nz_ren r (t1.ren p), (nz_eqv t1 t2).2 h1, nz_ren r t2, (nz_eqv t2 t3).2 h2]
  · obtain ⟨b, hb, n1, m1⟩ := H.port i a ha
    obtain ⟨c, hc, n2, m2⟩ := K.port i b hb
    have := pt_in hx (List.mem_of_getElem? ha)
    exact ⟨c, hc, n2.trans n1, by rw [m2, m1, nm_map this.1 (by omega)]⟩
theorem NlIso.symm (H : NlIso x y p q) (hx : nlB x = true) (hy : nlB y = true) : NlIso y x (invS p) (invS q) := by
  obtain ⟨_, _, _, hdx, _⟩ := nlB_facts hx
  obtain ⟨_, _, _, hdy, _⟩ := nlB_facts hy
  have hpl := (permB_iff.1 H.pp).1
  have hql := (permB_iff.1 H.pq).1
  have i1 := permB_invS H.pp
  have i2 := permB_invS H.pq
  refine ⟨by rw [H.nets]; exact i1, by rw [H.len]; exact i2, H.nets.symm, H.len.symm, fun j e he => ?_, H.plen.symm, fun j b hb => ?_⟩
  · have hj := (List.getElem?_eq_some_iff.1 he).1
    rw [H.len] at hj
    obtain ⟨h0, h1⟩ := (nmP i2 (i := (j : Int)) (by omega) (by omega)).2
    have hback := nm_inv' H.pq (i := (j : Int)) (by omega) (by omega)
    obtain ⟨i, hi⟩ : ∃ i : Nat, nmOf (invS q) (j : Int) = i := ⟨_, (Int.toNat_of_nonneg h0).symm⟩
    rw [hi] at hback h1
    have hd : x.ds[i]? = some (x.ds[i]'(by omega)) := List.getElem?_eq_getElem (by omega)
    obtain ⟨e', he', hv⟩ := H.dev i _ hd
    rw [hback, Int.toNat_natCast, he] at he'
    obtain rfl := Option.some.inj he'
    refine ⟨_, by rw [hi, Int.toNat_natCast]; exact hd, ?_⟩
    have t1 := dvB_Two (hdx _ (List.mem_of_getElem? hd))
    have t2 := dvB_Two (hdy e (List.mem_of_getElem? he))
    refine (nz_eqv t2 t1).1 ?_
    rw [← nz_ren _ t2, ← (nz_eqv t1 t2).2 hv, nz_ren _ (t1.ren p), ← ren_ren (fun k hk => by have := dvB_in (hdx _ (List.mem_of_getElem? hd)) hk; omega)]
    have : renD (p.map (nmOf (invS p))) (x.ds[i]'(by omega)) = x.ds[i]'(by omega) := by
      have hin : ∀ k ∈ (x.ds[i]'(by omega)).pins, nmOf (p.map (nmOf (invS p))) k = k := fun k hk => by
        have := dvB_in (hdx _ (List.mem_of_getElem? hd)) hk
        rw [nm_map this.1 (by omega), nm_inv H.pp this.1 this.2]
      generalize x.ds[i]'(by omega) = d at hin ⊢
      obtain ⟨kd, ps, wd, ln⟩ := d
      unfold renD
      dsimp only at hin ⊢
      rw [List.map_congr_left (g := id) hin, List.map_id]
    rw [this]
  · have hj := (List.getElem?_eq_some_iff.1 hb).1
    have ha : x.ps[j]? = some (x.ps[j]'(by rw [← H.plen]; exact hj)) := List.getElem?_eq_getElem _
    obtain ⟨b', hb', n1, m1⟩ := H.port j _ ha
    rw [hb] at hb'
    obtain rfl := Option.some.inj hb'
    have := pt_in hx (List.mem_of_getElem? ha)
    exact ⟨_, ha, n1.symm, by rw [m1, nm_inv H.pp this.1 this.2]⟩
end
noncomputable def fstR (x y : Nl) : List Int × List Int := match cmpF x y with | some z => (z, cpS x y z) | none => ([], [])
theorem own_below {a w : World} (h : Below a.heap.size a w) : OwnPr w a.heap.size w.heap.size (.agg #[.slice none 0 0, .slice none 0 0]) ([], []) ∧ Below a.heap.size a w :=
  ⟨⟨_, _, a.heap.size, a.heap.size, a.heap.size, a.heap.size, rfl, .inl ⟨_, _, rfl, rfl⟩, .inl ⟨_, _, rfl, rfl⟩, ⟨Nat.le_refl _, h.size⟩, ⟨Nat.le_refl _, h.size⟩, .inl (Nat.le_refl _)⟩, h⟩
theorem ap_is {x : Nl} {z : List Int × List Int} (hx : nlB x = true) (h1 : permB z.1 x.nets = true) (h2 : permB z.2 (x.ds.length : Int) = true) : apR x z = ⟨x.nets, ordD z.2 (x.ds.map (renD z.1)), x.ps.map (renP z.1)⟩ := by
  unfold apR; rw [if_pos hx, if_pos ⟨h1, h2⟩]
def rowZ (d : Dv) : List Int := [d.kind, d.wd, d.len]
def rowsTo (ds : List Dv) (k : Nat) : List (List Int) := (ds.take k).map rowZ
noncomputable def rowsS (ds : List Dv) : List (List Int) := (szL ds).map rowZ
theorem lcmp_rowZ {a b : Dv} (ha : a.pins = []) (hb : b.pins = []) : lcmp (rowZ a) (rowZ b) = dcf a b := by
  unfold rowZ dcf devcmp or2
  rw [ha, hb]
  simp only [lcmp]
  repeat' split
  all_goals first | rfl | omega | simp_all
theorem szL_pins {ds : List Dv} {a : Dv} (h : a ∈ szL ds) : a.pins = [] := by
  unfold szL at h
  obtain ⟨d, _, rfl⟩ := List.mem_map.1 ((srtD_perm _).mem_iff.1 h)
  rfl
theorem rowsS_perm (ds : List Dv) : (rowsS ds).Perm (ds.map rowZ) := by
  unfold rowsS szL
  have h := (srtD_perm (ds.map szD)).map rowZ
  rw [List.map_map] at h
  exact h
theorem rowsS_pw (ds : List Dv) : (rowsS ds).Pairwise (fun a b => lcmp a b ≤ 0) := by
  unfold rowsS
  rw [List.pairwise_map]
  have h : (szL ds).Pairwise (fun x y => dlt y x = false) := srtD_pairwise _
  refine List.Pairwise.imp_of_mem (fun {a b} ha hb hab => ?_) h
  rw [lcmp_flip, lcmp_rowZ (szL_pins hb) (szL_pins ha)]
  have := of_decide_eq_false hab
  omega
theorem rowsS_of {ds : List Dv} {qs : List (List Int)} (h1 : qs.Perm (ds.map rowZ)) (h2 : qs.Pairwise (fun a b => lcmp a b ≤ 0)) : qs = rowsS ds :=
  List.Perm.eq_of_pairwise (le := fun a b => lcmp a b ≤ 0) (fun a b _ _ hab hba => by
    have := lcmp_flip a b
    exact (lcmp_zero a b).1 (by omega)) h2 (rowsS_pw ds) (h1.trans (rowsS_perm ds).symm)
theorem length_rowsS (ds : List Dv) : (rowsS ds).length = ds.length := by
  have := (rowsS_perm ds).length_eq
  rw [List.length_map] at this; exact this
theorem rowsS_get {ds es : List Dv} (i : Nat) : decide ((rowsS ds)[i]? = (rowsS es)[i]?) = decide ((szL ds)[i]? = (szL es)[i]?) := by
  refine decide_eq_decide.2 ?_
  unfold rowsS
  rw [List.getElem?_map, List.getElem?_map]
  cases h1 : (szL ds)[i]? with
  | none => cases h2 : (szL es)[i]? <;> simp
  | some a =>
    cases h2 : (szL es)[i]? with
    | none => simp
    | some b =>
      have ha := szL_pins (List.mem_of_getElem? h1)
      have hb := szL_pins (List.mem_of_getElem? h2)
      obtain ⟨k, p, w, l⟩ := a
      obtain ⟨k', p', w', l'⟩ := b
      dsimp only at ha hb
      subst ha hb
      simp [rowZ]
theorem sizD_rows (ds es : List Dv) : sizD ds es = fstNo (fun i => decide ((rowsS ds)[i]? = (rowsS es)[i]?)) ds.length := by
  unfold sizD
  congr 1
  funext i
  exact (rowsS_get i).symm
theorem rowsTo_step {ds : List Dv} {k : Nat} {d : Dv} (h : ds[k]? = some d) : rowsTo ds (k + 1) = rowsTo ds k ++ [rowZ d] := by
  unfold rowsTo
  rw [take_snoc_of ds k d h, List.map_append]
  rfl
theorem BldL.prs {w : World} {lo hi g n c : Nat} {ls : List (List Int)} (h : BldL w lo hi (.slice (some ⟨g, 0, none⟩) n c) ls) (hn : ls.length = n) : ∃ (ps : List (Value × List Int)) (cs : Array Value), ps.map (·.2) = ls ∧ Blk w g cs 27 ∧ (∀ (i : Nat) p, ps[i]? = some p → cs[i]? = some p.1) ∧ (∀ p ∈ ps, p.1.oneCell' = true ∧ ∀ w', Off g w w' → IntSl w' p.1 p.2) ∧ n ≤ c ∧ c ≤ maxLen ∧ ps.length = n := by
  subst hn
  obtain ⟨hs, vs, f, ⟨hlen, h1⟩, h2, h3, h4⟩ := h
  rcases h1 with ⟨h1, _⟩ | ⟨g', cap, cur, e1, e2, e3, e4, e5, e6, e7⟩
  · cases h1
  · simp only [Value.slice.injEq, Option.some.injEq, Addr.mk.injEq, and_true] at e1
    obtain ⟨rfl, _, rfl⟩ := e1
    refine ⟨vs.zip ls, cur, by rw [List.map_snd_zip (by omega)], e3, fun i p hp => ?_, fun p hp => ?_, e4, e5, by simp [h2]⟩
    · have hi' : i < (vs.zip ls).length := (List.getElem?_eq_some_iff.1 hp).1
      have hi : i < vs.length ∧ i < ls.length := by simp at hi'; omega
      rw [List.getElem?_eq_getElem hi', List.getElem_zip] at hp
      injection hp with hp
      subst hp
      have h6 : (cur.toList.take (ls.length * 1))[i]? = some vs[i] := by rw [e7]; exact List.getElem?_eq_getElem hi.1
      rw [List.getElem?_take_of_lt (by omega)] at h6
      dsimp only
      have h7 : cur[i]? = some vs[i] := by simpa using h6
      exact h7
    · obtain ⟨i, hi', e⟩ := List.mem_iff_getElem.1 hp
      have hi : i < vs.length ∧ i < ls.length := by simp at hi'; omega
      rw [List.getElem_zip] at e
      subst e
      obtain ⟨a, b, d⟩ := h4 i ls[i] vs[i] (List.getElem?_eq_getElem hi.2) (List.getElem?_eq_getElem hi.1)
      refine ⟨a.sl.one, fun w' ho => OwnR.sl (OwnR.same (lo := f i) (hi := f i + 1) a (fun q h1 h2 => ?_))⟩
      obtain rfl : q = f i := by omega
      exact ho (f i) (by omega) (fun e => d (by rw [e]; rfl))
theorem list_pushLN {ops : Array Oper} {rest : List Oper} {o : Oper} {a : Act} {w : World} {Q : Exit → Act → World → Prop} (hgd : o.guard = none) (s x : Operand)
    (ho : o.op = .call { callee := .builtin .append, args := #[s, x], argTypes := #[87, 87] })
    (lo hi N : Nat) (v : Value) (ls : List (List Int)) (hN : ls.length = N) (hs : a.eval s = v) (hB : BldL w lo hi v ls) (nb : Nat) (d : List Int) (pv : Value) (fb : Nat) (hx : a.eval x = .slice (some ⟨nb, 0, none⟩) 1 1)
    (hnb : Blk w nb #[pv] 27) (hpv : OwnR w fb (fb + 1) pv d) (hlo : lo ≤ hi) (hhi : hi ≤ fb) (hfb : fb < w.heap.size) (hn : N ≤ 1000)
    (hK : ∀ g c' w', BldL w' lo w'.heap.size (.slice (some ⟨g, 0, none⟩) (N + 1) c') (ls ++ [d]) → Within lo hi w w' → wpList Tryz.prog ops Q rest (a.put o.dst (.slice (some ⟨g, 0, none⟩) (N + 1) c')) w') : wpList Tryz.prog ops Q (o :: rest) a w := by
  subst hN
  exact list_pushLG hgd s x ho lo hi v ls hs hB nb d pv fb hx hnb hpv hlo hhi hfb hn (fun g c' w' h1 _ _ h4 => hK g c' w' h1 h4)
set_option maxRecDepth 100000 in
theorem szc_any (s1 s2 : Value) (xs ys : List Int) (w : World) (h : IntSl w s1 xs) (h' : IntSl w s2 ys) :
    Calls Tryz.prog 141 #[s1, s2] w fun e w' => e = .returned (.int .i64 (lcmp xs ys)) ∧ ∃ n, w' = w.drewN n := by
  have HC := Lib.hid (slicesCompare_any s1 s2 xs ys w h h')
  obtain ⟨a, c, rfl⟩ := h.len
  obtain ⟨a', c', rfl⟩ := h'.len
  generalize lcmp xs ys = r at *
  clear h h'
  go_enter Tryz.func141, Tryz.ntmps141
  go_wp2_with fail
  refine HC.out.mono ?_
  rintro e w1 ⟨rfl, n, rfl⟩
  go_wp2
  go_ret
  exact ⟨rfl, n, rfl⟩
set_option maxRecDepth 100000 in
set_option maxHeartbeats 4000000 in
theorem sizesOf_any (x : Nl) (v : Value) (w : World) (h : NlV w v x) (hl : x.ds.length ≤ 24) :
    Calls Tryz.prog 103 #[v] w fun e w' => ∃ g c, e = .returned (.slice (some ⟨g, 0, none⟩) x.ds.length c) ∧ LlSl w' (.slice (some ⟨g, 0, none⟩) x.ds.length c) (rowsS x.ds) ∧ Below w.heap.size w w' := by
  have HLR := Lib.hid (length_rowsS x.ds)
  have HRS := Lib.hid (fun k d (h : x.ds[k]? = some d) => rowsTo_step h)
  have HRL := Lib.hid (show ∀ k, k ≤ x.ds.length → (rowsTo x.ds k).length = k from fun k hk => by unfold rowsTo; rw [List.length_map, List.length_take]; omega)
  have HR0 := Lib.hid (show rowsTo x.ds 0 = [] from rfl)
  have HRA := Lib.hid (show rowsTo x.ds x.ds.length = x.ds.map rowZ from by unfold rowsTo; rw [List.take_length])
  have HRO := Lib.hid (fun qs h1 h2 => @rowsS_of x.ds qs h1 h2)
  obtain ⟨s1, s2, rfl, hd, hp⟩ := h
  obtain ⟨nx, xs, ps⟩ := x
  dsimp only at *
  have HX := Lib.hid hd
  obtain ⟨a1, c1, rfl⟩ := hd.sized
  obtain ⟨a2, c2, rfl⟩ := hp.sized
  obtain ⟨n, hn⟩ : ∃ n, xs.length = n := ⟨_, rfl⟩
  obtain ⟨p, hpl⟩ : ∃ n, ps.length = n := ⟨_, rfl⟩
  rw [hpl]
  rw [hn] at HX hl HLR HRL HRA ⊢
  have HN := Lib.hid hn
  have HSF := Lib.hid (fun blk cap ps w cs hB hc he hn => sortFuncL_any 141 (enters_of Tryz.func141 (by kernel_rfl) rfl) (fun W s1 s2 xs ys h h' => szc_any s1 s2 xs ys W h h') blk cap ps w cs hB hc he hn)
  clear hd hp hn hpl
  have kA0 : Blk ((w.alloc (.cells #[.int .i64 nx, .slice a1 n c1, .slice a2 p c2] 35)).alloc (.cells #[] 27)) w.heap.size #[.int .i64 nx, .slice a1 n c1, .slice a2 p c2] 35 := (Blk.new _ rfl).past _
  have HB0 : Hid (BldL ((w.alloc (.cells #[.int .i64 nx, .slice a1 n c1, .slice a2 p c2] 35)).alloc (.cells #[] 27)) (w.heap.size + 1) (w.heap.size + 2) (.slice (some ⟨w.heap.size + 1, 0, none⟩) 0 0) (rowsTo xs 0)) := Lib.hid (by
    rw [HR0.out]
    exact ⟨by simp, [], fun _ => 0, ⟨rfl, .inr ⟨w.heap.size + 1, 0, #[], rfl, Nat.le_refl _, Blk.new _ (by simp), Nat.le_refl _, by unfold maxLen; omega, rfl, rfl⟩⟩, rfl, (fun g' hg' => by
      have e : w.heap.size + 1 = g' := by injection hg'
      omega), by intro i x s h; simp at h⟩)
  go_enter Tryz.func103, Tryz.ntmps103
  go_wp2
  go_loopw [3, 10] (fun ov iv wr => ∃ (k g c hi : Nat), k ≤ n ∧ ov = .slice (some ⟨g, 0, none⟩) k c ∧ iv = .int .i64 (k : Int) ∧ Hid (BldL wr (w.heap.size + 1) hi (.slice (some ⟨g, 0, none⟩) k c) (rowsTo xs k)) ∧ w.heap.size + 1 ≤ hi ∧ hi ≤ wr.heap.size ∧ Blk wr w.heap.size #[.int .i64 nx, .slice a1 n c1, .slice a2 p c2] 35 ∧ Below w.heap.size w wr) (fun _ iv _ => n - (intOf iv).toNat)
  case atStart => exact ⟨0, w.heap.size + 1, 0, w.heap.size + 2, Nat.zero_le _, rfl, rfl, HB0, by omega, by simp, kA0, blwT⟩
  case round =>
    clear HB0 kA0
    obtain ⟨k, g, c, hi, hk, rfl, rfl, HB, hhi, hhs, kA, hb⟩ := hrel
    by_cases hlt : k < n
    · have i1 : (k : Int) < (n : Int) := by omega
      have i2 : decide (k < n) = true := decide_eq_true hlt
      obtain ⟨d, hx⟩ : ∃ x, xs[k]? = some x := ⟨_, List.getElem?_eq_getElem (by rw [HN.out]; exact hlt)⟩
      have HRS1 := Lib.hid (HRS.out k d hx)
      rcases HX.out with ⟨_, _, _, h2⟩ | ⟨xb, xo, xc, he, _, _, h4⟩
      · rw [h2] at hx; simp at hx
      obtain ⟨rfl, rfl⟩ : a1 = some ⟨xb, xo, none⟩ ∧ c1 = xc := by
        simp only [Value.slice.injEq] at he
        exact ⟨he.1, he.2.2⟩
      obtain ⟨sx, x1, x2, x3, x4, x5⟩ := (h4 k d hx).by hb
      obtain ⟨px, cx, rfl⟩ := x5.len
      generalize d.pins.length = PX at *
      clear x5
      have lx := lt_of_cell x1
      dsimp only at lx
      clear hx he h4
      have hal : Below wr.heap.size wr (((wr.alloc (.cells #[.int .i64 d.kind, .slice px PX cx, .int .i64 d.wd, .int .i64 d.len] 62)).alloc (.cells #[.int .i64 d.kind, .int .i64 d.wd, .int .i64 d.len] 2)).alloc (.cells #[.slice (some ⟨wr.heap.size + 1, 0, none⟩) 3 3] 27)) := (((Below.refl _ wr).alloc (Nat.le_refl _) _).alloc (by simp) _).alloc (by simp; omega) _
      have kR : Blk (((wr.alloc (.cells #[.int .i64 d.kind, .slice px PX cx, .int .i64 d.wd, .int .i64 d.len] 62)).alloc (.cells #[.int .i64 d.kind, .int .i64 d.wd, .int .i64 d.len] 2)).alloc (.cells #[.slice (some ⟨wr.heap.size + 1, 0, none⟩) 3 3] 27)) (wr.heap.size + 1) #[.int .i64 d.kind, .int .i64 d.wd, .int .i64 d.len] 2 := (Blk.new _ (by simp)).past _
      have kS : Blk (((wr.alloc (.cells #[.int .i64 d.kind, .slice px PX cx, .int .i64 d.wd, .int .i64 d.len] 62)).alloc (.cells #[.int .i64 d.kind, .int .i64 d.wd, .int .i64 d.len] 2)).alloc (.cells #[.slice (some ⟨wr.heap.size + 1, 0, none⟩) 3 3] 27)) (wr.heap.size + 2) #[.slice (some ⟨wr.heap.size + 1, 0, none⟩) 3 3] 27 := Blk.new _ (by simp)
      have hOR : OwnR (((wr.alloc (.cells #[.int .i64 d.kind, .slice px PX cx, .int .i64 d.wd, .int .i64 d.len] 62)).alloc (.cells #[.int .i64 d.kind, .int .i64 d.wd, .int .i64 d.len] 2)).alloc (.cells #[.slice (some ⟨wr.heap.size + 1, 0, none⟩) 3 3] 27)) (wr.heap.size + 1) (wr.heap.size + 1 + 1) (.slice (some ⟨wr.heap.size + 1, 0, none⟩) 3 3) (rowZ d) := .inr ⟨wr.heap.size + 1, 3, _, rfl, Nat.le_refl _, Nat.lt_succ_self _, Nat.le_refl _, by unfold maxLen; omega, kR, fun i z hz => by
        unfold rowZ at hz
        rcases i with _ | _ | _ | i
        · simp at hz; subst hz; rfl
        · simp at hz; subst hz; rfl
        · simp at hz; subst hz; rfl
        · simp at hz⟩
      have HOR := Lib.hid hOR
      have HBA := Lib.hid (show BldL (((wr.alloc (.cells #[.int .i64 d.kind, .slice px PX cx, .int .i64 d.wd, .int .i64 d.len] 62)).alloc (.cells #[.int .i64 d.kind, .int .i64 d.wd, .int .i64 d.len] 2)).alloc (.cells #[.slice (some ⟨wr.heap.size + 1, 0, none⟩) 3 3] 27)) (w.heap.size + 1) hi (.slice (some ⟨g, 0, none⟩) k c) (rowsTo xs k) from HB.out.by hal)
      have kAA := Blk.by hal kA
      have hbA := below_on hal hb
      clear hOR kR hal
      go_wp2_with (refine list_pushLN (by rfl) _ _ (by rfl) (w.heap.size + 1) hi k (.slice (some ⟨g, 0, none⟩) k c) (rowsTo xs k) (HRL.out k hk) (by rfl) HBA.out (wr.heap.size + 2) (rowZ d) (.slice (some ⟨wr.heap.size + 1, 0, none⟩) 3 3) (wr.heap.size + 1) (by rfl) kS HOR.out (by omega) (by omega) (by simp) (by omega) ?_; intro g9 c9 w9 hB9 hW9; have HB9 := Lib.hid hB9; have kA9 := hW9.blk kAA (.inl (by omega)); have hb9 := hW9.below hbA (by omega); have hs9 := hW9.size; clear hB9 hW9)
      exact ⟨⟨k + 1, g9, c9, w9.heap.size, by omega, by rfl, by go_num, Lib.hid (by rw [HRS1.out]; exact HB9.out), by (try simp only [World.size_alloc] at hs9); omega, Nat.le_refl _, kA9, hb9⟩, by simp [intOf]; omega⟩
    · obtain rfl : n = k := by omega
      have i1 : ¬ (n : Int) < (n : Int) := by omega
      obtain ⟨ps, cs, hps, hBk, hcs, hone, hnc, hcm, hpn⟩ := HB.out.prs (HRL.out n (Nat.le_refl _))
      rw [HRA.out] at hps
      have hgo : w.heap.size ≤ g := by
        obtain ⟨_, vs, f, _, _, h3, _⟩ := HB.out
        have := h3 g rfl
        omega
      have HPS := Lib.hid hps
      have HON := Lib.hid hone
      have hsf := HSF.out g c ps wr cs hBk hcs hone (by omega)
      rw [hpn] at hsf
      have HSFX := Lib.hid hsf
      clear hsf hps hone hcs hlt
      go_wp2_with fail
      refine HSFX.out.mono ?_
      rintro e w9 ⟨rfl, qs, ds, hq1, hq2, hq3, hq4, hq5, hW⟩
      have hb9 : Below w.heap.size w w9 := hW.below hb (by omega)
      have hrows : qs.map (·.2) = rowsS xs := HRO.out _ (by rw [← HPS.out]; exact hq1.map _) (by rw [List.pairwise_map]; exact hq2)
      have hql : qs.length = n := by rw [hq1.length_eq]; exact hpn
      have hLl : LlSl w9 (.slice (some ⟨g, 0, none⟩) n c) (rowsS xs) := by
        rw [← hrows]
        refine .inr ⟨g, 0, c, by rw [List.length_map, hql], by rw [List.length_map, hql]; exact hnc, hcm, fun i r hr => ?_⟩
        rw [List.getElem?_map] at hr
        obtain ⟨q, hq, rfl⟩ : ∃ q, qs[i]? = some q ∧ q.2 = r := by
          cases h : qs[i]? with
          | none => rw [h] at hr; simp at hr
          | some t => rw [h] at hr; exact ⟨t, rfl, by simpa using hr⟩
        refine ⟨q.1, by rw [Nat.zero_add, hq3.cell]; exact hq5 i q hq, ?_⟩
        exact (HON.out q (hq1.mem_iff.1 (List.mem_of_getElem? hq))).2 w9 (fun k hk hne => hW.block k hk (by omega))
      have HLL := Lib.hid hLl
      clear hq1 hq2 hq3 hq4 hq5 hW hrows hql hLl hBk
      go_wp2
      go_ret
      exact ⟨g, c, rfl, HLL.out, hb9⟩
end Go.Proofs.YtifbffianbgeaaaGreat
