/- Renumbered netlists have renumbered colors: plain. -/
import Derived.Test.YtpaiiaajbojmnaaGreatRefNs
import Derived.Test.YtpaiiaajbojmnaaGreatAps
namespace Go.Proofs.YtpaiiaajbojmnaaGreat
open Go.RowKit
set_option linter.unusedVariables false
set_option linter.unusedSimpArgs false

/-- What a permutation lists. -/
theorem nmP {zs : List Int} {n : Int} (hp : permB zs n = true) {i : Int} (h0 : 0 ≤ i) (h1 : i < n) : zs[i.toNat]? = some (nmOf zs i) ∧ 0 ≤ nmOf zs i ∧ nmOf zs i < n := by
  obtain ⟨a1, a2, a3⟩ := permB_iff.1 hp
  have e : zs[i.toNat]? = some (zs[i.toNat]'(by omega)) := List.getElem?_eq_getElem (by omega)
  have e2 : nmOf zs i = zs[i.toNat]'(by omega) := by unfold nmOf; rw [List.getD_eq_getElem?_getD, e]; rfl
  rw [e2]
  exact ⟨e, a3 _ (List.getElem_mem _)⟩
theorem nmP_inj {zs : List Int} {n : Int} (hp : permB zs n = true) {i j : Int} (hi : 0 ≤ i ∧ i < n) (hj : 0 ≤ j ∧ j < n) (h : nmOf zs i = nmOf zs j) : i = j := by
  have a := (nmP hp hi.1 hi.2).1
  have b := (nmP hp hj.1 hj.2).1
  rw [h] at a
  rcases Nat.lt_trichotomy i.toNat j.toNat with q | q | q
  · have := permB_dup (n := n) q a b; rw [hp] at this; cases this
  · omega
  · have := permB_dup (n := n) q b a; rw [hp] at this; cases this
theorem nmP_onto {zs : List Int} {n : Int} (hp : permB zs n = true) {k : Int} (h0 : 0 ≤ k) (h1 : k < n) : ∃ i : Nat, (i : Int) < n ∧ nmOf zs i = k := by
  obtain ⟨i, hi⟩ := permB_has hp k h0 h1
  have hl := (List.getElem?_eq_some_iff.1 hi).1
  have := (permB_iff.1 hp).1
  exact ⟨i, by omega, by unfold nmOf; rw [Int.toNat_natCast, List.getD_eq_getElem?_getD, hi]; rfl⟩

theorem coB_lens {x : Nl} {c : List Int × List Int} (h : coB x c = true) : (c.1.length : Int) = x.nets ∧ c.2.length = x.ds.length ∧ 0 ≤ x.nets ∧ x.nets ≤ 24 := by
  obtain ⟨h1, h2, _⟩ := coB_nets h
  obtain ⟨_, _, h3, _⟩ := coB_facts h
  exact ⟨h1, h3, h2.1, h2.2⟩
/-- Ranks hang on what is listed alone. -/
theorem rankOf_mem {ls ls' : List (List Int)} (h : ∀ z, z ∈ ls ↔ z ∈ ls') (x : List Int) : rankOf ls x = rankOf ls' x := by
  rw [rankOf_fsts, rankOf_fsts]
  exact (perm_of_mem _ _ (nodup_fsts ls) (nodup_fsts ls') (fun z => by rw [mem_fsts, mem_fsts]; exact h z)).countP_eq _
theorem nm_range {f : Nat → Int} {n i : Nat} (h : i < n) : nmOf ((List.range n).map f) (i : Int) = f i := by
  unfold nmOf; rw [Int.toNat_natCast]; simp [List.getD_eq_getElem?_getD, h]
theorem rank_eqv {zs : List Int} {n : Nat} (hp : permB zs (n : Int) = true) (kx ky : Nat → List Int) (h : ∀ i, i < n → kx i = ky (nmOf zs (i : Int)).toNat) (i : Nat) (hi : i < n) :
    nmOf (rankS ((List.range n).map kx)) (i : Int) = nmOf (rankS ((List.range n).map ky)) (nmOf zs (i : Int)) := by
  have hm : ∀ z, z ∈ (List.range n).map kx ↔ z ∈ (List.range n).map ky := by
    intro z
    simp only [List.mem_map, List.mem_range]
    constructor
    · rintro ⟨j, hj, rfl⟩
      have := (nmP hp (i := (j : Int)) (by omega) (by omega)).2
      exact ⟨(nmOf zs (j : Int)).toNat, by omega, (h j hj).symm⟩
    · rintro ⟨j, hj, rfl⟩
      obtain ⟨k, hk, e⟩ := nmP_onto hp (k := (j : Int)) (by omega) (by omega)
      exact ⟨k, by omega, by rw [h k (by omega), e]; rfl⟩
  have hz := (nmP hp (i := (i : Int)) (by omega) (by omega)).2
  obtain ⟨z, hze⟩ : ∃ z : Nat, nmOf zs (i : Int) = (z : Int) := ⟨(nmOf zs (i : Int)).toNat, by omega⟩
  have hi2 := h i hi
  rw [hze] at hi2 hz ⊢
  rw [Int.toNat_natCast] at hi2
  unfold rankS
  rw [List.map_map, List.map_map, nm_range hi, nm_range (by omega)]
  show ((rankOf _ (kx i) : Nat) : Int) = ((rankOf _ (ky z) : Nat) : Int)
  rw [hi2, rankOf_mem hm]

/-- A list over and over. -/
def rep (l : List Int) (k : Nat) : List Int := (List.replicate k l).flatten
theorem rep_add (l : List Int) (a b : Nat) : rep l (a + b) = rep l a ++ rep l b := by
  unfold rep; rw [← List.replicate_append_replicate, List.flatten_append]
def sumN (h : Nat → Nat) : Nat → Nat
  | 0 => 0
  | k + 1 => sumN h k + h k
theorem flat_rep (l : List Int) (h : Nat → Nat) (n : Nat) : (List.range n).flatMap (fun j => rep l (h j)) = rep l (sumN h n) := by
  induction n with
  | zero => rfl
  | succ n ih => rw [flat_succ, ih]; exact (rep_add _ _ _).symm
theorem sumN_list (h : Nat → Nat) (n : Nat) : sumN h n = ((List.range n).map h).sum := by
  induction n with
  | zero => rfl
  | succ n ih => rw [List.range_succ, List.map_append, List.sum_append, ← ih]; simp [sumN]
theorem sumN_congr {h g : Nat → Nat} {n : Nat} (e : ∀ j, j < n → h j = g j) : sumN h n = sumN g n := by
  induction n with
  | zero => rfl
  | succ n ih => show _ + _ = _ + _; rw [ih (fun j hj => e j (by omega)), e n (by omega)]
theorem sumN_perm {zs : List Int} {n : Nat} (hp : permB zs (n : Int) = true) (g : Nat → Nat) : sumN (fun j => g (nmOf zs (j : Int)).toNat) n = sumN g n := by
  have hl := (permB_iff.1 hp).1
  rw [sumN_list, sumN_list]
  have e1 : (List.range n).map (fun j : Nat => g (nmOf zs (j : Int)).toNat) = zs.map (fun z => g z.toNat) := by
    apply List.ext_getElem?
    intro j
    rw [List.getElem?_map, List.getElem?_map]
    by_cases hj : j < n
    · rw [List.getElem?_range hj]
      have := (nmP hp (i := (j : Int)) (by omega) (by omega)).1
      rw [Int.toNat_natCast] at this
      rw [this]; rfl
    · rw [List.getElem?_eq_none (by simp; omega), List.getElem?_eq_none (by omega)]; rfl
  have e2 : (List.range n).map g = (iota n).map (fun z => g z.toNat) := by
    unfold iota; rw [List.map_map]; exact List.map_congr_left (fun j _ => by simp)
  rw [e1, e2]
  have hn : zs.length = n := by omega
  have := (permB_perm hp)
  rw [hn] at this
  exact (this.map _).sum_nat
/-- How often a net is met at a device. -/
def hits (ci kind : Int) (pins : List Int) (net color role : Int) : Nat := sumN (fun k => if pHit ci kind pins net color role k = true then 1 else 0) pins.length
theorem pTo_rep (ci kind : Int) (pins : List Int) (net color role : Int) : pTo ci kind pins net color role pins.length = rep [color, role] (hits ci kind pins net color role) := by
  unfold pTo hits
  rw [← flat_rep]
  congr 1
  funext k
  split <;> rfl
theorem dTo_rep (ds : List Dv) (cs : List Int) (net color role : Int) : dTo ds cs net color role ds.length = rep [color, role] (sumN (fun j => hits (nmOf cs (j : Int)) (dAt ds j).kind (dAt ds j).pins net color role) ds.length) := by
  unfold dTo
  rw [← flat_rep]
  congr 1
  funext j
  exact pTo_rep _ _ _ _ _ _

/-- Device e is device d with renamed nets, its current pins perhaps exchanged. -/
def DvEqv (p : List Int) (d e : Dv) : Prop :=
  e.kind = d.kind ∧ e.wd = d.wd ∧ e.len = d.len ∧
  (e.pins = d.pins.map (nmOf p) ∨
   (∃ a b, d.pins = [a, b] ∧ e.pins = [nmOf p b, nmOf p a]) ∨ ∃ g a b, d.pins = [g, a, b] ∧ e.pins = [nmOf p g, nmOf p b, nmOf p a])
/-- Netlist y is netlist x renumbered. -/
structure NlIso (x y : Nl) (p q : List Int) : Prop where
  pp : permB p x.nets = true
  pq : permB q (x.ds.length : Int) = true
  nets : y.nets = x.nets
  len : y.ds.length = x.ds.length
  dev : ∀ (i : Nat) (d : Dv), x.ds[i]? = some d → ∃ e, y.ds[(nmOf q (i : Int)).toNat]? = some e ∧ DvEqv p d e
  plen : y.ps.length = x.ps.length
  port : ∀ (i : Nat) (a : Pt), x.ps[i]? = some a → ∃ b, y.ps[i]? = some b ∧ b.name = a.name ∧ b.net = nmOf p a.net
/-- The colors go along. -/
def ColEqv (x : Nl) (p q : List Int) (c d : List Int × List Int) : Prop :=
  (∀ i : Nat, (i : Int) < x.nets → nmOf c.1 (i : Int) = nmOf d.1 (nmOf p (i : Int))) ∧ ∀ i : Nat, i < x.ds.length → nmOf c.2 (i : Int) = nmOf d.2 (nmOf q (i : Int))
theorem pinsOf_two {d : Dv} {nets : Int} (h : dvB nets d = true) : (d.kind = 2 ∧ ∃ a b, d.pins = [a, b]) ∨ (¬ d.kind = 2 ∧ ∃ g a b, d.pins = [g, a, b]) := by
  obtain ⟨h1, h2, _⟩ := dvB_all h
  by_cases hk : d.kind = 2
  · left
    have : d.pins.length = 2 := by rw [h2, hk]; rfl
    match e : d.pins with
    | [a, b] => exact ⟨hk, a, b, rfl⟩
    | [] => rw [e] at this; cases this
    | [_] => rw [e] at this; cases this
    | _ :: _ :: _ :: _ => rw [e] at this; simp at this
  · right
    have : d.pins.length = 3 := by rw [h2]; unfold pinsOf; rw [if_neg (by omega)]
    match e : d.pins with
    | [g, a, b] => exact ⟨hk, g, a, b, rfl⟩
    | [] => rw [e] at this; cases this
    | [_] => rw [e] at this; cases this
    | [_, _] => rw [e] at this; cases this
    | _ :: _ :: _ :: _ :: _ => rw [e] at this; simp at this
theorem dvB_in {nets : Int} {d : Dv} (h : dvB nets d = true) {p : Int} (hp : p ∈ d.pins) : 0 ≤ p ∧ p < nets := (dvB_pins h).2.2 p hp
theorem hits_eqv {x : Nl} {p : List Int} (hp : permB p x.nets = true) {d e : Dv} (hd : dvB x.nets d = true) (h : DvEqv p d e) (ci net color role : Int) (h0 : 0 ≤ net) (h1 : net < x.nets) :
    hits ci d.kind d.pins net color role = hits ci e.kind e.pins (nmOf p net) color role := by
  obtain ⟨k1, k2, k3, k4⟩ := h
  have inj : ∀ a, a ∈ d.pins → (nmOf p a = nmOf p net ↔ a = net) := fun a ha =>
    ⟨fun e => nmP_inj hp (dvB_in hd ha) ⟨h0, h1⟩ e, fun e => by rw [e]⟩
  rw [k1]
  rcases pinsOf_two hd with ⟨hk, a, b, hpn⟩ | ⟨hk, g, a, b, hpn⟩
  · have ia := inj a (by rw [hpn]; simp)
    have ib := inj b (by rw [hpn]; simp)
    have k4' : e.pins = [nmOf p a, nmOf p b] ∨ e.pins = [nmOf p b, nmOf p a] := by
      rcases k4 with q | ⟨a', b', q1, q2⟩ | ⟨g', a', b', q1, q2⟩
      · left; rw [q, hpn]; rfl
      · right; rw [hpn] at q1; injection q1 with q1 q3; injection q3 with q3; subst q1 q3; exact q2
      · rw [hpn] at q1; simp at q1
    rw [hpn, hk]
    rcases k4' with q | q <;> rw [q] <;> simp only [hits, List.length_cons, List.length_nil, sumN, pHit, roleOf, List.getD_cons_zero, List.getD_cons_succ, if_true, ia, ib]
    omega
  · have ig := inj g (by rw [hpn]; simp)
    have ia := inj a (by rw [hpn]; simp)
    have ib := inj b (by rw [hpn]; simp)
    have k4' : e.pins = [nmOf p g, nmOf p a, nmOf p b] ∨ e.pins = [nmOf p g, nmOf p b, nmOf p a] := by
      rcases k4 with q | ⟨a', b', q1, q2⟩ | ⟨g', a', b', q1, q2⟩
      · left; rw [q, hpn]; rfl
      · rw [hpn] at q1; simp at q1
      · right; rw [hpn] at q1; injection q1 with q0 q1; injection q1 with q1 q3; injection q3 with q3; subst q0 q1 q3; exact q2
    rw [hpn]
    rcases k4' with q | q <;> rw [q] <;> simp only [hits, List.length_cons, List.length_nil, sumN, pHit, roleOf, List.getD_cons_zero, List.getD_cons_succ, if_neg hk, ig, ia, ib, show min (((0 + 1 + 1 : Nat)) : Int) 1 = 1 from rfl, show min (((0 + 1 : Nat)) : Int) 1 = 1 from rfl, show min (((1 : Nat)) : Int) 1 = 1 from rfl, show min (((2 : Nat)) : Int) 1 = 1 from rfl]
    omega
theorem dAt_some {ds : List Dv} {i : Nat} {d : Dv} (h : ds[i]? = some d) : dAt ds i = d := by unfold dAt; rw [List.getD_eq_getElem?_getD, h]; rfl
section
variable {x y : Nl} {p q : List Int} (H : NlIso x y p q) (hx : nlB x = true)
include H hx
theorem NlIso.at_ (i : Nat) (hi : i < x.ds.length) : DvEqv p (dAt x.ds i) (dAt y.ds (nmOf q (i : Int)).toNat) ∧ dvB x.nets (dAt x.ds i) = true := by
  have e : x.ds[i]? = some x.ds[i] := List.getElem?_eq_getElem hi
  obtain ⟨f, h1, h2⟩ := H.dev i _ e
  rw [dAt_some e, dAt_some h1]
  exact ⟨h2, (nlB_facts hx).2.2.2.1 _ (List.getElem_mem hi)⟩
theorem NlIso.sig {c d : List Int × List Int} (hc : ColEqv x p q c d) (net : Nat) (hn : (net : Int) < x.nets) : netL' x c (net : Int) = netL' y d (nmOf p (net : Int)) := by
  unfold netL'
  rw [hc.1 net hn]
  congr 1
  unfold cTo
  congr 1
  funext color
  unfold rTo
  congr 1
  funext role
  rw [dTo_rep, dTo_rep, H.len]
  congr 1
  rw [← sumN_perm H.pq (fun j => hits (nmOf d.2 (j : Int)) (dAt y.ds j).kind (dAt y.ds j).pins (nmOf p (net : Int)) color role)]
  refine sumN_congr (fun j hj => ?_)
  obtain ⟨h1, h2⟩ := H.at_ hx j hj
  have hq := (nmP H.pq (i := (j : Int)) (by omega) (by omega)).2
  rw [hits_eqv H.pp h2 h1 _ _ _ _ (by omega) hn, hc.2 j hj, Int.toNat_of_nonneg hq.1]
theorem NlIso.dsig {c d : List Int × List Int} (hc : ColEqv x p q c d) (i : Nat) (hi : i < x.ds.length) : dsgL (dAt x.ds i) (nmOf c.2 (i : Int)) c.1 = dsgL (dAt y.ds (nmOf q (i : Int)).toNat) (nmOf d.2 (nmOf q (i : Int))) d.1 := by
  obtain ⟨⟨k1, k2, k3, k4⟩, h2⟩ := H.at_ hx i hi
  have nc : ∀ a, a ∈ (dAt x.ds i).pins → nmOf c.1 a = nmOf d.1 (nmOf p a) := fun a ha => by
    have := dvB_in h2 ha
    have q := hc.1 a.toNat (by omega)
    rwa [Int.toNat_of_nonneg this.1] at q
  rw [← hc.2 i hi]
  generalize dAt x.ds i = D at *
  generalize dAt y.ds (nmOf q (i : Int)).toNat = E at *
  rcases pinsOf_two h2 with ⟨hk, a, b, hpn⟩ | ⟨hk, g, a, b, hpn⟩
  · have ia := nc a (by rw [hpn]; simp)
    have ib := nc b (by rw [hpn]; simp)
    rw [dsgL_r hk hpn]
    rcases k4 with q | ⟨a', b', q1, q2⟩ | ⟨g', a', b', q1, q2⟩
    · rw [dsgL_r (by rw [k1]; exact hk) (by rw [q, hpn]; rfl), ia, ib]
    · rw [hpn] at q1; injection q1 with q1 q3; injection q3 with q3; subst q1 q3
      rw [dsgL_r (by rw [k1]; exact hk) q2, ia, ib]
      unfold dsgT; rw [Int.min_comm, Int.max_comm]
    · rw [hpn] at q1; simp at q1
  · have ig := nc g (by rw [hpn]; simp)
    have ia := nc a (by rw [hpn]; simp)
    have ib := nc b (by rw [hpn]; simp)
    rw [dsgL_m hk hpn]
    rcases k4 with q | ⟨a', b', q1, q2⟩ | ⟨g', a', b', q1, q2⟩
    · rw [dsgL_m (by rw [k1]; exact hk) (by rw [q, hpn]; rfl), ig, ia, ib]
    · rw [hpn] at q1; simp at q1
    · rw [hpn] at q1; injection q1 with q0 q1; injection q1 with q1 q3; injection q3 with q3; subst q0 q1 q3
      rw [dsgL_m (by rw [k1]; exact hk) q2, ig, ia, ib]
      unfold dsgT; rw [Int.min_comm, Int.max_comm]
theorem NlIso.ref {c d : List Int × List Int} (hc : ColEqv x p q c d) (hl : (c.1.length : Int) = x.nets) (hl2 : (d.1.length : Int) = x.nets) : ColEqv x p q (refS x c) (refS y d) := by
  obtain ⟨n, hn⟩ : ∃ n : Nat, x.nets = n := ⟨x.nets.toNat, by omega⟩
  have e1 : c.1.length = n := by omega
  have e2 : d.1.length = n := by omega
  constructor
  · intro i hi
    unfold refS
    dsimp only
    rw [e1, e2]
    refine rank_eqv (by rw [← hn]; exact H.pp) _ _ (fun j hj => ?_) i (by omega)
    have hz := (nmP H.pp (i := (j : Int)) (by omega) (by omega)).2
    rw [Int.toNat_of_nonneg hz.1]
    exact H.sig hx hc j (by omega)
  · intro i hi
    unfold refS dsgLs
    dsimp only
    rw [H.len]
    refine rank_eqv H.pq _ _ (fun j hj => ?_) i hi
    have hz := (nmP H.pq (i := (j : Int)) (by omega) (by omega)).2
    rw [Int.toNat_of_nonneg hz.1]
    exact H.dsig hx hc j hj
end
theorem difI_mem {zs ys : List Int} (h : ∀ z, z ∈ zs ↔ z ∈ ys) : difI zs = difI ys := by
  unfold difI
  refine (perm_of_mem _ _ (nodup_fstTo _ (Nat.le_refl _)) (nodup_fstTo _ (Nat.le_refl _)) (fun z => ?_)).length_eq
  rw [mem_fstTo _ (Nat.le_refl _), mem_fstTo _ (Nat.le_refl _), List.take_length, List.take_length]
  exact h z
theorem dif_eqv {zs : List Int} {n : Nat} (hp : permB zs (n : Int) = true) {a b : List Int} (ha : a.length = n) (hb : b.length = n) (h : ∀ i : Nat, i < n → nmOf a (i : Int) = nmOf b (nmOf zs (i : Int))) : difI a = difI b := by
  refine difI_mem (fun z => ?_)
  have at_ : ∀ (l : List Int) (i : Nat), i < l.length → l[i]? = some (nmOf l (i : Int)) := fun l i hi => by
    unfold nmOf; rw [Int.toNat_natCast, List.getD_eq_getElem?_getD, List.getElem?_eq_getElem hi]; rfl
  constructor
  · intro hz
    obtain ⟨i, hi, e⟩ := List.mem_iff_getElem.1 hz
    have e1 := at_ a i hi
    rw [List.getElem?_eq_getElem hi, e] at e1
    rw [Option.some.inj e1, h i (by omega)]
    have hq := (nmP hp (i := (i : Int)) (by omega) (by omega)).2
    have e2 := at_ b (nmOf zs (i : Int)).toNat (by omega)
    rw [Int.toNat_of_nonneg hq.1] at e2
    exact List.mem_of_getElem? e2
  · intro hz
    obtain ⟨j, hj, e⟩ := List.mem_iff_getElem.1 hz
    have e1 := at_ b j hj
    rw [List.getElem?_eq_getElem hj, e] at e1
    obtain ⟨k, hk, ek⟩ := nmP_onto hp (k := (j : Int)) (by omega) (by omega)
    have e2 := at_ a k (by omega)
    rw [h k (by omega), ek, ← Option.some.inj e1] at e2
    exact List.mem_of_getElem? e2
section
variable {x y : Nl} {p q : List Int} (H : NlIso x y p q)
include H
theorem NlIso.cnt {c d : List Int × List Int} (hcx : coB x c = true) (hdy : coB y d = true) (hc : ColEqv x p q c d) : cntC c = cntC d := by
  obtain ⟨n, hn⟩ : ∃ n : Nat, x.nets = n := ⟨x.nets.toNat, by have := (coB_facts hcx); have := (permB_iff.1 H.pp).1; omega⟩
  obtain ⟨f1, f2, f3, f4⟩ := coB_lens hcx
  obtain ⟨g1, g2, g3, g4⟩ := coB_lens hdy
  have e1 : difI c.1 = difI d.1 := dif_eqv (n := n) (by rw [← hn]; exact H.pp) (by omega) (by have := H.nets; omega) (fun i hi => hc.1 i (by omega))
  have e2 : difI c.2 = difI d.2 := dif_eqv (n := x.ds.length) H.pq (by omega) (by have := H.len; omega) hc.2
  unfold cntC
  rw [e1, e2]
theorem NlIso.refN (hx : nlB x = true) : ∀ (f : Nat) (c d : List Int × List Int) (s : Int), coB x c = true → coB y d = true → ColEqv x p q c d → (refN x f c s).2 = (refN y f d s).2 ∧ ColEqv x p q (refN x f c s).1 (refN y f d s).1
  | 0, c, d, s, _, _, h => ⟨rfl, h⟩
  | f + 1, c, d, s, hc, hd, h => by
    obtain ⟨f1, f2, f3, f4⟩ := coB_lens hc
    obtain ⟨g1, g2, g3, g4⟩ := coB_lens hd
    have hr := H.ref hx h f1 (by rw [g1]; exact H.nets)
    have c1 := coB_ref hc
    have d1 := coB_ref hd
    have e1 := H.cnt hc hd h
    have e2 := H.cnt c1 d1 hr
    by_cases e : cntC (refS x c) ≤ cntC c
    · rw [refN_stop e, refN_stop (by rw [← e1, ← e2]; exact e)]
      exact ⟨rfl, h⟩
    · rw [refN_go e, refN_go (by rw [← e1, ← e2]; exact e)]
      exact NlIso.refN hx f _ _ _ c1 d1 hr
theorem NlIso.ini (hx : nlB x = true) : ColEqv x p q (iniS x) (iniS y) := by
  obtain ⟨⟨n0, n1⟩, hl, hp, hd, hpt⟩ := nlB_facts hx
  obtain ⟨n, hn⟩ : ∃ n : Nat, x.nets = n := ⟨x.nets.toNat, by omega⟩
  constructor
  · intro i hi
    unfold iniS netL
    dsimp only
    rw [H.nets, hn, Int.toNat_natCast]
    refine rank_eqv (by rw [← hn]; exact H.pp) _ _ (fun j hj => ?_) i (by omega)
    have hz := (nmP H.pp (i := (j : Int)) (by omega) (by omega)).2
    rw [Int.toNat_of_nonneg hz.1, H.plen]
    unfold portTo
    congr 1
    refine List.filter_congr (fun k hk => ?_)
    rw [List.mem_range] at hk
    have e : x.ps[k]? = some x.ps[k] := List.getElem?_eq_getElem hk
    obtain ⟨b, hb, _, hbn⟩ := H.port k _ e
    rw [e, hb]
    dsimp only
    rw [hbn]
    have hpk := hpt k hk
    have hin : 0 ≤ x.ps[k].net ∧ x.ps[k].net < x.nets := by
      unfold ptOk at hpk
      rw [e] at hpk
      simp only [Bool.and_eq_true] at hpk
      have := inB_iff.1 hpk.2.1
      omega
    by_cases hc : x.ps[k].net = (j : Int)
    · rw [hc]; simp
    · have : ¬ nmOf p x.ps[k].net = nmOf p (j : Int) := fun e => hc (nmP_inj H.pp hin (by omega) e)
      simp [hc, this]
  · intro i hi
    unfold iniS
    dsimp only
    have form : ∀ ds : List Dv, devL ds = (List.range ds.length).map (fun k => [(dAt ds k).kind, (dAt ds k).wd, (dAt ds k).len]) := fun ds => by
      apply List.ext_getElem?
      intro k
      unfold devL
      rw [List.getElem?_map, List.getElem?_map]
      by_cases hk : k < ds.length
      · rw [List.getElem?_range hk, List.getElem?_eq_getElem hk]
        show some _ = some _
        dsimp only
        rw [dAt_some (List.getElem?_eq_getElem hk)]
      · rw [List.getElem?_eq_none (by omega), List.getElem?_eq_none (by simp; omega)]; rfl
    rw [form, form, H.len]
    refine rank_eqv H.pq _ _ (fun j hj => ?_) i hi
    obtain ⟨⟨k1, k2, k3, _⟩, _⟩ := H.at_ hx j hj
    rw [k1, k2, k3]
theorem NlIso.net (hx : nlB x = true) (hy : nlB y = true) : (refNet x).2 = (refNet y).2 ∧ ColEqv x p q (refNet x).1 (refNet y).1 := by
  unfold refNet
  rw [if_pos hx, if_pos hy]
  exact H.refN hx 64 _ _ 0 (coB_ini hx) (coB_ini hy) (H.ini hx)
end
theorem ap_valid {x : Nl} {m : List Int × List Int} (hx : nlB x = true) (h1 : permB m.1 x.nets = true) (h2 : permB m.2 (x.ds.length : Int) = true) : nlB ⟨x.nets, ordD m.2 (x.ds.map (renD m.1)), x.ps.map (renP m.1)⟩ = true := by
  obtain ⟨⟨n0, n1⟩, hl, hp, hd, hpt⟩ := nlB_facts hx
  have hx' := hx
  simp only [nlB, Bool.and_eq_true, decide_eq_true_eq, List.all_eq_true] at hx'
  have hl2 := (permB_iff.1 h2).1
  simp only [nlB, Bool.and_eq_true, decide_eq_true_eq, List.all_eq_true, ptsB, List.mem_range]
  refine ⟨hx'.1, by rw [length_ordD]; omega, by simp; omega, fun d hdm => ?_, fun i hi => ?_⟩
  · obtain ⟨k, hk, e⟩ := List.mem_iff_getElem.1 hdm
    obtain ⟨i, _, _, hi⟩ := ordD_inv (zs := m.2) (ds := x.ds.map (renD m.1)) (by rw [List.length_map]; exact h2) k d (by rw [List.getElem?_eq_getElem hk, e])
    rw [List.getElem?_map] at hi
    cases hxd : x.ds[i]? with
    | none => rw [hxd] at hi; cases hi
    | some d0 =>
      rw [hxd] at hi
      have hi := Option.some.inj hi
      subst hi
      obtain ⟨a1, a2, a3, a4, a5, a6⟩ := dvB_all (hd d0 (List.mem_of_getElem? hxd))
      unfold dvB renD
      simp only [Bool.and_eq_true, decide_eq_true_eq, List.all_eq_true]
      refine ⟨a1, by rw [List.length_map]; exact a2, a3, a4, fun p hpm => ?_, by simpa using a6⟩
      obtain ⟨q, hq, rfl⟩ := List.mem_map.1 hpm
      have q0 := inB_iff.1 (a5 q hq)
      have := (nmP h1 (i := q) (by omega) (by omega)).2
      exact inB_iff.2 (by omega)
  · rw [List.length_map] at hi
    have hpk := hpt i hi
    unfold ptOk at hpk ⊢
    rw [List.getElem?_map, List.getElem?_eq_getElem hi] at *
    simp only [Option.map_some, Bool.and_eq_true] at hpk ⊢
    obtain ⟨b1, b2, b3⟩ := hpk
    have q0 := inB_iff.1 b2
    have := (nmP h1 (i := x.ps[i].net) (by omega) (by omega)).2
    refine ⟨b1, inB_iff.2 (show 0 ≤ nmOf m.1 x.ps[i].net ∧ nmOf m.1 x.ps[i].net ≤ x.nets - 1 by omega), ?_⟩
    cases i with
    | zero => rfl
    | succ j =>
      dsimp only at b3 ⊢
      rw [List.getElem?_map]
      cases e : x.ps[j]? with
      | none => rfl
      | some z => rw [e] at b3; exact b3
theorem ap_iso {x : Nl} {m : List Int × List Int} (hx : nlB x = true) (h1 : permB m.1 x.nets = true) (h2 : permB m.2 (x.ds.length : Int) = true) : NlIso x ⟨x.nets, ordD m.2 (x.ds.map (renD m.1)), x.ps.map (renP m.1)⟩ m.1 m.2 where
  pp := h1
  pq := h2
  nets := rfl
  len := by
    have := (permB_iff.1 h2).1
    show (ordD m.2 _).length = _
    rw [length_ordD]; omega
  dev := fun i d hd => by
    have hi := (List.getElem?_eq_some_iff.1 hd).1
    have hz := (nmP h2 (i := (i : Int)) (by omega) (by omega)).1
    rw [Int.toNat_natCast] at hz
    exact ⟨renD m.1 d, ordD_get (by rw [List.length_map]; exact h2) i _ _ hz (by rw [List.getElem?_map, hd]; rfl), rfl, rfl, rfl, .inl rfl⟩
  plen := by simp
  port := fun i a ha => ⟨renP m.1 a, by show (x.ps.map (renP m.1))[i]? = _; rw [List.getElem?_map, ha]; rfl, rfl, rfl⟩
end Go.Proofs.YtpaiiaajbojmnaaGreat

/- What FnColorsInvariant wants of the plain part. -/
namespace Go.Proofs.YtpaiiaajbojmnaaGreat
open Go.RowKit
set_option linter.unusedVariables false
set_option linter.unusedSimpArgs false

theorem refN_nn (x : Nl) : ∀ (f : Nat) (c : List Int × List Int) (s : Int), s ≤ (refN x f c s).2
  | 0, c, s => Int.le_refl _
  | f + 1, c, s => by
    by_cases e : cntC (refS x c) ≤ cntC c
    · rw [refN_stop e]; exact Int.le_refl _
    · rw [refN_go e]
      have := refN_nn x f (refS x c) (s + 1)
      omega
theorem refNet_ok {x : Nl} (hx : nlB x = true) : 0 ≤ (refNet x).2 ∧ coB x (refNet x).1 = true := by
  unfold refNet
  rw [if_pos hx]
  exact ⟨refN_nn x 64 _ 0, coB_refN 64 _ 0 (coB_ini hx)⟩
theorem ap_ports {x : Nl} {z : List Int × List Int} (hx : nlB x = true) (h1 : permB z.1 x.nets = true) (hok : ∀ p ∈ x.ps, p.ok) : ∀ p ∈ x.ps.map (renP z.1), p.ok := by
  obtain ⟨⟨n0, n1⟩, hl, hp, hd, hpt⟩ := nlB_facts hx
  intro p hpm
  obtain ⟨a, ha, rfl⟩ := List.mem_map.1 hpm
  obtain ⟨k, hk, e⟩ := List.mem_iff_getElem.1 ha
  have hpk := hpt k hk
  unfold ptOk at hpk
  rw [List.getElem?_eq_getElem hk, e] at hpk
  simp only [Bool.and_eq_true] at hpk
  have q0 := inB_iff.1 hpk.2.1
  have := (nmP h1 (i := a.net) (by omega) (by omega)).2
  exact ⟨(hok a ha).1, show -9223372036854775808 ≤ nmOf z.1 a.net ∧ nmOf z.1 a.net ≤ 9223372036854775807 by omega⟩
theorem inv_facts {x : Nl} {z : List Int × List Int} (hx : nlB x = true) (h1 : permB z.1 x.nets = true) (h2 : permB z.2 (x.ds.length : Int) = true) (hok : ∀ p ∈ x.ps, p.ok) :
    apC x z = 0 ∧ (refNet (apR x z)).2 = (refNet x).2 ∧ 0 ≤ (refNet x).2 ∧ coB x (refNet x).1 = true ∧ coB (apR x z) (refNet (apR x z)).1 = true ∧
    ((refNet x).1.1.length = z.1.length ∧ (refNet (apR x z)).1.1.length = z.1.length ∧ (refNet x).1.2.length = z.2.length ∧ (refNet (apR x z)).1.2.length = z.2.length) ∧
    (∀ i : Nat, i < z.1.length → 0 ≤ nmOf z.1 (i : Int) ∧ nmOf z.1 (i : Int) < (z.1.length : Int) ∧ nmOf (refNet x).1.1 (i : Int) = nmOf (refNet (apR x z)).1.1 (nmOf z.1 (i : Int))) ∧
    (∀ i : Nat, i < z.2.length → 0 ≤ nmOf z.2 (i : Int) ∧ nmOf z.2 (i : Int) < (z.2.length : Int) ∧ nmOf (refNet x).1.2 (i : Int) = nmOf (refNet (apR x z)).1.2 (nmOf z.2 (i : Int))) ∧
    (∀ p ∈ (apR x z).ps, p.ok) ∧ Fits (apR x z).nets := by
  have e : apR x z = ⟨x.nets, ordD z.2 (x.ds.map (renD z.1)), x.ps.map (renP z.1)⟩ := by unfold apR; rw [if_pos hx, if_pos ⟨h1, h2⟩]
  have ec : apC x z = 0 := by unfold apC; rw [if_pos hx, if_pos ⟨h1, h2⟩]
  have hy := ap_valid hx h1 h2
  have hi := ap_iso hx h1 h2
  have hn := hi.net hx hy
  have hpo := ap_ports hx h1 hok
  obtain ⟨⟨n0, n1⟩, _⟩ := nlB_facts hx
  rw [e]
  obtain ⟨s1, c1⟩ := refNet_ok hx
  obtain ⟨s2, c2⟩ := refNet_ok hy
  obtain ⟨f1, f2, _⟩ := coB_lens c1
  obtain ⟨g1, g2, _⟩ := coB_lens c2
  have l1 := (permB_iff.1 h1).1
  have l2 := (permB_iff.1 h2).1
  have len := hi.len
  have g1' : (((refNet ⟨x.nets, ordD z.2 (x.ds.map (renD z.1)), x.ps.map (renP z.1)⟩).1.1.length : Nat) : Int) = x.nets := g1
  refine ⟨ec, hn.1.symm, s1, c1, c2, ⟨by omega, by omega, by omega, by omega⟩, fun i h => ?_, fun i h => ?_, hpo, show -9223372036854775808 ≤ x.nets ∧ x.nets ≤ 9223372036854775807 by omega⟩
  · have q := (nmP h1 (i := (i : Int)) (by omega) (by omega)).2
    exact ⟨q.1, by omega, hn.2.1 i (by omega)⟩
  · have q := (nmP h2 (i := (i : Int)) (by omega) (by omega)).2
    exact ⟨q.1, by omega, hn.2.2 i (by omega)⟩
theorem inv_bad {x : Nl} {z : List Int × List Int} (h : ¬ (nlB x = true ∧ permB z.1 x.nets = true ∧ permB z.2 (x.ds.length : Int) = true)) : apC x z ≠ 0 ∧ apR x z = ⟨0, [], []⟩ := by
  unfold apC apR
  by_cases hx : nlB x = true
  · rw [if_pos hx, if_pos hx]
    have : ¬ (permB z.1 x.nets = true ∧ permB z.2 (x.ds.length : Int) = true) := fun e => h ⟨hx, e⟩
    rw [if_neg this, if_neg this]
    exact ⟨by decide, rfl⟩
  · rw [if_neg hx, if_neg hx]
    exact ⟨by decide, rfl⟩
end Go.Proofs.YtpaiiaajbojmnaaGreat
