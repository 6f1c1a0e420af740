/- Comparing numbers, lists of numbers and devices: the plain functions, and the contracts of both packages' and the library's. -/
import Derived.Test.YtglddnkpccgchaaDoorBase
import Derived.Test.YtglddnkpccgchaaDoorDevs
import Derived.Test.YtglddnkpccgchaaDoorValid0
import Derived.Test.YtglddnkpccgchaaDoorNormB
import Derived.Test.YtglddnkpccgchaaDoorNls
namespace Go.Proofs.YtglddnkpccgchaaDoor
open Go.RowKit
set_option linter.unusedVariables false
set_option linter.unusedSimpArgs false

/-- Some draws later. -/
def Dr (w w' : World) : Prop := ∃ n, w' = w.drewN n
theorem Dr.refl (w : World) : Dr w w := ⟨0, rfl⟩
theorem Dr.drewN {w w' : World} (h : Dr w w') (m : Nat) : Dr w (w'.drewN m) := by obtain ⟨n, rfl⟩ := h; exact ⟨n + m, World.drewN_drewN _ _ _⟩
theorem Dr.cell {w w' : World} (h : Dr w w') (p : Addr) : w'.cell? p = w.cell? p := by obtain ⟨n, rfl⟩ := h; rfl
theorem Dr.out {w w' : World} (h : Dr w w') : ∃ n, w' = w.drewN n := h

def sgn (a b : Int) : Int := if a < b then -1 else if b < a then 1 else 0
def lcmp : List Int → List Int → Int
  | [], [] => 0
  | [], _ :: _ => -1
  | _ :: _, [] => 1
  | a :: r, b :: s => if sgn a b = 0 then lcmp r s else sgn a b
def or2 (a b : Int) : Int := if a = 0 then b else a
def devcmp (k1 k2 : Int) (p1 p2 : List Int) (w1 w2 l1 l2 : Int) : Int := or2 (sgn k1 k2) (or2 (lcmp p1 p2) (or2 (sgn w1 w2) (sgn l1 l2)))

theorem sgn_bd (a b : Int) : -1 ≤ sgn a b ∧ sgn a b ≤ 1 := by unfold sgn; split <;> (try split) <;> omega
theorem sgn_lt {a b : Int} (h : a < b) : sgn a b = -1 := by simp [sgn, h]
theorem sgn_gt {a b : Int} (h : b < a) : sgn a b = 1 := by
  have : ¬ a < b := by omega
  simp [sgn, h, this]
theorem sgn_eq {a b : Int} (h : a = b) : sgn a b = 0 := by subst h; simp [sgn]
theorem lcmp_bd : ∀ (a b : List Int), -1 ≤ lcmp a b ∧ lcmp a b ≤ 1
  | [], [] => by simp [lcmp]
  | [], _ :: _ => by simp [lcmp]
  | _ :: _, [] => by simp [lcmp]
  | a :: r, b :: s => by
    unfold lcmp
    split
    · exact lcmp_bd r s
    · exact sgn_bd a b
theorem drop_of {l : List Int} {k : Nat} {x : Int} (h : l[k]? = some x) : l.drop k = x :: l.drop (k + 1) := by
  obtain ⟨hlt, e⟩ := List.getElem?_eq_some_iff.1 h
  rw [List.drop_eq_getElem_cons hlt, e]
theorem lcmp_step {a b : List Int} {k : Nat} {x y : Int} (hx : a[k]? = some x) (hy : b[k]? = some y) : lcmp (a.drop k) (b.drop k) = if sgn x y = 0 then lcmp (a.drop (k + 1)) (b.drop (k + 1)) else sgn x y := by
  rw [drop_of hx, drop_of hy]; rfl
theorem lcmp_end1 {a b : List Int} {k : Nat} (ha : a.length ≤ k) : lcmp (a.drop k) (b.drop k) = if k < b.length then -1 else 0 := by
  rw [List.drop_eq_nil_of_le ha]
  split
  · rename_i h
    rw [List.drop_eq_getElem_cons h]; rfl
  · rw [List.drop_eq_nil_of_le (by omega)]; rfl
theorem lcmp_end2 {a b : List Int} {k : Nat} (ha : k < a.length) (hb : b.length ≤ k) : lcmp (a.drop k) (b.drop k) = 1 := by
  rw [List.drop_eq_nil_of_le hb, List.drop_eq_getElem_cons ha]; rfl

/-- A slice's cells, under an index's condition. -/
theorem IntSl.cells {w : World} {a : Option Addr} {n c : Nat} {zs : List Int} (h : IntSl w (.slice a n c) zs) : n = zs.length ∧ ∀ (i : Nat) (x : Int), zs[i]? = some x → ∃ b off, a = some ⟨b, off, none⟩ ∧ w.cell? ⟨b, off + i, none⟩ = some (.int .i64 x) := by
  rcases h with ⟨_, _, e, rfl⟩ | ⟨b, off, cap, e, h2, h3, h4⟩
  · simp at e
    exact ⟨e.2.1, by simp⟩
  · simp at e
    exact ⟨e.2.1, fun i x hx => ⟨b, off, e.1, h4 i x hx⟩⟩

end Go.Proofs.YtglddnkpccgchaaDoor

/- Contracts of the functions that compare two devices. -/
namespace Go.Proofs.YtglddnkpccgchaaDoor
open Go.RowKit
set_option linter.unusedVariables false
set_option linter.unusedSimpArgs false

theorem or2_ne {a b : Int} (h : a ≠ 0) : or2 a b = a := by simp [or2, h]
theorem or2_z (b : Int) : or2 0 b = b := by simp [or2]

end Go.Proofs.YtglddnkpccgchaaDoor

/- Parallel devices, devices in series, first pairs: plain. -/
namespace Go.Proofs.YtglddnkpccgchaaDoor
open Go.RowKit

/-- The first and the second current pin, the gate. -/
def curP : List Int → Int
  | [p, _] => p
  | [_, p, _] => p
  | _ => 0
def curQ : List Int → Int
  | [_, q] => q
  | [_, _, q] => q
  | _ => 0
def gateOf : List Int → Int
  | [g, _, _] => g
  | _ => 0
/-- The shape of a valid device. -/
def Shp (x : Dv) : Prop := (x.kind = 2 ∧ ∃ p q, x.pins = [p, q]) ∨ ((x.kind = 0 ∨ x.kind = 1) ∧ ∃ g p q, x.pins = [g, p, q])
theorem shp_of {nets : Int} {x : Dv} (h : dvB nets x = true) : Shp x := by
  obtain ⟨h1, h2, _⟩ := dvB_all h
  have hk := inB_iff.1 h1
  by_cases h2' : x.kind = 2
  · left
    refine ⟨h2', ?_⟩
    simp only [pinsOf, h2', if_pos] at h2
    match hp : x.pins, h2 with
    | [p, q], _ => exact ⟨p, q, rfl⟩
  · right
    refine ⟨by omega, ?_⟩
    simp only [pinsOf, if_neg h2'] at h2
    match hp : x.pins, h2 with
    | [g, p, q], _ => exact ⟨g, p, q, rfl⟩

theorem lcmp_zero : ∀ (a b : List Int), lcmp a b = 0 ↔ a = b
  | [], [] => by simp [lcmp]
  | [], _ :: _ => by simp [lcmp]
  | _ :: _, [] => by simp [lcmp]
  | a :: r, b :: s => by
    have ih := lcmp_zero r s
    unfold lcmp
    by_cases h : sgn a b = 0
    · rw [if_pos h, ih]
      have hab : a = b := by
        unfold sgn at h
        split at h
        · omega
        · split at h
          · omega
          · omega
      simp [hab]
    · rw [if_neg h]
      have hab : a ≠ b := fun e => h (sgn_eq e)
      simp [hab, h]

/-- Parallel, as the reference has it. -/
def parS (x y : Dv) : Bool := decide (x.kind = y.kind) && (decide (lcmp (normz x.kind x.pins) (normz y.kind y.pins) = 0) && (decide (x.kind = 2) || decide (x.len = y.len)))
/-- .. as the program has it. -/
def parB (x y : Dv) : Bool :=
  decide (x.kind = y.kind) && ((decide (x.kind = 2) || decide (gateOf x.pins = gateOf y.pins)) && ((decide (x.kind = 2) || decide (x.len = y.len)) &&
    ((decide (curP x.pins = curP y.pins) && decide (curQ x.pins = curQ y.pins)) || (decide (curP x.pins = curQ y.pins) && decide (curQ x.pins = curP y.pins)))))
theorem mm_eq (p q r s : Int) : (min p q = min r s ∧ max p q = max r s) ↔ (p = r ∧ q = s) ∨ (p = s ∧ q = r) := by omega
theorem normz_two (p q : Int) : normz 2 [p, q] = [min p q, max p q] := by simp [normz, pinc, lastTwo]
theorem normz_three (k g p q : Int) (h : k = 0 ∨ k = 1) : normz k [g, p, q] = [g, min p q, max p q] := by rcases h with rfl | rfl <;> simp [normz, pinc, lastTwo]
theorem parS_parB {x y : Dv} (hx : Shp x) (hy : Shp y) : parS x y = parB x y := by
  unfold parS parB
  by_cases hk : x.kind = y.kind
  · rw [hk]
    rw [Bool.eq_iff_iff]
    simp only [Bool.and_eq_true, Bool.or_eq_true, decide_eq_true_eq, lcmp_zero]
    rcases hx with ⟨hx2, p, q, hp⟩ | ⟨hx2, g, p, q, hp⟩ <;> rcases hy with ⟨hy2, r, s, hr⟩ | ⟨hy2, f, r, s, hr⟩
    · rw [hp, hr, hy2, normz_two, normz_two]
      simp only [List.cons.injEq, and_true, curP, curQ]
      have := mm_eq p q r s
      simp; exact this
    · omega
    · omega
    · rw [hp, hr, normz_three _ _ _ _ hy2, normz_three _ _ _ _ hy2]
      simp only [List.cons.injEq, and_true, curP, curQ, gateOf]
      have := mm_eq p q r s
      have hk2 : ¬ y.kind = 2 := by omega
      simp only [hk2, false_or]
      rw [← this]
      constructor
      · rintro ⟨_, ⟨rfl, h1, h2⟩, h3⟩; exact ⟨trivial, rfl, h3, h1, h2⟩
      · rintro ⟨_, rfl, h3, h1, h2⟩; exact ⟨trivial, ⟨rfl, h1, h2⟩, h3⟩
  · simp [hk]

/-- Devices i and j are the first for which p holds. -/
def Hit (p : Dv → Dv → Bool) (ds : List Dv) (i j : Nat) : Prop :=
  i < j ∧ (∃ x y, ds[i]? = some x ∧ ds[j]? = some y ∧ p x y = true) ∧ ∀ i' j' x y, (i' < i ∨ i' = i ∧ j' < j) → i' < j' → ds[i']? = some x → ds[j']? = some y → p x y = false
theorem hit_one {p : Dv → Dv → Bool} {ds : List Dv} {i j i' j' : Nat} (h : Hit p ds i j) (h' : Hit p ds i' j') : i = i' ∧ j = j' := by
  obtain ⟨h1, ⟨x, y, hx, hy, h2⟩, h3⟩ := h
  obtain ⟨h1', ⟨x', y', hx', hy', h2'⟩, h3'⟩ := h'
  by_cases e : i = i' ∧ j = j'
  · exact e
  · exfalso
    by_cases e2 : i < i' ∨ i = i' ∧ j < j'
    · have := h3' i j x y e2 h1 hx hy; rw [this] at h2; cases h2
    · have := h3 i' j' x' y' (by omega) h1' hx' hy'; rw [this] at h2'; cases h2'
/-- The first pair, and whether there is one. -/
noncomputable def firstP (p : Dv → Dv → Bool) (ds : List Dv) : Int × Int × Bool :=
  open Classical in if h : ∃ ij : Nat × Nat, Hit p ds ij.1 ij.2 then (((Classical.choose h).1 : Int), ((Classical.choose h).2 : Int), true) else (0, 0, false)
theorem firstP_hit {p : Dv → Dv → Bool} {ds : List Dv} {i j : Nat} (h : Hit p ds i j) : firstP p ds = ((i : Int), (j : Int), true) := by
  have he : ∃ ij : Nat × Nat, Hit p ds ij.1 ij.2 := ⟨(i, j), h⟩
  unfold firstP
  rw [dif_pos he]
  obtain ⟨e1, e2⟩ := hit_one (Classical.choose_spec he) h
  rw [e1, e2]
theorem firstP_miss {p : Dv → Dv → Bool} {ds : List Dv} (h : ∀ (i j : Nat) x y, i < j → ds[i]? = some x → ds[j]? = some y → p x y = false) : firstP p ds = (0, 0, false) := by
  unfold firstP
  rw [dif_neg]
  rintro ⟨⟨i, j⟩, h1, ⟨x, y, hx, hy, h2⟩, _⟩
  rw [h i j x y h1 hx hy] at h2; cases h2
theorem firstP_congr {p q : Dv → Dv → Bool} {ds : List Dv} (h : ∀ x ∈ ds, ∀ y ∈ ds, p x y = q x y) : firstP p ds = firstP q ds := by
  have e : ∀ i j, Hit p ds i j ↔ Hit q ds i j := by
    intro i j
    unfold Hit
    constructor
    · rintro ⟨h1, ⟨x, y, hx, hy, h2⟩, h3⟩
      exact ⟨h1, ⟨x, y, hx, hy, by rw [← h x (List.mem_of_getElem? hx) y (List.mem_of_getElem? hy)]; exact h2⟩, fun i' j' x y a b hx hy => by rw [← h x (List.mem_of_getElem? hx) y (List.mem_of_getElem? hy)]; exact h3 i' j' x y a b hx hy⟩
    · rintro ⟨h1, ⟨x, y, hx, hy, h2⟩, h3⟩
      exact ⟨h1, ⟨x, y, hx, hy, by rw [h x (List.mem_of_getElem? hx) y (List.mem_of_getElem? hy)]; exact h2⟩, fun i' j' x y a b hx hy => by rw [h x (List.mem_of_getElem? hx) y (List.mem_of_getElem? hy)]; exact h3 i' j' x y a b hx hy⟩
  by_cases hh : ∃ ij : Nat × Nat, Hit p ds ij.1 ij.2
  · obtain ⟨⟨i, j⟩, hij⟩ := hh
    rw [firstP_hit hij, firstP_hit ((e i j).1 hij)]
  · have : ¬ ∃ ij : Nat × Nat, Hit q ds ij.1 ij.2 := fun ⟨ij, h⟩ => hh ⟨ij, (e _ _).2 h⟩
    unfold firstP
    rw [dif_neg hh, dif_neg this]
theorem firstP_bd (p : Dv → Dv → Bool) (ds : List Dv) : (firstP p ds).2.2 = true → ∃ i j : Nat, firstP p ds = ((i : Int), (j : Int), true) ∧ Hit p ds i j := by
  by_cases hh : ∃ ij : Nat × Nat, Hit p ds ij.1 ij.2
  · obtain ⟨⟨i, j⟩, hij⟩ := hh
    intro _; exact ⟨i, j, firstP_hit hij, hij⟩
  · unfold firstP; rw [dif_neg hh]; intro h; cases h
end Go.Proofs.YtglddnkpccgchaaDoor

/- Current pins, gates: contracts. -/
namespace Go.Proofs.YtglddnkpccgchaaDoor
open Go.RowKit
set_option linter.unusedVariables false
set_option linter.unusedSimpArgs false

theorem IntSl.two {w : World} {sv : Value} {p q : Int} (h : IntSl w sv [p, q]) : ∃ b off cap, sv = .slice (some ⟨b, off, none⟩) 2 cap ∧ w.cell? ⟨b, off, none⟩ = some (.int .i64 p) ∧ w.cell? ⟨b, off + 1, none⟩ = some (.int .i64 q) ∧ b < w.heap.size := by
  rcases h with ⟨_, _, _, h2⟩ | ⟨b, off, cap, hsv, h2, h3, h4⟩
  · simp at h2
  simp only [List.length_cons, List.length_nil, Nat.zero_add, Nat.reduceAdd] at hsv
  have hp : w.cell? ⟨b, off, none⟩ = some (.int .i64 p) := by have := h4 0 p rfl; simpa using this
  have hq : w.cell? ⟨b, off + 1, none⟩ = some (.int .i64 q) := by have := h4 1 q rfl; simpa using this
  refine ⟨b, off, cap, hsv, hp, hq, ?_⟩
  rcases Nat.lt_or_ge b w.heap.size with h' | h'
  · exact h'
  · simp [World.cell?, Array.getElem?_eq_none h'] at hp
theorem IntSl.three {w : World} {sv : Value} {g p q : Int} (h : IntSl w sv [g, p, q]) : ∃ b off cap, sv = .slice (some ⟨b, off, none⟩) 3 cap ∧ w.cell? ⟨b, off, none⟩ = some (.int .i64 g) ∧ w.cell? ⟨b, off + 1, none⟩ = some (.int .i64 p) ∧ w.cell? ⟨b, off + 2, none⟩ = some (.int .i64 q) ∧ b < w.heap.size := by
  rcases h with ⟨_, _, _, h2⟩ | ⟨b, off, cap, hsv, h2, h3, h4⟩
  · simp at h2
  simp only [List.length_cons, List.length_nil, Nat.zero_add, Nat.reduceAdd] at hsv
  have hg : w.cell? ⟨b, off, none⟩ = some (.int .i64 g) := by have := h4 0 g rfl; simpa using this
  have hp : w.cell? ⟨b, off + 1, none⟩ = some (.int .i64 p) := by have := h4 1 p rfl; simpa using this
  have hq : w.cell? ⟨b, off + 2, none⟩ = some (.int .i64 q) := by have := h4 2 q rfl; simpa using this
  refine ⟨b, off, cap, hsv, hg, hp, hq, ?_⟩
  rcases Nat.lt_or_ge b w.heap.size with h' | h'
  · exact h'
  · simp [World.cell?, Array.getElem?_eq_none h'] at hp

def sgB (x y : Dv) : Bool := decide (x.kind = 2) || decide (gateOf x.pins = gateOf y.pins)

def shB (x : Dv) : Bool := decide (curP x.pins = curQ x.pins)
end Go.Proofs.YtglddnkpccgchaaDoor

/- Parallel devices: contracts. -/
namespace Go.Proofs.YtglddnkpccgchaaDoor
open Go.RowKit
set_option linter.unusedVariables false
set_option linter.unusedSimpArgs false

end Go.Proofs.YtglddnkpccgchaaDoor
