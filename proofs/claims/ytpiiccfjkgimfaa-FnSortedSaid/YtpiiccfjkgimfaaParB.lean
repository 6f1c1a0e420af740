/- Parallel devices, devices in series, first pairs: plain. -/
import Derived.Test.YtpiiccfjkgimfaaValid0
import Derived.Test.YtpiiccfjkgimfaaNormB
import Derived.Test.YtpiiccfjkgimfaaCmps
import Derived.Test.YtpiiccfjkgimfaaNls
namespace Go.Proofs.Ytpiiccfjkgimfaa
open Go.RowKit

/-- The first and the second current pin, the gate. -/
def curP : List Int → Int
  | [p, _] => p
  | [_, p, _] => p
  | _ => 0
def curQ : List Int → Int
  | [_, q] => q
  | [_, _, q] => q
  | _ => 0
def gateOf : List Int → Int
  | [g, _, _] => g
  | _ => 0
/-- The shape of a valid device. -/
def Shp (x : Dv) : Prop := (x.kind = 2 ∧ ∃ p q, x.pins = [p, q]) ∨ ((x.kind = 0 ∨ x.kind = 1) ∧ ∃ g p q, x.pins = [g, p, q])
theorem shp_of {nets : Int} {x : Dv} (h : dvB nets x = true) : Shp x := by
  obtain ⟨h1, h2, _⟩ := dvB_all h
  have hk := inB_iff.1 h1
  by_cases h2' : x.kind = 2
  · left
    refine ⟨h2', ?_⟩
    simp only [pinsOf, h2', if_pos] at h2
    match hp : x.pins, h2 with
    | [p, q], _ => exact ⟨p, q, rfl⟩
  · right
    refine ⟨by omega, ?_⟩
    simp only [pinsOf, if_neg h2'] at h2
    match hp : x.pins, h2 with
    | [g, p, q], _ => exact ⟨g, p, q, rfl⟩

theorem lcmp_zero : ∀ (a b : List Int), lcmp a b = 0 ↔ a = b
  | [], [] => by simp [lcmp]
  | [], _ :: _ => by simp [lcmp]
  | _ :: _, [] => by simp [lcmp]
  | a :: r, b :: s => by
    have ih := lcmp_zero r s
    unfold lcmp
    by_cases h : sgn a b = 0
    · rw [if_pos h, ih]
      have hab : a = b := by
        unfold sgn at h
        split at h
        · omega
        · split at h
          · omega
          · omega
      simp [hab]
    · rw [if_neg h]
      have hab : a ≠ b := fun e => h (sgn_eq e)
      simp [hab, h]

/-- Parallel, as the reference has it. -/
def parS (x y : Dv) : Bool := decide (x.kind = y.kind) && (decide (lcmp (normz x.kind x.pins) (normz y.kind y.pins) = 0) && (decide (x.kind = 2) || decide (x.len = y.len)))
/-- .. as the program has it. -/
def parB (x y : Dv) : Bool :=
  decide (x.kind = y.kind) && ((decide (x.kind = 2) || decide (gateOf x.pins = gateOf y.pins)) && ((decide (x.kind = 2) || decide (x.len = y.len)) &&
    ((decide (curP x.pins = curP y.pins) && decide (curQ x.pins = curQ y.pins)) || (decide (curP x.pins = curQ y.pins) && decide (curQ x.pins = curP y.pins)))))
theorem mm_eq (p q r s : Int) : (min p q = min r s ∧ max p q = max r s) ↔ (p = r ∧ q = s) ∨ (p = s ∧ q = r) := by omega
theorem normz_two (p q : Int) : normz 2 [p, q] = [min p q, max p q] := by simp [normz, pinc, lastTwo]
theorem normz_three (k g p q : Int) (h : k = 0 ∨ k = 1) : normz k [g, p, q] = [g, min p q, max p q] := by rcases h with rfl | rfl <;> simp [normz, pinc, lastTwo]
theorem parS_parB {x y : Dv} (hx : Shp x) (hy : Shp y) : parS x y = parB x y := by
  unfold parS parB
  by_cases hk : x.kind = y.kind
  · rw [hk]
    rw [Bool.eq_iff_iff]
    simp only [Bool.and_eq_true, Bool.or_eq_true, decide_eq_true_eq, lcmp_zero]
    rcases hx with ⟨hx2, p, q, hp⟩ | ⟨hx2, g, p, q, hp⟩ <;> rcases hy with ⟨hy2, r, s, hr⟩ | ⟨hy2, f, r, s, hr⟩
    · rw [hp, hr, hy2, normz_two, normz_two]
      simp only [List.cons.injEq, and_true, curP, curQ]
      have := mm_eq p q r s
      simp; exact this
    · omega
    · omega
    · rw [hp, hr, normz_three _ _ _ _ hy2, normz_three _ _ _ _ hy2]
      simp only [List.cons.injEq, and_true, curP, curQ, gateOf]
      have := mm_eq p q r s
      have hk2 : ¬ y.kind = 2 := by omega
      simp only [hk2, false_or]
      rw [← this]
      constructor
      · rintro ⟨_, ⟨rfl, h1, h2⟩, h3⟩; exact ⟨trivial, rfl, h3, h1, h2⟩
      · rintro ⟨_, rfl, h3, h1, h2⟩; exact ⟨trivial, ⟨rfl, h1, h2⟩, h3⟩
  · simp [hk]

/-- Devices i and j are the first for which p holds. -/
def Hit (p : Dv → Dv → Bool) (ds : List Dv) (i j : Nat) : Prop :=
  i < j ∧ (∃ x y, ds[i]? = some x ∧ ds[j]? = some y ∧ p x y = true) ∧ ∀ i' j' x y, (i' < i ∨ i' = i ∧ j' < j) → i' < j' → ds[i']? = some x → ds[j']? = some y → p x y = false
theorem hit_one {p : Dv → Dv → Bool} {ds : List Dv} {i j i' j' : Nat} (h : Hit p ds i j) (h' : Hit p ds i' j') : i = i' ∧ j = j' := by
  obtain ⟨h1, ⟨x, y, hx, hy, h2⟩, h3⟩ := h
  obtain ⟨h1', ⟨x', y', hx', hy', h2'⟩, h3'⟩ := h'
  by_cases e : i = i' ∧ j = j'
  · exact e
  · exfalso
    by_cases e2 : i < i' ∨ i = i' ∧ j < j'
    · have := h3' i j x y e2 h1 hx hy; rw [this] at h2; cases h2
    · have := h3 i' j' x' y' (by omega) h1' hx' hy'; rw [this] at h2'; cases h2'
/-- The first pair, and whether there is one. -/
noncomputable def firstP (p : Dv → Dv → Bool) (ds : List Dv) : Int × Int × Bool :=
  open Classical in if h : ∃ ij : Nat × Nat, Hit p ds ij.1 ij.2 then (((Classical.choose h).1 : Int), ((Classical.choose h).2 : Int), true) else (0, 0, false)
theorem firstP_hit {p : Dv → Dv → Bool} {ds : List Dv} {i j : Nat} (h : Hit p ds i j) : firstP p ds = ((i : Int), (j : Int), true) := by
  have he : ∃ ij : Nat × Nat, Hit p ds ij.1 ij.2 := ⟨(i, j), h⟩
  unfold firstP
  rw [dif_pos he]
  obtain ⟨e1, e2⟩ := hit_one (Classical.choose_spec he) h
  rw [e1, e2]
theorem firstP_miss {p : Dv → Dv → Bool} {ds : List Dv} (h : ∀ (i j : Nat) x y, i < j → ds[i]? = some x → ds[j]? = some y → p x y = false) : firstP p ds = (0, 0, false) := by
  unfold firstP
  rw [dif_neg]
  rintro ⟨⟨i, j⟩, h1, ⟨x, y, hx, hy, h2⟩, _⟩
  rw [h i j x y h1 hx hy] at h2; cases h2
theorem firstP_congr {p q : Dv → Dv → Bool} {ds : List Dv} (h : ∀ x ∈ ds, ∀ y ∈ ds, p x y = q x y) : firstP p ds = firstP q ds := by
  have e : ∀ i j, Hit p ds i j ↔ Hit q ds i j := by
    intro i j
    unfold Hit
    constructor
    · rintro ⟨h1, ⟨x, y, hx, hy, h2⟩, h3⟩
      exact ⟨h1, ⟨x, y, hx, hy, by rw [← h x (List.mem_of_getElem? hx) y (List.mem_of_getElem? hy)]; exact h2⟩, fun i' j' x y a b hx hy => by rw [← h x (List.mem_of_getElem? hx) y (List.mem_of_getElem? hy)]; exact h3 i' j' x y a b hx hy⟩
    · rintro ⟨h1, ⟨x, y, hx, hy, h2⟩, h3⟩
      exact ⟨h1, ⟨x, y, hx, hy, by rw [h x (List.mem_of_getElem? hx) y (List.mem_of_getElem? hy)]; exact h2⟩, fun i' j' x y a b hx hy => by rw [h x (List.mem_of_getElem? hx) y (List.mem_of_getElem? hy)]; exact h3 i' j' x y a b hx hy⟩
  by_cases hh : ∃ ij : Nat × Nat, Hit p ds ij.1 ij.2
  · obtain ⟨⟨i, j⟩, hij⟩ := hh
    rw [firstP_hit hij, firstP_hit ((e i j).1 hij)]
  · have : ¬ ∃ ij : Nat × Nat, Hit q ds ij.1 ij.2 := fun ⟨ij, h⟩ => hh ⟨ij, (e _ _).2 h⟩
    unfold firstP
    rw [dif_neg hh, dif_neg this]
theorem firstP_bd (p : Dv → Dv → Bool) (ds : List Dv) : (firstP p ds).2.2 = true → ∃ i j : Nat, firstP p ds = ((i : Int), (j : Int), true) ∧ Hit p ds i j := by
  by_cases hh : ∃ ij : Nat × Nat, Hit p ds ij.1 ij.2
  · obtain ⟨⟨i, j⟩, hij⟩ := hh
    intro _; exact ⟨i, j, firstP_hit hij, hij⟩
  · unfold firstP; rw [dif_neg hh]; intro h; cases h
end Go.Proofs.Ytpiiccfjkgimfaa

/- Current pins, gates: contracts. -/
namespace Go.Proofs.Ytpiiccfjkgimfaa
open Go.RowKit
set_option linter.unusedVariables false
set_option linter.unusedSimpArgs false

theorem IntSl.two {w : World} {sv : Value} {p q : Int} (h : IntSl w sv [p, q]) : ∃ b off cap, sv = .slice (some ⟨b, off, none⟩) 2 cap ∧ w.cell? ⟨b, off, none⟩ = some (.int .i64 p) ∧ w.cell? ⟨b, off + 1, none⟩ = some (.int .i64 q) ∧ b < w.heap.size := by
  rcases h with ⟨_, _, _, h2⟩ | ⟨b, off, cap, hsv, h2, h3, h4⟩
  · simp at h2
  simp only [List.length_cons, List.length_nil, Nat.zero_add, Nat.reduceAdd] at hsv
  have hp : w.cell? ⟨b, off, none⟩ = some (.int .i64 p) := by have := h4 0 p rfl; simpa using this
  have hq : w.cell? ⟨b, off + 1, none⟩ = some (.int .i64 q) := by have := h4 1 q rfl; simpa using this
  refine ⟨b, off, cap, hsv, hp, hq, ?_⟩
  rcases Nat.lt_or_ge b w.heap.size with h' | h'
  · exact h'
  · simp [World.cell?, Array.getElem?_eq_none h'] at hp
theorem IntSl.three {w : World} {sv : Value} {g p q : Int} (h : IntSl w sv [g, p, q]) : ∃ b off cap, sv = .slice (some ⟨b, off, none⟩) 3 cap ∧ w.cell? ⟨b, off, none⟩ = some (.int .i64 g) ∧ w.cell? ⟨b, off + 1, none⟩ = some (.int .i64 p) ∧ w.cell? ⟨b, off + 2, none⟩ = some (.int .i64 q) ∧ b < w.heap.size := by
  rcases h with ⟨_, _, _, h2⟩ | ⟨b, off, cap, hsv, h2, h3, h4⟩
  · simp at h2
  simp only [List.length_cons, List.length_nil, Nat.zero_add, Nat.reduceAdd] at hsv
  have hg : w.cell? ⟨b, off, none⟩ = some (.int .i64 g) := by have := h4 0 g rfl; simpa using this
  have hp : w.cell? ⟨b, off + 1, none⟩ = some (.int .i64 p) := by have := h4 1 p rfl; simpa using this
  have hq : w.cell? ⟨b, off + 2, none⟩ = some (.int .i64 q) := by have := h4 2 q rfl; simpa using this
  refine ⟨b, off, cap, hsv, hg, hp, hq, ?_⟩
  rcases Nat.lt_or_ge b w.heap.size with h' | h'
  · exact h'
  · simp [World.cell?, Array.getElem?_eq_none h'] at hp

def sgB (x y : Dv) : Bool := decide (x.kind = 2) || decide (gateOf x.pins = gateOf y.pins)

def shB (x : Dv) : Bool := decide (curP x.pins = curQ x.pins)
end Go.Proofs.Ytpiiccfjkgimfaa

/- Parallel devices: contracts. -/
namespace Go.Proofs.Ytpiiccfjkgimfaa
open Go.RowKit
set_option linter.unusedVariables false
set_option linter.unusedSimpArgs false

end Go.Proofs.Ytpiiccfjkgimfaa
