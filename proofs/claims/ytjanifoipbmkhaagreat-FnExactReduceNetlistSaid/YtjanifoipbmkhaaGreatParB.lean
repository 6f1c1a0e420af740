/- Parallel devices, devices in series, first pairs: plain. -/
import Derived.Test.YtjanifoipbmkhaaGreatValid0
import Derived.Test.YtjanifoipbmkhaaGreatNormB
import Derived.Test.YtjanifoipbmkhaaGreatCmps
import Derived.Test.YtjanifoipbmkhaaGreatNls
namespace Go.Proofs.YtjanifoipbmkhaaGreat
open Go.RowKit

/-- The first and the second current pin, the gate. -/
def curP : List Int → Int
  | [p, _] => p
  | [_, p, _] => p
  | _ => 0
def curQ : List Int → Int
  | [_, q] => q
  | [_, _, q] => q
  | _ => 0
def gateOf : List Int → Int
  | [g, _, _] => g
  | _ => 0
/-- The shape of a valid device. -/
def Shp (x : Dv) : Prop := (x.kind = 2 ∧ ∃ p q, x.pins = [p, q]) ∨ ((x.kind = 0 ∨ x.kind = 1) ∧ ∃ g p q, x.pins = [g, p, q])
theorem shp_of {nets : Int} {x : Dv} (h : dvB nets x = true) : Shp x := by
  obtain ⟨h1, h2, _⟩ := dvB_all h
  have hk := inB_iff.1 h1
  by_cases h2' : x.kind = 2
  · left
    refine ⟨h2', ?_⟩
    simp only [pinsOf, h2', if_pos] at h2
    match hp : x.pins, h2 with
    | [p, q], _ => exact ⟨p, q, rfl⟩
  · right
    refine ⟨by omega, ?_⟩
    simp only [pinsOf, if_neg h2'] at h2
    match hp : x.pins, h2 with
    | [g, p, q], _ => exact ⟨g, p, q, rfl⟩

theorem lcmp_zero : ∀ (a b : List Int), lcmp a b = 0 ↔ a = b
  | [], [] => by simp [lcmp]
  | [], _ :: _ => by simp [lcmp]
  | _ :: _, [] => by simp [lcmp]
  | a :: r, b :: s => by
    have ih := lcmp_zero r s
    unfold lcmp
    by_cases h : sgn a b = 0
    · rw [if_pos h, ih]
      have hab : a = b := by
        unfold sgn at h
        split at h
        · omega
        · split at h
          · omega
          · omega
      simp [hab]
    · rw [if_neg h]
      have hab : a ≠ b := fun e => h (sgn_eq e)
      simp [hab, h]

/-- Parallel, as the reference has it. -/
def parS (x y : Dv) : Bool := decide (x.kind = y.kind) && (decide (lcmp (normz x.kind x.pins) (normz y.kind y.pins) = 0) && (decide (x.kind = 2) || decide (x.len = y.len)))
/-- .. as the program has it. -/
def parB (x y : Dv) : Bool :=
  decide (x.kind = y.kind) && ((decide (x.kind = 2) || decide (gateOf x.pins = gateOf y.pins)) && ((decide (x.kind = 2) || decide (x.len = y.len)) &&
    ((decide (curP x.pins = curP y.pins) && decide (curQ x.pins = curQ y.pins)) || (decide (curP x.pins = curQ y.pins) && decide (curQ x.pins = curP y.pins)))))
theorem mm_eq (p q r s : Int) : (min p q = min r s ∧ max p q = max r s) ↔ (p = r ∧ q = s) ∨ (p = s ∧ q = r) := by omega
theorem normz_two (p q : Int) : normz 2 [p, q] = [min p q, max p q] := by simp [normz, pinc, lastTwo]
theorem normz_three (k g p q : Int) (h : k = 0 ∨ k = 1) : normz k [g, p, q] = [g, min p q, max p q] := by rcases h with rfl | rfl <;> simp [normz, pinc, lastTwo]
theorem parS_parB {x y : Dv} (hx : Shp x) (hy : Shp y) : parS x y = parB x y := by
  unfold parS parB
  by_cases hk : x.kind = y.kind
  · rw [hk]
    rw [Bool.eq_iff_iff]
    simp only [Bool.and_eq_true, Bool.or_eq_true, decide_eq_true_eq, lcmp_zero]
    rcases hx with ⟨hx2, p, q, hp⟩ | ⟨hx2, g, p, q, hp⟩ <;> rcases hy with ⟨hy2, r, s, hr⟩ | ⟨hy2, f, r, s, hr⟩
    · rw [hp, hr, hy2, normz_two, normz_two]
      simp only [List.cons.injEq, and_true, curP, curQ]
      have := mm_eq p q r s
      simp; exact this
    · omega
    · omega
    · rw [hp, hr, normz_three _ _ _ _ hy2, normz_three _ _ _ _ hy2]
      simp only [List.cons.injEq, and_true, curP, curQ, gateOf]
      have := mm_eq p q r s
      have hk2 : ¬ y.kind = 2 := by omega
      simp only [hk2, false_or]
      rw [← this]
      constructor
      · rintro ⟨_, ⟨rfl, h1, h2⟩, h3⟩; exact ⟨trivial, rfl, h3, h1, h2⟩
      · rintro ⟨_, rfl, h3, h1, h2⟩; exact ⟨trivial, ⟨rfl, h1, h2⟩, h3⟩
  · simp [hk]

/-- Devices i and j are the first for which p holds. -/
def Hit (p : Dv → Dv → Bool) (ds : List Dv) (i j : Nat) : Prop :=
  i < j ∧ (∃ x y, ds[i]? = some x ∧ ds[j]? = some y ∧ p x y = true) ∧ ∀ i' j' x y, (i' < i ∨ i' = i ∧ j' < j) → i' < j' → ds[i']? = some x → ds[j']? = some y → p x y = false
theorem hit_one {p : Dv → Dv → Bool} {ds : List Dv} {i j i' j' : Nat} (h : Hit p ds i j) (h' : Hit p ds i' j') : i = i' ∧ j = j' := by
  obtain ⟨h1, ⟨x, y, hx, hy, h2⟩, h3⟩ := h
  obtain ⟨h1', ⟨x', y', hx', hy', h2'⟩, h3'⟩ := h'
  by_cases e : i = i' ∧ j = j'
  · exact e
  · exfalso
    by_cases e2 : i < i' ∨ i = i' ∧ j < j'
    · have := h3' i j x y e2 h1 hx hy; rw [this] at h2; cases h2
    · have := h3 i' j' x' y' (by omega) h1' hx' hy'; rw [this] at h2'; cases h2'
/-- The first pair, and whether there is one. -/
noncomputable def firstP (p : Dv → Dv → Bool) (ds : List Dv) : Int × Int × Bool :=
  open Classical in if h : ∃ ij : Nat × Nat, Hit p ds ij.1 ij.2 then (((Classical.choose h).1 : Int), ((Classical.choose h).2 : Int), true) else (0, 0, false)
theorem firstP_hit {p : Dv → Dv → Bool} {ds : List Dv} {i j : Nat} (h : Hit p ds i j) : firstP p ds = ((i : Int), (j : Int), true) := by
  have he : ∃ ij : Nat × Nat, Hit p ds ij.1 ij.2 := ⟨(i, j), h⟩
  unfold firstP
  rw [dif_pos he]
  obtain ⟨e1, e2⟩ := hit_one (Classical.choose_spec he) h
  rw [e1, e2]
theorem firstP_miss {p : Dv → Dv → Bool} {ds : List Dv} (h : ∀ (i j : Nat) x y, i < j → ds[i]? = some x → ds[j]? = some y → p x y = false) : firstP p ds = (0, 0, false) := by
  unfold firstP
  rw [dif_neg]
  rintro ⟨⟨i, j⟩, h1, ⟨x, y, hx, hy, h2⟩, _⟩
  rw [h i j x y h1 hx hy] at h2; cases h2
theorem firstP_congr {p q : Dv → Dv → Bool} {ds : List Dv} (h : ∀ x ∈ ds, ∀ y ∈ ds, p x y = q x y) : firstP p ds = firstP q ds := by
  have e : ∀ i j, Hit p ds i j ↔ Hit q ds i j := by
    intro i j
    unfold Hit
    constructor
    · rintro ⟨h1, ⟨x, y, hx, hy, h2⟩, h3⟩
      exact ⟨h1, ⟨x, y, hx, hy, by rw [← h x (List.mem_of_getElem? hx) y (List.mem_of_getElem? hy)]; exact h2⟩, fun i' j' x y a b hx hy => by rw [← h x (List.mem_of_getElem? hx) y (List.mem_of_getElem? hy)]; exact h3 i' j' x y a b hx hy⟩
    · rintro ⟨h1, ⟨x, y, hx, hy, h2⟩, h3⟩
      exact ⟨h1, ⟨x, y, hx, hy, by rw [h x (List.mem_of_getElem? hx) y (List.mem_of_getElem? hy)]; exact h2⟩, fun i' j' x y a b hx hy => by rw [h x (List.mem_of_getElem? hx) y (List.mem_of_getElem? hy)]; exact h3 i' j' x y a b hx hy⟩
  by_cases hh : ∃ ij : Nat × Nat, Hit p ds ij.1 ij.2
  · obtain ⟨⟨i, j⟩, hij⟩ := hh
    rw [firstP_hit hij, firstP_hit ((e i j).1 hij)]
  · have : ¬ ∃ ij : Nat × Nat, Hit q ds ij.1 ij.2 := fun ⟨ij, h⟩ => hh ⟨ij, (e _ _).2 h⟩
    unfold firstP
    rw [dif_neg hh, dif_neg this]
theorem firstP_bd (p : Dv → Dv → Bool) (ds : List Dv) : (firstP p ds).2.2 = true → ∃ i j : Nat, firstP p ds = ((i : Int), (j : Int), true) ∧ Hit p ds i j := by
  by_cases hh : ∃ ij : Nat × Nat, Hit p ds ij.1 ij.2
  · obtain ⟨⟨i, j⟩, hij⟩ := hh
    intro _; exact ⟨i, j, firstP_hit hij, hij⟩
  · unfold firstP; rw [dif_neg hh]; intro h; cases h
end Go.Proofs.YtjanifoipbmkhaaGreat

/- Current pins, gates: contracts. -/
namespace Go.Proofs.YtjanifoipbmkhaaGreat
open Go.RowKit
set_option linter.unusedVariables false
set_option linter.unusedSimpArgs false

theorem IntSl.two {w : World} {sv : Value} {p q : Int} (h : IntSl w sv [p, q]) : ∃ b off cap, sv = .slice (some ⟨b, off, none⟩) 2 cap ∧ w.cell? ⟨b, off, none⟩ = some (.int .i64 p) ∧ w.cell? ⟨b, off + 1, none⟩ = some (.int .i64 q) ∧ b < w.heap.size := by
  rcases h with ⟨_, _, _, h2⟩ | ⟨b, off, cap, hsv, h2, h3, h4⟩
  · simp at h2
  simp only [List.length_cons, List.length_nil, Nat.zero_add, Nat.reduceAdd] at hsv
  have hp : w.cell? ⟨b, off, none⟩ = some (.int .i64 p) := by have := h4 0 p rfl; simpa using this
  have hq : w.cell? ⟨b, off + 1, none⟩ = some (.int .i64 q) := by have := h4 1 q rfl; simpa using this
  refine ⟨b, off, cap, hsv, hp, hq, ?_⟩
  rcases Nat.lt_or_ge b w.heap.size with h' | h'
  · exact h'
  · simp [World.cell?, Array.getElem?_eq_none h'] at hp
theorem IntSl.three {w : World} {sv : Value} {g p q : Int} (h : IntSl w sv [g, p, q]) : ∃ b off cap, sv = .slice (some ⟨b, off, none⟩) 3 cap ∧ w.cell? ⟨b, off, none⟩ = some (.int .i64 g) ∧ w.cell? ⟨b, off + 1, none⟩ = some (.int .i64 p) ∧ w.cell? ⟨b, off + 2, none⟩ = some (.int .i64 q) ∧ b < w.heap.size := by
  rcases h with ⟨_, _, _, h2⟩ | ⟨b, off, cap, hsv, h2, h3, h4⟩
  · simp at h2
  simp only [List.length_cons, List.length_nil, Nat.zero_add, Nat.reduceAdd] at hsv
  have hg : w.cell? ⟨b, off, none⟩ = some (.int .i64 g) := by have := h4 0 g rfl; simpa using this
  have hp : w.cell? ⟨b, off + 1, none⟩ = some (.int .i64 p) := by have := h4 1 p rfl; simpa using this
  have hq : w.cell? ⟨b, off + 2, none⟩ = some (.int .i64 q) := by have := h4 2 q rfl; simpa using this
  refine ⟨b, off, cap, hsv, hg, hp, hq, ?_⟩
  rcases Nat.lt_or_ge b w.heap.size with h' | h'
  · exact h'
  · simp [World.cell?, Array.getElem?_eq_none h'] at hp

set_option maxRecDepth 100000 in
set_option maxHeartbeats 1000000 in
theorem currentPins_any (x : Dv) (sv : Value) (w : World) (h : IntSl w sv x.pins) (hs : Shp x) :
    Calls Tryz.prog 92 #[.agg #[.int .i64 x.kind, sv, .int .i64 x.wd, .int .i64 x.len]] w fun e w' => e = .returned (.tuple #[.int .i64 (curP x.pins), .int .i64 (curQ x.pins)]) ∧ Below w.heap.size w w' := by
  obtain ⟨kind, pins, wd, len⟩ := x
  dsimp only at h ⊢
  rcases hs with ⟨_, p, q, hp⟩ | ⟨_, g, p, q, hp⟩
  · dsimp only at hp; subst hp
    obtain ⟨b, off, cap, rfl, c0, c1, hb⟩ := h.two
    clear h
    simp only [curP, curQ]
    go_enter Tryz.func92, Tryz.ntmps92
    go_wp2
    go_quiet (fail)
    go_wp2
    go_ret2
    exact ⟨rfl, (by ((repeat (first | (with_reducible exact Below.refl _ _) | (with_reducible refine below_drewN ?_ _) | (with_reducible refine Below.drew ?_) | (with_reducible refine below_al ?_ _) | (with_reducible refine below_on (by assumption) ?_) | ((with_reducible refine Below.setCell ?_ ?_ _); rotate_left; focus (first | omega | (simp; done) | (simp; omega))) | (with_reducible assumption))); done))⟩
  · dsimp only at hp; subst hp
    obtain ⟨b, off, cap, rfl, c0, c1, c2, hb⟩ := h.three
    clear h
    simp only [curP, curQ]
    go_enter Tryz.func92, Tryz.ntmps92
    go_wp2
    go_quiet (fail)
    go_wp2
    go_ret2
    exact ⟨rfl, (by ((repeat (first | (with_reducible exact Below.refl _ _) | (with_reducible refine below_drewN ?_ _) | (with_reducible refine Below.drew ?_) | (with_reducible refine below_al ?_ _) | (with_reducible refine below_on (by assumption) ?_) | ((with_reducible refine Below.setCell ?_ ?_ _); rotate_left; focus (first | omega | (simp; done) | (simp; omega))) | (with_reducible assumption))); done))⟩

def sgB (x y : Dv) : Bool := decide (x.kind = 2) || decide (gateOf x.pins = gateOf y.pins)

set_option maxRecDepth 100000 in
set_option maxHeartbeats 1000000 in
theorem sameGate_any (x y : Dv) (s t : Value) (w : World) (h : IntSl w s x.pins) (h' : IntSl w t y.pins) (hs : Shp x) (ht : Shp y) (hk : x.kind = y.kind) :
    Calls Tryz.prog 95 #[.agg #[.int .i64 x.kind, s, .int .i64 x.wd, .int .i64 x.len], .agg #[.int .i64 y.kind, t, .int .i64 y.wd, .int .i64 y.len]] w fun e w' => e = .returned (.bool (sgB x y)) ∧ Below w.heap.size w w' := by
  obtain ⟨kind, pins, wd, len⟩ := x
  obtain ⟨kind', pins', wd', len'⟩ := y
  dsimp only at h h' hk ⊢
  subst hk
  rcases hs with ⟨k2, p, q, hp⟩ | ⟨k2, g, p, q, hp⟩
  · dsimp only at hp k2; subst hp; subst k2
    obtain ⟨a, c, rfl⟩ := h.len
    obtain ⟨a', c', rfl⟩ := h'.len
    go_enter Tryz.func95, Tryz.ntmps95
    go_wp2
    go_quiet (fail)
    go_wp2
    go_ret
    exact ⟨ret_bool (by simp [sgB]), (by ((repeat (first | (with_reducible exact Below.refl _ _) | (with_reducible refine below_drewN ?_ _) | (with_reducible refine Below.drew ?_) | (with_reducible refine below_al ?_ _) | (with_reducible refine below_on (by assumption) ?_) | ((with_reducible refine Below.setCell ?_ ?_ _); rotate_left; focus (first | omega | (simp; done) | (simp; omega))) | (with_reducible assumption))); done))⟩
  · dsimp only at hp k2; subst hp
    rcases ht with ⟨k3, r, s, hr⟩ | ⟨k3, f, r, s, hr⟩
    · dsimp only at k3; omega
    dsimp only at hr; subst hr
    obtain ⟨b, off, cap, rfl, c0, c1, c2, hb⟩ := h.three
    obtain ⟨b', off', cap', rfl, d0, d1, d2, hb'⟩ := h'.three
    have hz : (kind == 2) = false := by rw [beq_eq_false_iff_ne]; omega
    have HK := Lib.hid (show ¬ kind = 2 by omega)
    clear h h' k2 k3
    go_enter Tryz.func95, Tryz.ntmps95
    go_wp2
    go_quiet (fail)
    go_wp2
    go_ret
    exact ⟨ret_bool (by rw [Bool.eq_iff_iff]; simp [sgB, gateOf, HK.out]; exact decide_eq_true_iff.symm), (by ((repeat (first | (with_reducible exact Below.refl _ _) | (with_reducible refine below_drewN ?_ _) | (with_reducible refine Below.drew ?_) | (with_reducible refine below_al ?_ _) | (with_reducible refine below_on (by assumption) ?_) | ((with_reducible refine Below.setCell ?_ ?_ _); rotate_left; focus (first | omega | (simp; done) | (simp; omega))) | (with_reducible assumption))); done))⟩

def shB (x : Dv) : Bool := decide (curP x.pins = curQ x.pins)
set_option maxRecDepth 100000 in
set_option maxHeartbeats 1000000 in
theorem shorted_any (x : Dv) (sv : Value) (w : World) (h : IntSl w sv x.pins) (hs : Shp x) :
    Calls Tryz.prog 62 #[.agg #[.int .i64 x.kind, sv, .int .i64 x.wd, .int .i64 x.len]] w fun e w' => e = .returned (.bool (shB x)) ∧ Below w.heap.size w w' := by
  have HC := Lib.hid (fun w h => currentPins_any x sv w h hs)
  have HH := Lib.hid h
  have HB := Lib.hid (show shB x = (decide (curP x.pins = curQ x.pins)) from rfl)
  generalize shB x = r at *
  generalize curP x.pins = p at *
  generalize curQ x.pins = q at *
  obtain ⟨a, c, rfl⟩ := h.len
  clear h
  go_enter Tryz.func62, Tryz.ntmps62
  go_wp2_with (go_at_call 92; refine (HC.out _ (HH.out.by (by ((repeat (first | (with_reducible exact Below.refl _ _) | (with_reducible refine below_drewN ?_ _) | (with_reducible refine Below.drew ?_) | (with_reducible refine below_al ?_ _) | (with_reducible refine below_on (by assumption) ?_) | ((with_reducible refine Below.setCell ?_ ?_ _); rotate_left; focus (first | omega | (simp; done) | (simp; omega))) | (with_reducible assumption))); done)))).mono ?_; rintro e w1 ⟨rfl, hb1⟩)
  go_ret
  exact ⟨ret_bool (by rw [HB.out, Bool.eq_iff_iff]; simp), (by ((repeat (first | (with_reducible exact Below.refl _ _) | (with_reducible refine below_drewN ?_ _) | (with_reducible refine Below.drew ?_) | (with_reducible refine below_al ?_ _) | (with_reducible refine below_on (by assumption) ?_) | ((with_reducible refine Below.setCell ?_ ?_ _); rotate_left; focus (first | omega | (simp; done) | (simp; omega))) | (with_reducible assumption))); done))⟩
end Go.Proofs.YtjanifoipbmkhaaGreat

/- Parallel devices: contracts. -/
namespace Go.Proofs.YtjanifoipbmkhaaGreat
open Go.RowKit
set_option linter.unusedVariables false
set_option linter.unusedSimpArgs false

set_option maxRecDepth 100000 in
set_option maxHeartbeats 2000000 in
theorem l28Parallel_any (x y : Dv) (s t : Value) (w : World) (h : IntSl w s x.pins) (h' : IntSl w t y.pins) (hl : x.pins.length ≤ 1048576) (hl' : y.pins.length ≤ 1048576) :
    Calls Tryz.prog 43 #[.agg #[.int .i64 x.kind, s, .int .i64 x.wd, .int .i64 x.len], .agg #[.int .i64 y.kind, t, .int .i64 y.wd, .int .i64 y.len]] w fun e w' => e = .returned (.bool (parS x y)) ∧ Below w.heap.size w w' := by
  have hfd : ∀ (a b c d : Value) (w : World), (Instr.field 46 (.agg #[a, b, c, d]) 1).run Tryz.prog w = .ok b w := fun _ _ _ _ _ => by kernel_rfl
  have HB := Lib.hid (show parS x y = (decide (x.kind = y.kind) && (decide (lcmp (normz x.kind x.pins) (normz y.kind y.pins) = 0) && (decide (x.kind = 2) || decide (x.len = y.len)))) from rfl)
  generalize parS x y = r at *
  obtain ⟨k1, xs, d1, l1⟩ := x
  obtain ⟨k2, ys, d2, l2⟩ := y
  dsimp only at h h' hl hl' HB ⊢
  have HX := Lib.hid h
  have HY := Lib.hid h'
  obtain ⟨a, c, rfl⟩ := h.len
  obtain ⟨a', c', rfl⟩ := h'.len
  clear h h'
  by_cases hk : k1 = k2
  · subst hk
    have HN1 := Lib.hid (fun w h => specNorm_any k1 d1 l1 (.slice a xs.length c) xs w h hl)
    have HN2 := Lib.hid (fun w h => specNorm_any k1 d2 l2 (.slice a' ys.length c') ys w h hl')
    have HLL := Lib.hid (fun s1 s2 w h h' => l27List_any s1 s2 (normz k1 xs) (normz k1 ys) w h h')
    generalize normz k1 xs = nx at *
    generalize normz k1 ys = ny at *
    rcases Bool.eq_false_or_eq_true (lcmp nx ny == 0) with hz | hz
    · have HZ := Lib.hid hz
      have hz2 : (lcmp nx ny != 0) = false := by simpa using hz
      rcases Bool.eq_false_or_eq_true (k1 == 2) with hk2 | hk2
      all_goals
        have HK2 := Lib.hid hk2
        generalize lcmp nx ny = q at *
        go_enter Tryz.func43, Tryz.ntmps43
        go_wp2_with fail
        go_region_held3 ((fun w' => (Blk w' (w.heap.size) #[.int .i64 k1, .slice a xs.length c, .int .i64 d1, .int .i64 l1] 46 ∧ ∀ o, w'.cell? ⟨w.heap.size, o, none⟩ = (#[.int .i64 k1, .slice a xs.length c, .int .i64 d1, .int .i64 l1] : Array Value)[o]?) ∧ (Blk w' (w.heap.size + 1) #[.int .i64 k1, .slice a' ys.length c', .int .i64 d2, .int .i64 l2] 46 ∧ ∀ o, w'.cell? ⟨w.heap.size + 1, o, none⟩ = (#[.int .i64 k1, .slice a' ys.length c', .int .i64 d2, .int .i64 l2] : Array Value)[o]?) ∧ Below w.heap.size w w')) (((try (obtain ⟨⟨hS0, _⟩, ⟨hS1, _⟩, hSB⟩ := hHeld)); refine ⟨Blk.both ?_, Blk.both ?_, ?_⟩ <;> first | ((repeat (first | (with_reducible assumption) | (with_reducible refine Blk.drewN ?_ _) | (with_reducible refine Blk.drew ?_) | ((with_reducible refine Blk.new _ ?_); focus (first | omega | (simp; done) | (simp; omega))) | (with_reducible refine Blk.past ?_ _) | ((with_reducible refine Blk.apart ?_ _ _ _ ?_); rotate_left; focus (first | omega | (simp; done) | (simp; omega))) | (with_reducible refine Blk.by (by assumption) ?_))); done) | ((repeat (first | (with_reducible exact Below.refl _ _) | (with_reducible refine below_drewN ?_ _) | (with_reducible refine Below.drew ?_) | (with_reducible refine below_al ?_ _) | (with_reducible refine below_on (by assumption) ?_) | ((with_reducible refine Below.setCell ?_ ?_ _); rotate_left; focus (first | omega | (simp; done) | (simp; omega))) | (with_reducible assumption))); done)))
          (first | (go_at_call_of 17 (Value.slice a xs.length c); refine (HN1.out _ (HX.out.by (by ((repeat (first | (with_reducible exact Below.refl _ _) | (with_reducible refine below_drewN ?_ _) | (with_reducible refine Below.drew ?_) | (with_reducible refine below_al ?_ _) | (with_reducible refine below_on (by assumption) ?_) | ((with_reducible refine Below.setCell ?_ ?_ _); rotate_left; focus (first | omega | (simp; done) | (simp; omega))) | (with_reducible assumption))); done)))).mono ?_; rintro e w1 ⟨v1, rfl, hO1, hb1⟩; have HO1 := Lib.hid hO1; obtain ⟨a1, c1, rfl⟩ := hO1.len; clear hO1) | (go_at_call_of 17 (Value.slice a' ys.length c'); refine (HN2.out _ (HY.out.by (by ((repeat (first | (with_reducible exact Below.refl _ _) | (with_reducible refine below_drewN ?_ _) | (with_reducible refine Below.drew ?_) | (with_reducible refine below_al ?_ _) | (with_reducible refine below_on (by assumption) ?_) | ((with_reducible refine Below.setCell ?_ ?_ _); rotate_left; focus (first | omega | (simp; done) | (simp; omega))) | (with_reducible assumption))); done)))).mono ?_; rintro e w2 ⟨v2, rfl, hO2, hb2⟩; have HO2 := Lib.hid hO2; obtain ⟨a2, c2, rfl⟩ := hO2.len; clear hO2) | (go_at_call 81; refine (HLL.out _ _ _ (HO1.out.sl.by hb2) HO2.out.sl).mono ?_; rintro e w3 ⟨rfl, nd, rfl⟩))
        go_wp2
        go_ret
        exact ⟨ret_bool (by have h1 := HB.out; have h2 := HZ.out; have h3 := HK2.out; rw [h1]; simp at h2 h3; simp [h2, h3]; try rfl), (by ((repeat (first | (with_reducible exact Below.refl _ _) | (with_reducible refine below_drewN ?_ _) | (with_reducible refine Below.drew ?_) | (with_reducible refine below_al ?_ _) | (with_reducible refine below_on (by assumption) ?_) | ((with_reducible refine Below.setCell ?_ ?_ _); rotate_left; focus (first | omega | (simp; done) | (simp; omega))) | (with_reducible assumption))); done))⟩
    · have HZ := Lib.hid hz
      have hz2 : (lcmp nx ny != 0) = true := by simpa using hz
      generalize lcmp nx ny = q at *
      go_enter Tryz.func43, Tryz.ntmps43
      go_wp2_with fail
      go_region_held3 ((fun w' => (Blk w' (w.heap.size) #[.int .i64 k1, .slice a xs.length c, .int .i64 d1, .int .i64 l1] 46 ∧ ∀ o, w'.cell? ⟨w.heap.size, o, none⟩ = (#[.int .i64 k1, .slice a xs.length c, .int .i64 d1, .int .i64 l1] : Array Value)[o]?) ∧ (Blk w' (w.heap.size + 1) #[.int .i64 k1, .slice a' ys.length c', .int .i64 d2, .int .i64 l2] 46 ∧ ∀ o, w'.cell? ⟨w.heap.size + 1, o, none⟩ = (#[.int .i64 k1, .slice a' ys.length c', .int .i64 d2, .int .i64 l2] : Array Value)[o]?) ∧ Below w.heap.size w w')) (((try (obtain ⟨⟨hS0, _⟩, ⟨hS1, _⟩, hSB⟩ := hHeld)); refine ⟨Blk.both ?_, Blk.both ?_, ?_⟩ <;> first | ((repeat (first | (with_reducible assumption) | (with_reducible refine Blk.drewN ?_ _) | (with_reducible refine Blk.drew ?_) | ((with_reducible refine Blk.new _ ?_); focus (first | omega | (simp; done) | (simp; omega))) | (with_reducible refine Blk.past ?_ _) | ((with_reducible refine Blk.apart ?_ _ _ _ ?_); rotate_left; focus (first | omega | (simp; done) | (simp; omega))) | (with_reducible refine Blk.by (by assumption) ?_))); done) | ((repeat (first | (with_reducible exact Below.refl _ _) | (with_reducible refine below_drewN ?_ _) | (with_reducible refine Below.drew ?_) | (with_reducible refine below_al ?_ _) | (with_reducible refine below_on (by assumption) ?_) | ((with_reducible refine Below.setCell ?_ ?_ _); rotate_left; focus (first | omega | (simp; done) | (simp; omega))) | (with_reducible assumption))); done)))
        (first | (go_at_call_of 17 (Value.slice a xs.length c); refine (HN1.out _ (HX.out.by (by ((repeat (first | (with_reducible exact Below.refl _ _) | (with_reducible refine below_drewN ?_ _) | (with_reducible refine Below.drew ?_) | (with_reducible refine below_al ?_ _) | (with_reducible refine below_on (by assumption) ?_) | ((with_reducible refine Below.setCell ?_ ?_ _); rotate_left; focus (first | omega | (simp; done) | (simp; omega))) | (with_reducible assumption))); done)))).mono ?_; rintro e w1 ⟨v1, rfl, hO1, hb1⟩; have HO1 := Lib.hid hO1; obtain ⟨a1, c1, rfl⟩ := hO1.len; clear hO1) | (go_at_call_of 17 (Value.slice a' ys.length c'); refine (HN2.out _ (HY.out.by (by ((repeat (first | (with_reducible exact Below.refl _ _) | (with_reducible refine below_drewN ?_ _) | (with_reducible refine Below.drew ?_) | (with_reducible refine below_al ?_ _) | (with_reducible refine below_on (by assumption) ?_) | ((with_reducible refine Below.setCell ?_ ?_ _); rotate_left; focus (first | omega | (simp; done) | (simp; omega))) | (with_reducible assumption))); done)))).mono ?_; rintro e w2 ⟨v2, rfl, hO2, hb2⟩; have HO2 := Lib.hid hO2; obtain ⟨a2, c2, rfl⟩ := hO2.len; clear hO2) | (go_at_call 81; refine (HLL.out _ _ _ (HO1.out.sl.by hb2) HO2.out.sl).mono ?_; rintro e w3 ⟨rfl, nd, rfl⟩))
      go_wp2
      go_ret
      exact ⟨ret_bool (by have h1 := HB.out; have h2 := HZ.out; rw [h1]; simp at h2; simp [h2]), (by ((repeat (first | (with_reducible exact Below.refl _ _) | (with_reducible refine below_drewN ?_ _) | (with_reducible refine Below.drew ?_) | (with_reducible refine below_al ?_ _) | (with_reducible refine below_on (by assumption) ?_) | ((with_reducible refine Below.setCell ?_ ?_ _); rotate_left; focus (first | omega | (simp; done) | (simp; omega))) | (with_reducible assumption))); done))⟩
  · have hk' : (k1 != k2) = true := by simpa using hk
    have HK := Lib.hid hk
    clear hk
    go_enter Tryz.func43, Tryz.ntmps43
    go_wp2
    go_quiet (fail)
    go_wp2
    go_ret
    exact ⟨ret_bool (by rw [HB.out]; simp [HK.out]), (by ((repeat (first | (with_reducible exact Below.refl _ _) | (with_reducible refine below_drewN ?_ _) | (with_reducible refine Below.drew ?_) | (with_reducible refine below_al ?_ _) | (with_reducible refine below_on (by assumption) ?_) | ((with_reducible refine Below.setCell ?_ ?_ _); rotate_left; focus (first | omega | (simp; done) | (simp; omega))) | (with_reducible assumption))); done))⟩
end Go.Proofs.YtjanifoipbmkhaaGreat
