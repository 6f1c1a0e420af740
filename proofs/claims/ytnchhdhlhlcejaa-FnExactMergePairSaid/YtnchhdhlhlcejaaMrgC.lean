/- MergePair: what both sides answer, plain; the reference's l28Merge: one contract; a device put into a slice of one's own. -/
import Derived.Test.YtnchhdhlhlcejaaMerged
import Derived.Test.YtnchhdhlhlcejaaMergeP
import Derived.Test.YtnchhdhlhlcejaaMergeV
import Derived.Test.YtnchhdhlhlcejaaDelN
namespace Go.Proofs.Ytnchhdhlhlcejaa
open Go.RowKit
set_option linter.unusedVariables false
set_option linter.unusedSimpArgs false

/-- What becomes of two devices: their state and limit. -/
def mgE (x : Nl) (a b : Dv) : Int :=
  if serB x a b = false ∧ parB a b = false then 6 else if (mgD a b (serB x a b)).wd > 1000000 ∨ (mgD a b (serB x a b)).len > 1000000 then 3 else 0
/-- The code. -/
def mgC (x : Nl) (i j : Int) : Int :=
  if nlB x = false then 1 else if 0 ≤ i ∧ i < j ∧ j < x.ds.length then
    match x.ds[i.toNat]?, x.ds[j.toNat]? with
    | some a, some b => mgE x a b
    | _, _ => 2
  else 2
/-- The netlist. -/
def mgR (x : Nl) (i j : Int) : Nl :=
  if mgC x i j = 0 then
    match x.ds[i.toNat]?, x.ds[j.toNat]? with
    | some a, some b => ⟨x.nets, (x.ds.set i.toNat (mgD a b (serB x a b))).eraseIdx j.toNat, x.ps⟩
    | _, _ => ⟨0, [], []⟩
  else ⟨0, [], []⟩
theorem mgR_no {x : Nl} {i j : Int} (h : mgC x i j ≠ 0) : mgR x i j = ⟨0, [], []⟩ := by unfold mgR; rw [if_neg h]
theorem mgC_valid {x : Nl} {i j : Int} (h : nlB x = false) : mgC x i j = 1 := by unfold mgC; rw [if_pos h]
theorem mgC_range {x : Nl} {i j : Int} (h : nlB x = true) (h' : ¬ (0 ≤ i ∧ i < j ∧ j < x.ds.length)) : mgC x i j = 2 := by unfold mgC; rw [if_neg (by rw [h]; simp), if_neg h']
theorem mgC_in {x : Nl} {i j : Nat} {a b : Dv} (h : nlB x = true) (h' : i < j) (ha : x.ds[i]? = some a) (hb : x.ds[j]? = some b) : mgC x i j = mgE x a b := by
  have hj := (List.getElem?_eq_some_iff.1 hb).1
  unfold mgC
  rw [if_neg (by rw [h]; simp), if_pos ⟨by omega, by omega, by omega⟩]
  simp only [Int.toNat_natCast, ha, hb]
theorem mgR_in {x : Nl} {i j : Nat} {a b : Dv} (h : nlB x = true) (h' : i < j) (ha : x.ds[i]? = some a) (hb : x.ds[j]? = some b) (hc : mgE x a b = 0) : mgR x i j = ⟨x.nets, (x.ds.set i (mgD a b (serB x a b))).eraseIdx j, x.ps⟩ := by
  unfold mgR
  rw [if_pos (by rw [mgC_in h h' ha hb]; exact hc)]
  simp only [Int.toNat_natCast, ha, hb]

theorem l28Merge_any (x y : Dv) (par : Bool) (net : Int) (sx sy : Value) (w : World) (h : IntSl w sx x.pins) (h' : IntSl w sy y.pins) (hx : Shp x) (hy : Shp y)
    (pb : (0 ≤ curP x.pins ∧ curP x.pins ≤ 24) ∧ (0 ≤ curQ x.pins ∧ curQ x.pins ≤ 24)) (qb : (0 ≤ curP y.pins ∧ curP y.pins ≤ 24) ∧ (0 ≤ curQ y.pins ∧ curQ y.pins ≤ 24))
    (b1 : 1 ≤ x.wd ∧ x.wd ≤ 1000000) (b2 : 1 ≤ x.len ∧ x.len ≤ 1000000) (b3 : 1 ≤ y.wd ∧ y.wd ≤ 1000000) (b4 : 1 ≤ y.len ∧ y.len ≤ 1000000)
    (hs : par = false → oneB x y = true ∧ net = serN x y) :
    Calls Try.prog 43 #[.agg #[.int .i64 x.kind, sx, .int .i64 x.wd, .int .i64 x.len], .agg #[.int .i64 y.kind, sy, .int .i64 y.wd, .int .i64 y.len], .bool par, .int .i64 net] w
      fun e w' => ∃ pv, e = .returned (.agg #[.int .i64 (mgD x y (!par)).kind, pv, .int .i64 (mgD x y (!par)).wd, .int .i64 (mgD x y (!par)).len]) ∧ OwnR w' w.heap.size w'.heap.size pv (mgD x y (!par)).pins ∧ Below w.heap.size w w' := by
  cases par with
  | true =>
    exact l28MergePar_any x y net sx sy w h h' (by rcases hx with ⟨_, p, q, e⟩ | ⟨_, g, p, q, e⟩ <;> rw [e] <;> simp) b1 b2 b3 b4
  | false =>
    obtain ⟨h1, h2⟩ := hs rfl
    obtain ⟨m1, m2⟩ := serN_mem h1
    rw [← h2] at m1 m2
    have hn : 0 ≤ net ∧ net ≤ 24 := by
      rcases m1 with e | e <;> rw [e] <;> omega
    by_cases hk : x.kind = 2
    · exact l28MergeSerR_any x y net sx sy w h h' hx hy hk pb qb hn m1 m2 h2 b1 b2 b3 b4
    · exact l28MergeSerM_any x y net sx sy w h h' hx hy hk pb qb hn m1 m2 h2 b1 b2 b3 b4
theorem mgD_pins {x y : Dv} {ser : Bool} (hx : Shp x) : (mgD x y ser).pins ≠ [] ∧ (mgD x y ser).pins.length ≤ 3 := by
  show mgPins x y ser ≠ [] ∧ (mgPins x y ser).length ≤ 3
  unfold mgPins
  cases ser with
  | true =>
    rw [if_pos rfl]
    by_cases hk : x.kind = 2 <;> simp [hk]
  | false =>
    rw [if_neg (by simp)]
    rcases hx with ⟨_, p, q, e⟩ | ⟨_, g, p, q, e⟩ <;> rw [e] <;> simp
theorem dvB_nums {nets : Int} {x : Dv} (h : dvB nets x = true) : (1 ≤ x.wd ∧ x.wd ≤ 1000000) ∧ (1 ≤ x.len ∧ x.len ≤ 1000000) := by
  obtain ⟨_, _, h3, h4, _⟩ := dvB_all h
  exact ⟨inB_iff.1 h3, inB_iff.1 h4⟩

/-- A device whose pins lie below the slice's own memory is put into it. -/
theorem OwnDs.setDev {w : World} {lo hi P lo2 hi2 k : Nat} {sv : Value} {ds : List Dv} (h : OwnDs w lo hi sv ds) (hk : k < ds.length) (d : Dv) (pv : Value) (hR : OwnR w lo2 hi2 pv d.pins) (hd : d.pins ≠ []) (hlt : hi2 ≤ lo) (hP : P < lo ∨ hi ≤ P) (hP2 : P < lo2 ∨ hi2 ≤ P) :
    ∃ g cap cs, sv = .slice (some ⟨g, 0, none⟩) ds.length cap ∧ Blk w g cs 46 ∧ (lo ≤ g ∧ g < hi) ∧ k * 4 + 3 < cs.size ∧
      ∀ w', Within g (g + 1) w w' → Blk w' g (set4 cs k (.int .i64 d.kind) pv (.int .i64 d.wd) (.int .i64 d.len)) 46 → OwnDsX w' lo2 hi P sv (ds.set k d) := by
  rcases h with ⟨_, _, _, rfl⟩ | ⟨g, cap, cs, f, h1, h2, h3, h4, h5, h6, h7⟩
  · simp at hk
  obtain ⟨⟨pv0, ⟨c0, c1, c2, c3⟩, hR0⟩, hf⟩ := h6 k ds[k] (List.getElem?_eq_getElem hk)
  have hsz := (Array.getElem?_eq_some_iff.1 c3).1
  obtain ⟨gp, capp, csp, rfl, hgp, hcp, hmp, hBp, hIC⟩ := hR.cells hd
  refine ⟨g, cap, cs, h1, h5, h2, hsz, fun w' hW hB => ?_⟩
  refine .inr ⟨g, cap, _, fun i => if i = k then gp else f i, by rw [List.length_set]; exact h1, ⟨by omega, by omega⟩, by rw [List.length_set]; exact h3, h4, hB, fun i x hx => ?_, fun i j hi' hj hne => ?_⟩
  · have hil : i < ds.length := by have := (List.getElem?_eq_some_iff.1 hx).1; simpa using this
    rw [List.getElem?_set] at hx
    dsimp only
    by_cases e : i = k
    · subst e
      simp [hk] at hx
      subst hx
      rw [if_pos rfl]
      refine ⟨⟨.slice (some ⟨gp, 0, none⟩) d.pins.length capp, ⟨?_, ?_, ?_, ?_⟩, .inr ⟨gp, capp, csp, rfl, Nat.le_refl _, Nat.lt_succ_self _, hcp, hmp, hW.blk hBp (by omega), hIC⟩⟩, by omega⟩
      all_goals (simp only [set4, Array.getElem?_setIfInBounds, Array.size_setIfInBounds]; split <;> (try split) <;> (try split) <;> (try split) <;> simp_all <;> omega)
    · rw [if_neg (fun h => e h.symm)] at hx
      rw [if_neg e]
      obtain ⟨⟨pv1, ⟨d0, d1, d2, d3⟩, hR1⟩, hf1⟩ := h6 i x hx
      refine ⟨⟨pv1, ⟨?_, ?_, ?_, ?_⟩, OwnR.past hW hR1 (by omega)⟩, by omega⟩
      · rw [← d0]; simp only [set4, Array.getElem?_setIfInBounds, Array.size_setIfInBounds]; repeat rw [if_neg (by omega)]
      · rw [← d1]; simp only [set4, Array.getElem?_setIfInBounds, Array.size_setIfInBounds]; repeat rw [if_neg (by omega)]
      · rw [← d2]; simp only [set4, Array.getElem?_setIfInBounds, Array.size_setIfInBounds]; repeat rw [if_neg (by omega)]
      · rw [← d3]; simp only [set4, Array.getElem?_setIfInBounds, Array.size_setIfInBounds]; repeat rw [if_neg (by omega)]
  · rw [List.length_set] at hi' hj
    have a1 := h6 i ds[i] (List.getElem?_eq_getElem hi')
    have a2 := h6 j ds[j] (List.getElem?_eq_getElem hj)
    dsimp only
    split <;> split
    · omega
    · omega
    · omega
    · exact h7 i j hi' hj hne
end Go.Proofs.Ytnchhdhlhlcejaa
