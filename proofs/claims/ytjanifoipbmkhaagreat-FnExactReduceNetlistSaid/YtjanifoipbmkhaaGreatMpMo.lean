/- MergePair: both contracts for all arguments; the netlist's bounds. -/
import Derived.Test.YtjanifoipbmkhaaGreatSpecMp
import Derived.Test.YtjanifoipbmkhaaGreatImplMp
import Derived.Test.YtjanifoipbmkhaaGreatNlOwns
namespace Go.Proofs.YtjanifoipbmkhaaGreat
open Go.RowKit
set_option linter.unusedVariables false
set_option linter.unusedSimpArgs false

theorem specMp_any (x : Nl) (i j : Int) (v : Value) (w : World) (h : NlV w v x) (hok : ∀ p ∈ x.ps, p.ok) (hnn : Fits x.nets) :
    Calls Tryz.prog 16 #[v, .int .i64 i, .int .i64 j] w fun e w' => ∃ v', e = .returned (.tuple #[v', .int .i64 (mgC x i j)]) ∧ OwnNlX w' w.heap.size w'.heap.size v' (mgR x i j) ∧ Below w.heap.size w w' := by
  by_cases hv : nlB x = true
  · by_cases hr : 0 ≤ i ∧ i < j ∧ j < x.ds.length
    · obtain ⟨h1, h2, h3⟩ := hr
      obtain ⟨a, rfl⟩ := Int.eq_ofNat_of_zero_le h1
      obtain ⟨b, rfl⟩ := Int.eq_ofNat_of_zero_le (show 0 ≤ j by omega)
      exact specMp_in x a b (x.ds[a]'(by omega)) (x.ds[b]'(by omega)) v w h hok hnn hv (by omega) (List.getElem?_eq_getElem _) (List.getElem?_eq_getElem _)
    · exact specMp_range x i j v w h hok hnn hv hr
  · exact specMp_no x i j v w h hok hnn (by simpa using hv)
theorem implMp_any (x : Nl) (i j : Int) (v : Value) (w : World) (h : NlV w v x) (hok : ∀ p ∈ x.ps, p.ok) (hnn : Fits x.nets) :
    Calls Tryz.prog 26 #[v, .int .i64 i, .int .i64 j] w fun e w' => ∃ v', e = .returned (.tuple #[v', .int .i64 (mgC x i j)]) ∧ OwnNlX w' w.heap.size w'.heap.size v' (mgR x i j) ∧ Below w.heap.size w w' := by
  by_cases hv : nlB x = true
  · by_cases hr : 0 ≤ i ∧ i < j ∧ j < x.ds.length
    · obtain ⟨h1, h2, h3⟩ := hr
      obtain ⟨a, rfl⟩ := Int.eq_ofNat_of_zero_le h1
      obtain ⟨b, rfl⟩ := Int.eq_ofNat_of_zero_le (show 0 ≤ j by omega)
      exact implMp_in x a b (x.ds[a]'(by omega)) (x.ds[b]'(by omega)) v w h hok hnn hv (by omega) (List.getElem?_eq_getElem _) (List.getElem?_eq_getElem _)
    · exact implMp_range x i j v w h hok hnn hv hr
  · exact implMp_no x i j v w h hok hnn (by simpa using hv)
theorem dsum_three (ds : List Dv) (h : ∀ d ∈ ds, d.pins.length ≤ 3) : dsum ds ≤ 6 * ds.length := by
  induction ds with
  | nil => simp [dsum]
  | cons d ds ih =>
    have h1 := ih (fun e he => h e (by simp [he]))
    have h2 := h d (by simp)
    simp only [dsum, List.length_cons]
    omega
theorem mgR_bounds (x : Nl) (i j : Int) : (∀ d ∈ (mgR x i j).ds, d.pins.length ≤ 1048576) ∧ nsum (mgR x i j) ≤ 4000000 := by
  by_cases hc : mgC x i j = 0
  · have hv : nlB x = true := by
      cases h : nlB x with
      | true => rfl
      | false => rw [mgC_valid h] at hc; exact absurd hc (by decide)
    have hr : 0 ≤ i ∧ i < j ∧ j < x.ds.length := by
      by_cases hr : 0 ≤ i ∧ i < j ∧ j < x.ds.length
      · exact hr
      · rw [mgC_range hv hr] at hc; exact absurd hc (by decide)
    obtain ⟨h1, h2, h3⟩ := hr
    obtain ⟨a, rfl⟩ := Int.eq_ofNat_of_zero_le h1
    obtain ⟨b, rfl⟩ := Int.eq_ofNat_of_zero_le (show 0 ≤ j by omega)
    have ha : x.ds[a]? = some (x.ds[a]'(by omega)) := List.getElem?_eq_getElem _
    have hb : x.ds[b]? = some (x.ds[b]'(by omega)) := List.getElem?_eq_getElem _
    rw [mgC_in hv (by omega) ha hb] at hc
    rw [mgR_in hv (by omega) ha hb hc]
    obtain ⟨_, hd24, hp8, hdv, _⟩ := nlB_facts hv
    generalize hdd : mgD (x.ds[a]'(by omega)) (x.ds[b]'(by omega)) (serB x (x.ds[a]'(by omega)) (x.ds[b]'(by omega))) = d at *
    have hd3 : d.pins.length ≤ 3 := by rw [← hdd]; exact (mgD_pins (shp_of (hdv _ (List.getElem_mem _)))).2
    have hs3 : ∀ e ∈ (x.ds.set a d).eraseIdx b, e.pins.length ≤ 3 := by
      intro e he
      have he := (List.eraseIdx_sublist _ _).subset he
      rcases List.mem_or_eq_of_mem_set he with h | rfl
      · exact (dvB_pins (hdv e h)).1
      · exact hd3
    refine ⟨fun e he => by have := hs3 e he; omega, ?_⟩
    have hs := dsum_three _ hs3
    have hl := List.length_eraseIdx_le (x.ds.set a d) b
    rw [List.length_set] at hl
    simp only [nsum]
    omega
  · rw [mgR_no hc]
    simp [nsum, dsum]
end Go.Proofs.YtjanifoipbmkhaaGreat

/- FnMergeOne's plain part: a merged netlist is valid; what becomes of the sizes. -/
namespace Go.Proofs.YtjanifoipbmkhaaGreat
open Go.RowKit
set_option linter.unusedVariables false
set_option linter.unusedSimpArgs false

theorem red_facts {n d : Int} (hn : 1 ≤ n) (hd : 1 ≤ d) : 1 ≤ redN n d ∧ 1 ≤ redD n d ∧ Int.gcd (redN n d) (redD n d) = 1 ∧ redN n d * d = redD n d * n := by
  have h1 : redN n d = n / (Int.gcd n d : Nat) := by rw [redN_ge n (by omega), Int.tdiv_eq_ediv_of_nonneg (by omega)]
  have h2 : redD n d = d / (Int.gcd n d : Nat) := by rw [redD_ge n (by omega), Int.tdiv_eq_ediv_of_nonneg (by omega)]
  have hg : 0 < Int.gcd n d := Nat.pos_of_ne_zero (fun h => by rw [Int.gcd_eq_zero_iff] at h; omega)
  obtain ⟨a, ha⟩ := Int.gcd_dvd_left (a := n) (b := d)
  obtain ⟨b, hb⟩ := Int.gcd_dvd_right (a := n) (b := d)
  generalize hG : Int.gcd n d = G at *
  have hg' : (0 : Int) < (G : Int) := by omega
  have e1 : redN n d = a := by rw [h1, ha]; exact Int.mul_ediv_cancel_left a (by omega)
  have e2 : redD n d = b := by rw [h2, hb]; exact Int.mul_ediv_cancel_left b (by omega)
  have pa : 1 ≤ a := by
    by_cases h : 1 ≤ a
    · exact h
    · have : (G : Int) * a ≤ 0 := Int.mul_nonpos_of_nonneg_of_nonpos (by omega) (by omega)
      omega
  have pb : 1 ≤ b := by
    by_cases h : 1 ≤ b
    · exact h
    · have : (G : Int) * b ≤ 0 := Int.mul_nonpos_of_nonneg_of_nonpos (by omega) (by omega)
      omega
  have hgg : Int.gcd a b = 1 := by
    have h3 : Int.gcd ((G : Int) * a) ((G : Int) * b) = G * Int.gcd a b := by rw [Int.gcd_mul_left]; simp
    rw [← ha, ← hb, hG] at h3
    have h4 : G * 1 = G * Int.gcd a b := by omega
    exact (Nat.eq_of_mul_eq_mul_left hg h4).symm
  rw [e1, e2]
  refine ⟨pa, pb, hgg, ?_⟩
  rw [ha, hb]
  rw [← Int.mul_assoc, ← Int.mul_assoc, Int.mul_comm a, Int.mul_comm b, Int.mul_assoc, Int.mul_assoc, Int.mul_comm a b]

/-- The merged device is valid where its sizes are within bounds. -/
theorem mgD_valid {nets : Int} {x y : Dv} {ser : Bool} (hx : dvB nets x = true) (hy : dvB nets y = true) (hk : x.kind = y.kind) (hs : ser = true → oneB x y = true)
    (hw : (mgD x y ser).wd ≤ 1000000) (hl : (mgD x y ser).len ≤ 1000000) : dvB nets (mgD x y ser) = true := by
  obtain ⟨a1, a2, a3, a4, a5, a6⟩ := dvB_all hx
  obtain ⟨b1, b2, b3, b4, b5, b6⟩ := dvB_all hy
  have w1 := inB_iff.1 a3
  have w2 := inB_iff.1 a4
  have w3 := inB_iff.1 b3
  have w4 := inB_iff.1 b4
  have m1 : 1 ≤ x.wd * y.len := Int.le_trans (by decide) (Int.mul_le_mul w1.1 w4.1 (by decide) (by omega))
  have m2 : 1 ≤ y.wd * x.len := Int.le_trans (by decide) (Int.mul_le_mul w3.1 w2.1 (by decide) (by omega))
  have m3 : 1 ≤ x.len * y.len := Int.le_trans (by decide) (Int.mul_le_mul w2.1 w4.1 (by decide) (by omega))
  have m4 : 1 ≤ x.wd * y.wd := Int.le_trans (by decide) (Int.mul_le_mul w1.1 w3.1 (by decide) (by omega))
  have r1 := red_facts (show 1 ≤ x.wd * y.len + y.wd * x.len by omega) m3
  have r2 := red_facts m4 (show 1 ≤ x.wd * y.len + y.wd * x.len by omega)
  have hwl : 1 ≤ (mgD x y ser).wd ∧ 1 ≤ (mgD x y ser).len ∧ ((mgD x y ser).kind ≠ 2 ∨ Int.gcd (mgD x y ser).wd (mgD x y ser).len = 1) := by
    show 1 ≤ mgW x y ser ∧ 1 ≤ mgL x y ser ∧ (x.kind ≠ 2 ∨ Int.gcd (mgW x y ser) (mgL x y ser) = 1)
    unfold mgW mgL
    by_cases hk2 : x.kind = 2
    · rw [if_pos hk2, if_pos hk2]
      cases ser with
      | true => simp only [if_true]; exact ⟨r1.1, r1.2.1, .inr r1.2.2.1⟩
      | false => simp only [Bool.false_eq_true, if_false]; exact ⟨r2.1, r2.2.1, .inr r2.2.2.1⟩
    · rw [if_neg hk2, if_neg hk2]
      cases ser with
      | true => simp only [if_true]; exact ⟨w1.1, by omega, .inl hk2⟩
      | false => simp only [Bool.false_eq_true, if_false]; exact ⟨by omega, w2.1, .inl hk2⟩
  have cx := cur_in hx
  have cy := cur_in hy
  have hpins : (mgD x y ser).pins.length = pinsOf x.kind ∧ ∀ p ∈ (mgD x y ser).pins, inB p 0 (nets - 1) = true := by
    show (mgPins x y ser).length = pinsOf x.kind ∧ ∀ p ∈ mgPins x y ser, inB p 0 (nets - 1) = true
    unfold mgPins
    cases ser with
    | false => simp only [Bool.false_eq_true, if_false]; exact ⟨a2, a5⟩
    | true =>
      simp only [if_true]
      have o1 : inB (otherN (curP x.pins) (curQ x.pins) (serN x y)) 0 (nets - 1) = true := by
        unfold otherN; split <;> (rw [inB_iff]; omega)
      have o2 : inB (otherN (curP y.pins) (curQ y.pins) (serN x y)) 0 (nets - 1) = true := by
        unfold otherN; split <;> (rw [inB_iff]; omega)
      by_cases hk2 : x.kind = 2
      · rw [if_pos hk2]
        refine ⟨by simp [pinsOf, hk2], fun p hp => ?_⟩
        simp at hp
        rcases hp with rfl | rfl
        · exact o1
        · exact o2
      · rw [if_neg hk2]
        have hg : gateOf x.pins ∈ x.pins := by
          have hsx := shp_of hx
          rcases hsx with ⟨h, _⟩ | ⟨h, g, p, q, e⟩
          · exact absurd h hk2
          · rw [e]; simp [gateOf]
        refine ⟨by simp [pinsOf, hk2], fun p hp => ?_⟩
        simp at hp
        rcases hp with rfl | rfl | rfl
        · exact a5 _ hg
        · exact o1
        · exact o2
  unfold dvB
  rw [show (mgD x y ser).kind = x.kind from rfl, a1, show decide ((mgD x y ser).pins.length = pinsOf x.kind) = true from decide_eq_true hpins.1, inB_iff.2 ⟨hwl.1, hw⟩, inB_iff.2 ⟨hwl.2.1, hl⟩, List.all_eq_true.2 hpins.2]
  have h3 := hwl.2.2
  simp only [Bool.true_and, Bool.or_eq_true, decide_eq_true_eq]
  exact h3
end Go.Proofs.YtjanifoipbmkhaaGreat
