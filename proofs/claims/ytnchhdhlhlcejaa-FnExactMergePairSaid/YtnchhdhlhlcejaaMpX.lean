/- MergePair: both contracts for all arguments; the netlist's bounds. -/
import Derived.Test.YtnchhdhlhlcejaaSpecMp
import Derived.Test.YtnchhdhlhlcejaaImplMp
import Derived.Test.YtnchhdhlhlcejaaNlOwns
namespace Go.Proofs.Ytnchhdhlhlcejaa
open Go.RowKit
set_option linter.unusedVariables false
set_option linter.unusedSimpArgs false

theorem specMp_any (x : Nl) (i j : Int) (v : Value) (w : World) (h : NlV w v x) (hok : ∀ p ∈ x.ps, p.ok) (hnn : Fits x.nets) :
    Calls Try.prog 15 #[v, .int .i64 i, .int .i64 j] w fun e w' => ∃ v', e = .returned (.tuple #[v', .int .i64 (mgC x i j)]) ∧ OwnNlX w' w.heap.size w'.heap.size v' (mgR x i j) ∧ Below w.heap.size w w' := by
  by_cases hv : nlB x = true
  · by_cases hr : 0 ≤ i ∧ i < j ∧ j < x.ds.length
    · obtain ⟨h1, h2, h3⟩ := hr
      obtain ⟨a, rfl⟩ := Int.eq_ofNat_of_zero_le h1
      obtain ⟨b, rfl⟩ := Int.eq_ofNat_of_zero_le (show 0 ≤ j by omega)
      exact specMp_in x a b (x.ds[a]'(by omega)) (x.ds[b]'(by omega)) v w h hok hnn hv (by omega) (List.getElem?_eq_getElem _) (List.getElem?_eq_getElem _)
    · exact specMp_range x i j v w h hok hnn hv hr
  · exact specMp_no x i j v w h hok hnn (by simpa using hv)
theorem implMp_any (x : Nl) (i j : Int) (v : Value) (w : World) (h : NlV w v x) (hok : ∀ p ∈ x.ps, p.ok) (hnn : Fits x.nets) :
    Calls Try.prog 16 #[v, .int .i64 i, .int .i64 j] w fun e w' => ∃ v', e = .returned (.tuple #[v', .int .i64 (mgC x i j)]) ∧ OwnNlX w' w.heap.size w'.heap.size v' (mgR x i j) ∧ Below w.heap.size w w' := by
  by_cases hv : nlB x = true
  · by_cases hr : 0 ≤ i ∧ i < j ∧ j < x.ds.length
    · obtain ⟨h1, h2, h3⟩ := hr
      obtain ⟨a, rfl⟩ := Int.eq_ofNat_of_zero_le h1
      obtain ⟨b, rfl⟩ := Int.eq_ofNat_of_zero_le (show 0 ≤ j by omega)
      exact implMp_in x a b (x.ds[a]'(by omega)) (x.ds[b]'(by omega)) v w h hok hnn hv (by omega) (List.getElem?_eq_getElem _) (List.getElem?_eq_getElem _)
    · exact implMp_range x i j v w h hok hnn hv hr
  · exact implMp_no x i j v w h hok hnn (by simpa using hv)
theorem dsum_three (ds : List Dv) (h : ∀ d ∈ ds, d.pins.length ≤ 3) : dsum ds ≤ 6 * ds.length := by
  induction ds with
  | nil => simp [dsum]
  | cons d ds ih =>
    have h1 := ih (fun e he => h e (by simp [he]))
    have h2 := h d (by simp)
    simp only [dsum, List.length_cons]
    omega
theorem mgR_bounds (x : Nl) (i j : Int) : (∀ d ∈ (mgR x i j).ds, d.pins.length ≤ 1048576) ∧ nsum (mgR x i j) ≤ 4000000 := by
  by_cases hc : mgC x i j = 0
  · have hv : nlB x = true := by
      cases h : nlB x with
      | true => rfl
      | false => rw [mgC_valid h] at hc; exact absurd hc (by decide)
    have hr : 0 ≤ i ∧ i < j ∧ j < x.ds.length := by
      by_cases hr : 0 ≤ i ∧ i < j ∧ j < x.ds.length
      · exact hr
      · rw [mgC_range hv hr] at hc; exact absurd hc (by decide)
    obtain ⟨h1, h2, h3⟩ := hr
    obtain ⟨a, rfl⟩ := Int.eq_ofNat_of_zero_le h1
    obtain ⟨b, rfl⟩ := Int.eq_ofNat_of_zero_le (show 0 ≤ j by omega)
    have ha : x.ds[a]? = some (x.ds[a]'(by omega)) := List.getElem?_eq_getElem _
    have hb : x.ds[b]? = some (x.ds[b]'(by omega)) := List.getElem?_eq_getElem _
    rw [mgC_in hv (by omega) ha hb] at hc
    rw [mgR_in hv (by omega) ha hb hc]
    obtain ⟨_, hd24, hp8, hdv, _⟩ := nlB_facts hv
    generalize hdd : mgD (x.ds[a]'(by omega)) (x.ds[b]'(by omega)) (serB x (x.ds[a]'(by omega)) (x.ds[b]'(by omega))) = d at *
    have hd3 : d.pins.length ≤ 3 := by rw [← hdd]; exact (mgD_pins (shp_of (hdv _ (List.getElem_mem _)))).2
    have hs3 : ∀ e ∈ (x.ds.set a d).eraseIdx b, e.pins.length ≤ 3 := by
      intro e he
      have he := (List.eraseIdx_sublist _ _).subset he
      rcases List.mem_or_eq_of_mem_set he with h | rfl
      · exact (dvB_pins (hdv e h)).1
      · exact hd3
    refine ⟨fun e he => by have := hs3 e he; omega, ?_⟩
    have hs := dsum_three _ hs3
    have hl := List.length_eraseIdx_le (x.ds.set a d) b
    rw [List.length_set] at hl
    simp only [nsum]
    omega
  · rw [mgR_no hc]
    simp [nsum, dsum]
end Go.Proofs.Ytnchhdhlhlcejaa
