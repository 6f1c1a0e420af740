/- The opener of a device that came in. -/
import Derived.Test.YthcaipohdeigeaaOpenG
import Derived.Test.YthcaipohdeigeaaI64S
namespace Go.Proofs.Ythcaipohdeigeaa
open Go.ChangeShapes Go.WideShapes Go.ChangeAt Go.RowKit Go.Joins Go.Deep

theorem addr_add (b off i : Nat) : (⟨b, off, none⟩ : Addr).add i = ⟨b, off + i, none⟩ := by
  by_cases h : i = 0 <;> simp [Addr.add, h]
/-- A device of package laws that came in, by value: kind, pins, width, length. -/
def IsDevV (W : World) (v : Value) (x : Int × List Int × Int × Int) : Prop :=
  ∃ sv, v = .agg #[.int .i64 x.1, sv, .int .i64 x.2.2.1, .int .i64 x.2.2.2] ∧ IntSl W sv x.2.1 ∧ (Fits x.1 ∧ Fits x.2.2.1 ∧ Fits x.2.2.2 ∧ ∀ z ∈ x.2.1, Fits z)
theorem cellsDev : Try.prog.cellsOf 24 = 4 := by kernel_rfl

section
variable {H : Type} {enc : TypeId × Value → H} {W : World} {base : Nat} {spare : Nat → Bool} {held : Bool}
/-- A cell that reads as a slice of int64. -/
theorem ints_of_cell {fuel : Nat} {c : Value} {y : DataW H × List MemPlace} (h : DataW.trod enc Try.prog W base spare held fuel 22 [c] = some y) : ∃ zs : List Int, IntSl W c zs ∧ ∀ z ∈ zs, Fits z := by
  rcases open_ints Try.underlying22 Try.underlying2 (by kernel_rfl) h with ⟨hcs, _⟩ | ⟨x, len, cap, zs, hcs, _, hl, hm, hz, _, hcell, hwz⟩
  · simp at hcs
    subst hcs
    exact ⟨[], .inl ⟨_, _, rfl, rfl⟩, by simp⟩
  · simp at hcs
    subst hcs
    by_cases h0 : len = 0
    · subst h0
      exact ⟨[], .inl ⟨_, _, rfl, rfl⟩, by simp⟩
    · obtain ⟨b, off, spot⟩ := x
      have hzl : len ≤ zs.length := by rw [hz]; split <;> omega
      have hspot : spot = none := by simpa [Addr.add] using World.cell?_spot (hcell 0 (by omega))
      subst hspot
      refine ⟨zs.take len, .inr ⟨b, off, cap, by rw [List.length_take, Nat.min_eq_left hzl], by rw [List.length_take, Nat.min_eq_left hzl]; exact hl, hm, fun i x hx => ?_⟩, ?_⟩
      · have hi : i < len := by
          have := (List.getElem?_eq_some_iff.1 hx).1
          rw [List.length_take] at this; omega
        rw [List.getElem?_take_of_lt hi] at hx
        have hc := hcell i (by omega)
        rw [addr_add, List.getD_eq_getElem?_getD, hx] at hc
        exact hc
      · intro z hz
        exact bounds_i64 (hwz z (List.mem_of_mem_take hz))
end

set_option maxRecDepth 100000 in
theorem opened_dev {H : Type} {enc : TypeId × Value → H} {W : World} {base b0 : Nat} {r : Reach} {spare : Nat → Bool} {held : Bool} {v : Value} {d : DataW H} {p : List MemPlace}
    (hv : Value.okWide Try.prog W r b0 24 v) (h : DataW.Trod enc Try.prog W base spare held 24 v d p) : ∃ x, IsDevV W v x := by
  obtain ⟨c0, c1, c2, c3, y0, y1, y2, y3, m, rfl, rfl, rfl, hy0, hy1, hy2, hy3⟩ := open_agg4 Try.underlying24 (by kernel_rfl) cellsDev hv h
  obtain ⟨a, e0, _, wa⟩ := DataW.trod_int Try.underlying2 hy0
  obtain ⟨b, e2, _, wb⟩ := DataW.trod_int Try.underlying2 hy2
  obtain ⟨c, e3, _, wc⟩ := DataW.trod_int Try.underlying2 hy3
  obtain ⟨zs, hz, hf⟩ := ints_of_cell hy1
  simp at e0 e2 e3
  subst e0 e2 e3
  exact ⟨(a, zs, b, c), c1, rfl, hz, wf_i64 wa, wf_i64 wb, wf_i64 wc, hf⟩
end Go.Proofs.Ythcaipohdeigeaa
