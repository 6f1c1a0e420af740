/- The opener of a network that came in. -/
import Derived.Test.YtljlcjficjefdaaDevs
import Derived.Test.YtljlcjficjefdaaRes
namespace Go.Proofs.Ytljlcjficjefdaa
open Go.ChangeShapes Go.WideShapes Go.ChangeAt Go.RowKit Go.Joins Go.Deep

/-- A network of package laws that came in, by value. -/
def IsNetV (W : World) (v : Value) (x : Int × List Res) : Prop :=
  ∃ sv, v = .agg #[.int .i64 x.1, sv] ∧ (-9223372036854775808 ≤ x.1 ∧ x.1 ≤ 9223372036854775807) ∧ ResSl W sv x.2 ∧ ∀ r ∈ x.2, r.ok
theorem cellsNet : Try.prog.cellsOf 24 = 2 := by kernel_rfl
theorem cellsResistor_ : Try.prog.cellsOf 84 = 3 + 1 := by kernel_rfl
theorem cellsRatio_ : Try.prog.cellsOf 82 = 2 := by kernel_rfl

theorem cellsI' : Try.prog.cellsOf 2 = 1 := by kernel_rfl
section
variable {H : Type} {enc : TypeId × Value → H} {W : World} {base : Nat} {spare : Nat → Bool} {held : Bool}
theorem i64_of_cell' {fuel : Nat} {c : Value} {y : Option (DataW H × List MemPlace)} (h : DataW.trod enc Try.prog W base spare held fuel 2 [c] = y) (hy : y.isSome = true) : ∃ n : Int, c = .int .i64 n ∧ (-9223372036854775808 ≤ n ∧ n ≤ 9223372036854775807) := by
  obtain ⟨z, rfl⟩ := Option.isSome_iff_exists.1 hy
  obtain ⟨n, e, _, wn⟩ := DataW.trod_int Try.underlying2 h
  simp at e
  exact ⟨n, e, wf_i64 wn⟩
theorem isSome_of_len' {α : Type} {xs : List α} {n i : Nat} (h : xs.length = n) (hi : i < n) : (xs[i]?).isSome = true := by
  rw [List.getElem?_eq_getElem (by omega)]; rfl

set_option maxRecDepth 100000 in
/-- Two cells that read as a ratio. -/
theorem rat_of_cells {fuel : Nat} {c d : Value} {y : Option (DataW H × List MemPlace)} (h : DataW.trod enc Try.prog W base spare held fuel 82 [c, d] = y) (hy : y.isSome = true) :
    ∃ a b : Int, c = .int .i64 a ∧ d = .int .i64 b ∧ (-9223372036854775808 ≤ a ∧ a ≤ 9223372036854775807) ∧ (-9223372036854775808 ≤ b ∧ b ≤ 9223372036854775807) := by
  obtain ⟨z, rfl⟩ := Option.isSome_iff_exists.1 hy
  obtain ⟨xs, n, _, hx, hlen, hl, hg⟩ := DataW.trod_struct Try.underlying82 h
  have g0 : DataW.trod enc Try.prog W base spare held n 2 (([c, d].drop 0).take (Try.prog.cellsOf 2)) = xs[0]? := hg 0 _ rfl
  have g1 : DataW.trod enc Try.prog W base spare held n 2 (([c, d].drop 1).take (Try.prog.cellsOf 2)) = xs[1]? := hg 1 _ rfl
  rw [cellsI'] at g0 g1
  obtain ⟨a, e0, b0⟩ := i64_of_cell' g0 (isSome_of_len' hl (by decide))
  obtain ⟨b, e1, b1⟩ := i64_of_cell' g1 (isSome_of_len' hl (by decide))
  exact ⟨a, b, e0, e1, b0, b1⟩

set_option maxRecDepth 100000 in
/-- Four cells that read as a resistor. -/
theorem res_of_cells {fuel : Nat} {cs : List Value} {x : DataW H × List MemPlace}
    (h : DataW.trod enc Try.prog W base spare held fuel 84 cs = some x) : ∃ r : Res, cs = [.int .i64 r.a, .int .i64 r.b, .int .i64 r.num, .int .i64 r.den] ∧ r.ok := by
  obtain ⟨xs, n, _, hx, hlen, hl, hg⟩ := DataW.trod_struct Try.underlying84 h
  rw [cellsResistor_] at hlen
  match cs, hlen with
  | [c0, c1, c2, c3], _ =>
    have g0 : DataW.trod enc Try.prog W base spare held n 2 (([c0, c1, c2, c3].drop 0).take (Try.prog.cellsOf 2)) = xs[0]? := hg 0 _ rfl
    have g1 : DataW.trod enc Try.prog W base spare held n 2 (([c0, c1, c2, c3].drop 1).take (Try.prog.cellsOf 2)) = xs[1]? := hg 1 _ rfl
    have g2 : DataW.trod enc Try.prog W base spare held n 82 (([c0, c1, c2, c3].drop 2).take (Try.prog.cellsOf 82)) = xs[2]? := hg 2 _ rfl
    rw [cellsI'] at g0 g1
    rw [cellsRatio_] at g2
    obtain ⟨a, rfl, b0⟩ := i64_of_cell' g0 (isSome_of_len' hl (by decide))
    obtain ⟨b, rfl, b1⟩ := i64_of_cell' g1 (isSome_of_len' hl (by decide))
    obtain ⟨c, d, rfl, rfl, b2, b3⟩ := rat_of_cells g2 (isSome_of_len' hl (by decide))
    exact ⟨⟨a, b, c, d⟩, rfl, b0, b1, b2, b3⟩
end

set_option maxRecDepth 100000 in
theorem opened_net {H : Type} {enc : TypeId × Value → H} {W : World} {base b0 : Nat} {r : Reach} {spare : Nat → Bool} {held : Bool} {v : Value} {d : DataW H} {p : List MemPlace}
    (hv : Value.okWide Try.prog W r b0 24 v) (h : DataW.Trod enc Try.prog W base spare held 24 v d p) : ∃ x, IsNetV W v x := by
  obtain ⟨c0, c1, y0, y1, m, rfl, rfl, rfl, hy0, hy1⟩ := open_agg2 Try.underlying24 (by kernel_rfl) cellsNet hv h
  obtain ⟨a, e0, _, wa⟩ := DataW.trod_int Try.underlying2 hy0
  simp at e0
  subst e0
  rcases open_slice Try.underlying22 hy1 with h0 | ⟨a0, len, cap, m', n', D, Pl, hcs, hb, hl, hm, hmm, hx, hi⟩
  · simp at h0
    obtain ⟨rfl, _⟩ := h0
    exact ⟨(a, []), _, rfl, wf_i64 wa, .inl ⟨_, _, rfl, rfl⟩, by simp⟩
  · simp at hcs
    subst hcs
    by_cases h0 : len = 0
    · subst h0
      exact ⟨(a, []), _, rfl, wf_i64 wa, .inl ⟨_, _, rfl, rfl⟩, by simp⟩
    · have hlm : len ≤ m' := by rw [hmm]; split <;> omega
      rw [cellsResistor_] at hi
      obtain ⟨b, o, spot⟩ := a0
      have hspot : spot = none := by
        obtain ⟨cs', hc, ht⟩ := hi 0 (by omega)
        obtain ⟨x, rfl, _⟩ := res_of_cells ht
        obtain ⟨_, _, hcell⟩ := World.cells?_some hc
        have e0 := World.cell?_spot (hcell 0 (by omega))
        simpa [Addr.add] using e0
      subst hspot
      have each : ∀ i, i < len → ∃ x : Res, ResAt W b (o + i * 4) x ∧ x.ok := by
        intro i hil
        obtain ⟨cs', hc, ht⟩ := hi i (by omega)
        obtain ⟨x, rfl, hxok⟩ := res_of_cells ht
        obtain ⟨_, _, hcell⟩ := World.cells?_some hc
        have e0 := hcell 0 (by omega)
        have e1 := hcell 1 (by omega)
        have e2 := hcell 2 (by omega)
        have e3 := hcell 3 (by omega)
        rw [addr_add, addr_add] at e0 e1 e2 e3
        exact ⟨x, ⟨e0, e1, e2, e3⟩, hxok⟩
      obtain ⟨x0, _, _⟩ := each 0 (by omega)
      have pick : ∃ f : Nat → Res, ∀ i, i < len → ResAt W b (o + i * 4) (f i) ∧ (f i).ok := by
        refine ⟨fun i => if h : i < len then Classical.choose (each i h) else x0, fun i h => ?_⟩
        simp only [h, dite_true]
        exact Classical.choose_spec (each i h)
      obtain ⟨f, hf⟩ := pick
      refine ⟨(a, (List.range len).map f), _, rfl, wf_i64 wa, .inr ⟨b, o, cap, by simp, by simpa using hl, hm, ?_⟩, ?_⟩
      · intro i x hx
        rw [List.getElem?_map] at hx
        obtain ⟨j, hj, rfl⟩ := Option.map_eq_some_iff.1 hx
        obtain ⟨hlt, e⟩ := List.getElem?_eq_some_iff.1 hj
        simp at hlt e
        subst e
        exact (hf i hlt).1
      · intro r hr
        obtain ⟨i, hi', rfl⟩ := List.mem_map.1 hr
        exact (hf i (List.mem_range.1 hi')).2
end Go.Proofs.Ytljlcjficjefdaa
