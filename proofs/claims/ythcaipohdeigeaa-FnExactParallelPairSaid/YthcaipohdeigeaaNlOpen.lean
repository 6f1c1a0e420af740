/- The opener of a netlist that came in. -/
import Derived.Test.YthcaipohdeigeaaDevOpen
import Derived.Test.YthcaipohdeigeaaNl3
import Derived.Deep.Slices
namespace Go.Proofs.Ythcaipohdeigeaa
open Go.ChangeShapes Go.WideShapes Go.ChangeAt Go.RowKit Go.Joins Go.Deep

theorem pick_list {α : Type} (At : Nat → α → Prop) (ok : α → Prop) (len : Nat) (each : ∀ i, i < len → ∃ x, At i x ∧ ok x) : ∃ xs : List α, xs.length = len ∧ (∀ (i : Nat) x, xs[i]? = some x → At i x) ∧ ∀ r ∈ xs, ok r := by
  induction len with
  | zero => exact ⟨[], rfl, by simp, by simp⟩
  | succ n ih =>
    obtain ⟨xs, h1, h2, h3⟩ := ih (fun i hi => each i (by omega))
    obtain ⟨x, ha, ho⟩ := each n (by omega)
    refine ⟨xs ++ [x], by simp [h1], ?_, ?_⟩
    · intro i y hy
      by_cases hi : i < n
      · rw [List.getElem?_append_left (by omega)] at hy; exact h2 i y hy
      · have : i < (xs ++ [x]).length := (List.getElem?_eq_some_iff.1 hy).1
        simp [h1] at this
        obtain rfl : i = n := by omega
        rw [List.getElem?_append_right (by omega)] at hy
        simp [h1] at hy
        subst hy; exact ha
    · intro r hr
      rcases List.mem_append.1 hr with hr | hr
      · exact h3 r hr
      · simp at hr; subst hr; exact ho

/-- A netlist of package laws that came in, by value. -/
def IsNlV (W : World) (v : Value) (x : Nl) : Prop := NlV W v x ∧ Fits x.nets ∧ (∀ d ∈ x.ds, d.ok) ∧ ∀ p ∈ x.ps, p.ok
theorem cellsNl : Try.prog.cellsOf 37 = 3 := by kernel_rfl
theorem cellsPt : Try.prog.cellsOf 103 = 2 := by kernel_rfl
theorem cellsIs : Try.prog.cellsOf 22 = 1 := by kernel_rfl
theorem cellsI : Try.prog.cellsOf 2 = 1 := by kernel_rfl
theorem cellsStr : Try.prog.cellsOf 9 = 1 := by kernel_rfl

section
variable {H : Type} {enc : TypeId × Value → H} {W : World} {base : Nat} {spare : Nat → Bool} {held : Bool}
theorem i64_of_cell {fuel : Nat} {c : Value} {y : Option (DataW H × List MemPlace)} (h : DataW.trod enc Try.prog W base spare held fuel 2 [c] = y) (hy : y.isSome = true) : ∃ n : Int, c = .int .i64 n ∧ Fits n := by
  obtain ⟨z, rfl⟩ := Option.isSome_iff_exists.1 hy
  obtain ⟨n, e, _, wn⟩ := DataW.trod_int Try.underlying2 h
  simp at e
  exact ⟨n, e, wf_i64 wn⟩
theorem str_of_cell {fuel : Nat} {c : Value} {y : Option (DataW H × List MemPlace)} (h : DataW.trod enc Try.prog W base spare held fuel 9 [c] = y) (hy : y.isSome = true) : ∃ s : ByteArray, c = .string s ∧ s.size ≤ 9223372036854775807 := by
  obtain ⟨z, rfl⟩ := Option.isSome_iff_exists.1 hy
  obtain ⟨n, e, _, wn⟩ := DataW.trod_string Try.underlying9 h
  simp at e
  exact ⟨n, e, by unfold maxLen at wn; omega⟩
theorem isSome_of_len {α : Type} {xs : List α} {n i : Nat} (h : xs.length = n) (hi : i < n) : (xs[i]?).isSome = true := by
  rw [List.getElem?_eq_getElem (by omega)]; rfl

set_option maxRecDepth 100000 in
/-- Four cells that read as a device. -/
theorem dev_of_cells {fuel : Nat} {cs : List Value} {x : DataW H × List MemPlace}
    (h : DataW.trod enc Try.prog W base spare held fuel 24 cs = some x) : ∃ (d : Dv) (sv : Value), cs = [.int .i64 d.kind, sv, .int .i64 d.wd, .int .i64 d.len] ∧ IntSl W sv d.pins ∧ d.ok := by
  obtain ⟨xs, n, _, hx, hlen, hl, hg⟩ := DataW.trod_struct Try.underlying24 h
  rw [cellsDev] at hlen
  match cs, hlen with
  | [c0, c1, c2, c3], _ =>
    have g0 : DataW.trod enc Try.prog W base spare held n 2 (([c0, c1, c2, c3].drop 0).take (Try.prog.cellsOf 2)) = xs[0]? := hg 0 _ rfl
    have g1 : DataW.trod enc Try.prog W base spare held n 22 (([c0, c1, c2, c3].drop 1).take (Try.prog.cellsOf 22)) = xs[1]? := hg 1 _ rfl
    have g2 : DataW.trod enc Try.prog W base spare held n 2 (([c0, c1, c2, c3].drop 2).take (Try.prog.cellsOf 2)) = xs[2]? := hg 2 _ rfl
    have g3 : DataW.trod enc Try.prog W base spare held n 2 (([c0, c1, c2, c3].drop 3).take (Try.prog.cellsOf 2)) = xs[3]? := hg 3 _ rfl
    rw [cellsI] at g0 g2 g3
    rw [cellsIs] at g1
    obtain ⟨a, rfl, b0⟩ := i64_of_cell g0 (isSome_of_len hl (by decide))
    obtain ⟨b, rfl, b2⟩ := i64_of_cell g2 (isSome_of_len hl (by decide))
    obtain ⟨c, rfl, b3⟩ := i64_of_cell g3 (isSome_of_len hl (by decide))
    obtain ⟨z, hz⟩ := Option.isSome_iff_exists.1 (isSome_of_len hl (i := 1) (by decide))
    rw [hz] at g1
    obtain ⟨zs, h1, h2⟩ := ints_of_cell g1
    exact ⟨⟨a, zs, b, c⟩, c1, rfl, h1, b0, b2, b3, h2⟩

set_option maxRecDepth 100000 in
/-- Two cells that read as a port. -/
theorem port_of_cells {fuel : Nat} {cs : List Value} {x : DataW H × List MemPlace}
    (h : DataW.trod enc Try.prog W base spare held fuel 103 cs = some x) : ∃ p : Pt, cs = [.string p.name, .int .i64 p.net] ∧ p.ok := by
  obtain ⟨xs, n, _, hx, hlen, hl, hg⟩ := DataW.trod_struct Try.underlying103 h
  rw [cellsPt] at hlen
  match cs, hlen with
  | [c0, c1], _ =>
    have g0 : DataW.trod enc Try.prog W base spare held n 9 (([c0, c1].drop 0).take (Try.prog.cellsOf 9)) = xs[0]? := hg 0 _ rfl
    have g1 : DataW.trod enc Try.prog W base spare held n 2 (([c0, c1].drop 1).take (Try.prog.cellsOf 2)) = xs[1]? := hg 1 _ rfl
    rw [cellsStr] at g0
    rw [cellsI] at g1
    obtain ⟨s, rfl, b0⟩ := str_of_cell g0 (isSome_of_len hl (by decide))
    obtain ⟨a, rfl, b1⟩ := i64_of_cell g1 (isSome_of_len hl (by decide))
    exact ⟨⟨s, a⟩, rfl, b0, b1⟩

set_option maxRecDepth 100000 in
theorem devs_of_cell {fuel : Nat} {c : Value} {y : DataW H × List MemPlace} (h : DataW.trod enc Try.prog W base spare held fuel 34 [c] = some y) : ∃ ds : List Dv, DvSl W c ds ∧ ∀ d ∈ ds, d.ok := by
  rcases open_slice Try.underlying34 h with h0 | ⟨a0, len, cap, m', n', D, Pl, hcs, hb, hl, hm, hmm, hx, hi⟩
  · simp at h0
    obtain ⟨rfl, _⟩ := h0
    exact ⟨[], .inl ⟨_, _, rfl, rfl⟩, by simp⟩
  · simp at hcs
    subst hcs
    by_cases h0 : len = 0
    · subst h0
      exact ⟨[], .inl ⟨_, _, rfl, rfl⟩, by simp⟩
    · have hlm : len ≤ m' := by rw [hmm]; split <;> omega
      rw [cellsDev] at hi
      obtain ⟨b, o, spot⟩ := a0
      have hspot : spot = none := by
        obtain ⟨cs', hc, ht⟩ := hi 0 (by omega)
        obtain ⟨x, sv, rfl, _⟩ := dev_of_cells ht
        obtain ⟨_, _, hcell⟩ := World.cells?_some hc
        have e0 := World.cell?_spot (hcell 0 (by omega))
        simpa [Addr.add] using e0
      subst hspot
      have each : ∀ i, i < len → ∃ x : Dv, DvAt W b (o + i * 4) x ∧ x.ok := by
        intro i hil
        obtain ⟨cs', hc, ht⟩ := hi i (by omega)
        obtain ⟨x, sv, rfl, hS, hxok⟩ := dev_of_cells ht
        obtain ⟨_, _, hcell⟩ := World.cells?_some hc
        have e0 := hcell 0 (by omega)
        have e1 := hcell 1 (by omega)
        have e2 := hcell 2 (by omega)
        have e3 := hcell 3 (by omega)
        rw [addr_add, addr_add] at e0 e1 e2 e3
        exact ⟨x, ⟨sv, e0, e1, e2, e3, hS⟩, hxok⟩
      obtain ⟨xs, x1, x2, x3⟩ := pick_list (fun i => DvAt W b (o + i * 4)) Dv.ok len each
      exact ⟨xs, .inr ⟨b, o, cap, by rw [x1], by rw [x1]; exact hl, hm, x2⟩, x3⟩

set_option maxRecDepth 100000 in
theorem ports_of_cell {fuel : Nat} {c : Value} {y : DataW H × List MemPlace} (h : DataW.trod enc Try.prog W base spare held fuel 35 [c] = some y) : ∃ ps : List Pt, PtSl W c ps ∧ ∀ d ∈ ps, d.ok := by
  rcases open_slice Try.underlying35 h with h0 | ⟨a0, len, cap, m', n', D, Pl, hcs, hb, hl, hm, hmm, hx, hi⟩
  · simp at h0
    obtain ⟨rfl, _⟩ := h0
    exact ⟨[], .inl ⟨_, _, rfl, rfl⟩, by simp⟩
  · simp at hcs
    subst hcs
    by_cases h0 : len = 0
    · subst h0
      exact ⟨[], .inl ⟨_, _, rfl, rfl⟩, by simp⟩
    · have hlm : len ≤ m' := by rw [hmm]; split <;> omega
      rw [cellsPt] at hi
      obtain ⟨b, o, spot⟩ := a0
      have hspot : spot = none := by
        obtain ⟨cs', hc, ht⟩ := hi 0 (by omega)
        obtain ⟨x, rfl, _⟩ := port_of_cells ht
        obtain ⟨_, _, hcell⟩ := World.cells?_some hc
        have e0 := World.cell?_spot (hcell 0 (by omega))
        simpa [Addr.add] using e0
      subst hspot
      have each : ∀ i, i < len → ∃ x : Pt, PtAt W b (o + i * 2) x ∧ x.ok := by
        intro i hil
        obtain ⟨cs', hc, ht⟩ := hi i (by omega)
        obtain ⟨x, rfl, hxok⟩ := port_of_cells ht
        obtain ⟨_, _, hcell⟩ := World.cells?_some hc
        have e0 := hcell 0 (by omega)
        have e1 := hcell 1 (by omega)
        rw [addr_add, addr_add] at e0 e1
        exact ⟨x, ⟨e0, e1⟩, hxok⟩
      obtain ⟨xs, x1, x2, x3⟩ := pick_list (fun i => PtAt W b (o + i * 2)) Pt.ok len each
      exact ⟨xs, .inr ⟨b, o, cap, by rw [x1], by rw [x1]; exact hl, hm, x2⟩, x3⟩
end

set_option maxRecDepth 100000 in
theorem opened_nl {H : Type} {enc : TypeId × Value → H} {W : World} {base b0 : Nat} {r : Reach} {spare : Nat → Bool} {held : Bool} {v : Value} {d : DataW H} {p : List MemPlace}
    (hv : Value.okWide Try.prog W r b0 37 v) (h : DataW.Trod enc Try.prog W base spare held 37 v d p) : ∃ x, IsNlV W v x := by
  obtain ⟨c0, c1, c2, y0, y1, y2, m, rfl, rfl, rfl, hy0, hy1, hy2⟩ := open_agg3 Try.underlying37 (by kernel_rfl) cellsNl hv h
  obtain ⟨a, e0, _, wa⟩ := DataW.trod_int Try.underlying2 hy0
  simp at e0
  subst e0
  obtain ⟨ds, h1, h2⟩ := devs_of_cell hy1
  obtain ⟨ps, h3, h4⟩ := ports_of_cell hy2
  exact ⟨⟨a, ds, ps⟩, ⟨_, _, rfl, h1, h3⟩, wf_i64 wa, h2, h4⟩
end Go.Proofs.Ythcaipohdeigeaa
