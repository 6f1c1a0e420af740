/- A store into a netlist's own block leaves the netlist's rows: no device, port or list of pins lies there. -/
import Derived.Test.YtglddnkpccgchaaDoorNls
namespace Go.Proofs.YtglddnkpccgchaaDoor
open Go.RowKit
set_option linter.unusedVariables false
set_option linter.unusedSimpArgs false

section
variable {w : World} {NB k n1 c1 n2 c2 : Nat} {z : Int} {a1 a2 : Option Addr} {u : Value} {T : TypeId}
theorem nb_int (h : Blk w NB #[.int .i64 z, .slice a1 n1 c1, .slice a2 n2 c2] T) {o : Nat} {y : Int} (hc : w.cell? ⟨NB, o, none⟩ = some (.int .i64 y)) : o = 0 := by
  rw [h.cell] at hc
  match o, hc with
  | 0, _ => rfl
  | 1, hc => simp at hc
  | 2, hc => simp at hc
  | o + 3, hc => simp at hc
theorem nb_str (h : Blk w NB #[.int .i64 z, .slice a1 n1 c1, .slice a2 n2 c2] T) {o : Nat} {y : ByteArray} (hc : w.cell? ⟨NB, o, none⟩ = some (.string y)) : False := by
  rw [h.cell] at hc
  match o, hc with
  | 0, hc => simp at hc
  | 1, hc => simp at hc
  | 2, hc => simp at hc
  | o + 3, hc => simp at hc
theorem cell_far {g : Nat} (hne : ¬ NB = g) (o : Nat) : (w.setCell ⟨NB, k, none⟩ u).cell? ⟨g, o, none⟩ = w.cell? ⟨g, o, none⟩ := World.cell?_setCell_far _ _ _ _ hne
theorem IntSl.offN {v : Value} {zs : List Int} (h : Blk w NB #[.int .i64 z, .slice a1 n1 c1, .slice a2 n2 c2] T) (hz : 2 ≤ zs.length) (hx : IntSl w v zs) : IntSl (w.setCell ⟨NB, k, none⟩ u) v zs := by
  rcases hx with ⟨a, c, h1, h2⟩ | ⟨b, off, cap, h1, h2, h3, h4⟩
  · exact .inl ⟨a, c, h1, h2⟩
  · refine .inr ⟨b, off, cap, h1, h2, h3, fun i y hy => ?_⟩
    have hne : ¬ NB = b := by
      intro e
      subst e
      obtain ⟨x0, e0⟩ : ∃ x, zs[0]? = some x := ⟨_, List.getElem?_eq_getElem (by omega)⟩
      obtain ⟨x1, e1⟩ : ∃ x, zs[1]? = some x := ⟨_, List.getElem?_eq_getElem (by omega)⟩
      have := nb_int h (h4 0 x0 e0)
      have := nb_int h (h4 1 x1 e1)
      omega
    rw [cell_far hne]
    exact h4 i y hy
theorem DvSl.offN {v : Value} {xs : List Dv} (h : Blk w NB #[.int .i64 z, .slice a1 n1 c1, .slice a2 n2 c2] T) (hz : ∀ d ∈ xs, 2 ≤ d.pins.length) (hx : DvSl w v xs) : DvSl (w.setCell ⟨NB, k, none⟩ u) v xs := by
  rcases hx with ⟨a, c, h1, h2⟩ | ⟨b, off, cap, h1, h2, h3, h4⟩
  · exact .inl ⟨a, c, h1, h2⟩
  · refine .inr ⟨b, off, cap, h1, h2, h3, fun i y hy => ?_⟩
    obtain ⟨sv, g1, g2, g3, g4, g5⟩ := h4 i y hy
    have hne : ¬ NB = b := by
      intro e
      subst e
      have := nb_int h g1
      have := nb_int h g3
      omega
    exact ⟨sv, by rw [cell_far hne]; exact g1, by rw [cell_far hne]; exact g2, by rw [cell_far hne]; exact g3, by rw [cell_far hne]; exact g4, IntSl.offN h (hz y (List.mem_of_getElem? hy)) g5⟩
theorem PtSl.offN {v : Value} {xs : List Pt} (h : Blk w NB #[.int .i64 z, .slice a1 n1 c1, .slice a2 n2 c2] T) (hx : PtSl w v xs) : PtSl (w.setCell ⟨NB, k, none⟩ u) v xs := by
  rcases hx with ⟨a, c, h1, h2⟩ | ⟨b, off, cap, h1, h2, h3, h4⟩
  · exact .inl ⟨a, c, h1, h2⟩
  · refine .inr ⟨b, off, cap, h1, h2, h3, fun i y hy => ?_⟩
    obtain ⟨g1, g2⟩ := h4 i y hy
    have hne : ¬ NB = b := by
      intro e
      subst e
      exact nb_str h g1
    exact ⟨by rw [cell_far hne]; exact g1, by rw [cell_far hne]; exact g2⟩
theorem NlV.offN {v : Value} {x : Nl} (h : Blk w NB #[.int .i64 z, .slice a1 n1 c1, .slice a2 n2 c2] T) (hz : ∀ d ∈ x.ds, 2 ≤ d.pins.length) (hx : NlV w v x) : NlV (w.setCell ⟨NB, k, none⟩ u) v x := by
  obtain ⟨s1, s2, rfl, hd, hp⟩ := hx
  exact ⟨s1, s2, rfl, hd.offN h hz, hp.offN h⟩
/-- A whole netlist put into the box. -/
theorem NlV.off3 {v : Value} {x : Nl} {z' : Int} {b1 b2 : Option Addr} {m1 d1 m2 d2 : Nat} (h : Blk w NB #[.int .i64 z, .slice a1 n1 c1, .slice a2 n2 c2] T) (hz : ∀ d ∈ x.ds, 2 ≤ d.pins.length) (hx : NlV w v x) :
    NlV (((w.setCell ⟨NB, 0, none⟩ (.int .i64 z')).setCell ⟨NB, 1, none⟩ (.slice b1 m1 d1)).setCell ⟨NB, 2, none⟩ (.slice b2 m2 d2)) v x := by
  have h1 : Blk (w.setCell ⟨NB, 0, none⟩ (.int .i64 z')) NB #[.int .i64 z', .slice a1 n1 c1, .slice a2 n2 c2] T := h.set 0 _
  have h2 : Blk ((w.setCell ⟨NB, 0, none⟩ (.int .i64 z')).setCell ⟨NB, 1, none⟩ (.slice b1 m1 d1)) NB #[.int .i64 z', .slice b1 m1 d1, .slice a2 n2 c2] T := h1.set 1 _
  exact ((hx.offN h hz).offN h1 hz).offN h2 hz
/-- The number of nets put into the box. -/
theorem NlV.off1 {s1 s2 : Value} {x : Nl} {z' : Int} (h : Blk w NB #[.int .i64 z, .slice a1 n1 c1, .slice a2 n2 c2] T) (hz : ∀ d ∈ x.ds, 2 ≤ d.pins.length) (hx : NlV w (.agg #[.int .i64 x.nets, s1, s2]) x) :
    NlV (w.setCell ⟨NB, 0, none⟩ (.int .i64 z')) (.agg #[.int .i64 z', s1, s2]) { x with nets := z' } := by
  obtain ⟨t1, t2, e, hd, hp⟩ := hx
  simp only [Value.agg.injEq, Array.mk.injEq, List.cons.injEq, and_true, true_and] at e
  obtain ⟨rfl, rfl⟩ := e
  exact ⟨s1, s2, rfl, hd.offN h hz, hp.offN h⟩
end
end Go.Proofs.YtglddnkpccgchaaDoor
