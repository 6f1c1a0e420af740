/- Contracts of the functions of package laws over a coloring. -/
import Derived.Test.YtahlojnkfppcpaaGreatBase
import Derived.Test.YtahlojnkfppcpaaGreatDevs
namespace Go.Proofs.YtahlojnkfppcpaaGreat
open Go.RowKit
set_option linter.unusedVariables false
set_option linter.unusedSimpArgs false

/-- A value that reads as these two lists. -/
def CoV (w : World) (v : Value) (x : List Int × List Int) : Prop := ∃ s1 s2, v = .agg #[s1, s2] ∧ IntSl w s1 x.1 ∧ IntSl w s2 x.2
theorem CoV.by {w w1 : World} {v : Value} {x : List Int × List Int} (hb : Below w.heap.size w w1) (h : CoV w v x) : CoV w1 v x := by
  obtain ⟨s1, s2, h1, h2, h3⟩ := h; exact ⟨s1, s2, h1, h2.by hb, h3.by hb⟩
theorem CoV.sized {w : World} {v : Value} {x : List Int × List Int} (h : CoV w v x) : ∃ a c a' c', v = .agg #[.slice a x.1.length c, .slice a' x.2.length c'] := by
  obtain ⟨s1, s2, rfl, hd, hp⟩ := h
  obtain ⟨a, c, rfl⟩ := hd.len
  obtain ⟨a', c', rfl⟩ := hp.len
  exact ⟨a, c, a', c', rfl⟩

set_option maxRecDepth 100000 in
set_option maxHeartbeats 2000000 in
theorem eqColoring_refl (v1 v2 : Value) (x : List Int × List Int) (w : World) (h1 : CoV w v1 x) (h2 : CoV w v2 x) :
    Calls Tryz.prog 8 #[v1, v2] w fun e w' => e = .returned (.bool true) ∧ Below w.heap.size w w' := by
  obtain ⟨s1, s2, rfl, hd, hp⟩ := h1
  obtain ⟨t1, t2, rfl, hd', hp'⟩ := h2
  obtain ⟨ds, ps⟩ := x
  dsimp only at hd hp hd' hp' ⊢
  have HD := Lib.hid (fun s1 s2 w h h' => eqInt64S_refl s1 s2 ds w h h')
  have HP := Lib.hid (fun s1 s2 w h h' => eqInt64S_refl s1 s2 ps w h h')
  have H1 := Lib.hid hd
  have H2 := Lib.hid hp
  have H3 := Lib.hid hd'
  have H4 := Lib.hid hp'
  obtain ⟨a, c, rfl⟩ := hd.len
  obtain ⟨a', c', rfl⟩ := hp.len
  obtain ⟨b, d, rfl⟩ := hd'.len
  obtain ⟨b', d', rfl⟩ := hp'.len
  clear hd hp hd' hp'
  go_enter Tryz.func8, Tryz.ntmps8
  go_wp2_with fail
  refine (HD.out _ _ _ (H1.out.by (by ((repeat (first | (with_reducible exact Below.refl _ _) | (with_reducible refine below_drewN ?_ _) | (with_reducible refine Below.drew ?_) | (with_reducible refine below_al ?_ _) | (with_reducible refine below_on (by assumption) ?_) | ((with_reducible refine Below.setCell ?_ ?_ _); rotate_left; focus (first | omega | (simp; done) | (simp; omega))) | (with_reducible assumption))); done))) (H3.out.by (by ((repeat (first | (with_reducible exact Below.refl _ _) | (with_reducible refine below_drewN ?_ _) | (with_reducible refine Below.drew ?_) | (with_reducible refine below_al ?_ _) | (with_reducible refine below_on (by assumption) ?_) | ((with_reducible refine Below.setCell ?_ ?_ _); rotate_left; focus (first | omega | (simp; done) | (simp; omega))) | (with_reducible assumption))); done)))).mono ?_
  rintro e w1 ⟨rfl, m, rfl⟩
  go_wp2_with fail
  refine (HP.out _ _ _ (H2.out.by (by ((repeat (first | (with_reducible exact Below.refl _ _) | (with_reducible refine below_drewN ?_ _) | (with_reducible refine Below.drew ?_) | (with_reducible refine below_al ?_ _) | (with_reducible refine below_on (by assumption) ?_) | ((with_reducible refine Below.setCell ?_ ?_ _); rotate_left; focus (first | omega | (simp; done) | (simp; omega))) | (with_reducible assumption))); done))) (H4.out.by (by ((repeat (first | (with_reducible exact Below.refl _ _) | (with_reducible refine below_drewN ?_ _) | (with_reducible refine Below.drew ?_) | (with_reducible refine below_al ?_ _) | (with_reducible refine below_on (by assumption) ?_) | ((with_reducible refine Below.setCell ?_ ?_ _); rotate_left; focus (first | omega | (simp; done) | (simp; omega))) | (with_reducible assumption))); done)))).mono ?_
  rintro e w1 ⟨rfl, m', rfl⟩
  go_wp2
  go_ret
  exact ⟨rfl, (by ((repeat (first | (with_reducible exact Below.refl _ _) | (with_reducible refine below_drewN ?_ _) | (with_reducible refine Below.drew ?_) | (with_reducible refine below_al ?_ _) | (with_reducible refine below_on (by assumption) ?_) | ((with_reducible refine Below.setCell ?_ ?_ _); rotate_left; focus (first | omega | (simp; done) | (simp; omega))) | (with_reducible assumption))); done))⟩
end Go.Proofs.YtahlojnkfppcpaaGreat
namespace Go.Proofs.YtahlojnkfppcpaaGreat
open Go.ChangeShapes Go.WideShapes Go.ChangeAt Go.RowKit Go.Joins Go.Deep

/-- A coloring of package laws that came in, by value. -/
def IsCoV (W : World) (v : Value) (x : List Int × List Int) : Prop := CoV W v x ∧ (∀ z ∈ x.1, Fits z) ∧ ∀ z ∈ x.2, Fits z
end Go.Proofs.YtahlojnkfppcpaaGreat
