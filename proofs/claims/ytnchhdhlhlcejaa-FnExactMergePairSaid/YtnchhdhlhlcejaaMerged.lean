/- The program's merged: one contract. -/
import Derived.Test.YtnchhdhlhlcejaaMergeT
import Derived.Test.YtnchhdhlhlcejaaSerAny
namespace Go.Proofs.Ytnchhdhlhlcejaa
open Go.RowKit
set_option linter.unusedVariables false
set_option linter.unusedSimpArgs false

theorem merged_any (x y : Dv) (ser : Bool) (net : Int) (sx sy : Value) (w : World) (h : IntSl w sx x.pins) (h' : IntSl w sy y.pins) (hx : Shp x) (hy : Shp y)
    (pb : (0 ≤ curP x.pins ∧ curP x.pins ≤ 24) ∧ (0 ≤ curQ x.pins ∧ curQ x.pins ≤ 24)) (qb : (0 ≤ curP y.pins ∧ curP y.pins ≤ 24) ∧ (0 ≤ curQ y.pins ∧ curQ y.pins ≤ 24))
    (b1 : 1 ≤ x.wd ∧ x.wd ≤ 1000000) (b2 : 1 ≤ x.len ∧ x.len ≤ 1000000) (b3 : 1 ≤ y.wd ∧ y.wd ≤ 1000000) (b4 : 1 ≤ y.len ∧ y.len ≤ 1000000)
    (hs : ser = true → oneB x y = true ∧ net = serN x y) :
    Calls Try.prog 48 #[.agg #[.int .i64 x.kind, sx, .int .i64 x.wd, .int .i64 x.len], .agg #[.int .i64 y.kind, sy, .int .i64 y.wd, .int .i64 y.len], .int .i64 net, .bool ser] w
      fun e w' => ∃ pv, e = .returned (.agg #[.int .i64 (mgD x y ser).kind, pv, .int .i64 (mgD x y ser).wd, .int .i64 (mgD x y ser).len]) ∧ OwnR w' w.heap.size w'.heap.size pv (mgD x y ser).pins ∧ Below w.heap.size w w' := by
  cases ser with
  | false =>
    exact mergedPar_any x y net sx sy w h h' (by rcases hx with ⟨_, p, q, e⟩ | ⟨_, g, p, q, e⟩ <;> rw [e] <;> simp) b1 b2 b3 b4
  | true =>
    obtain ⟨h1, h2⟩ := hs rfl
    obtain ⟨m1, m2⟩ := serN_mem h1
    rw [← h2] at m1 m2
    have hn : 0 ≤ net ∧ net ≤ 24 := by
      rcases m1 with e | e <;> rw [e] <;> omega
    by_cases hk : x.kind = 2
    · exact mergedSerR_any x y net sx sy w h h' hx hy hk pb qb hn m1 m2 h2 b1 b2 b3 b4
    · exact mergedSerM_any x y net sx sy w h h' hx hy hk pb qb hn m1 m2 h2 b2 b4
end Go.Proofs.Ytnchhdhlhlcejaa
