/- l28Series and serial at devices of a valid netlist. -/
import Derived.Test.YtnchhdhlhlcejaaSerial
namespace Go.Proofs.Ytnchhdhlhlcejaa
open Go.RowKit
set_option linter.unusedVariables false
set_option linter.unusedSimpArgs false

set_option maxRecDepth 100000 in
set_option maxHeartbeats 1000000 in
theorem l28Series_kind (n : Nl) (x y : Dv) (v sx sy : Value) (w : World) (hv : NlV w v n) (h : IntSl w sx x.pins) (h' : IntSl w sy y.pins) (hk : x.kind ≠ y.kind) :
    Calls Try.prog 42 #[v, .agg #[.int .i64 x.kind, sx, .int .i64 x.wd, .int .i64 x.len], .agg #[.int .i64 y.kind, sy, .int .i64 y.wd, .int .i64 y.len]] w (SerPost n x y w) := by
  have hsb := serB_pre (n := n) (preB_kind hk)
  have HPO2 := Lib.hid (show SerPost n x y w = fun e w' => ∃ r1 : Int, e = .returned (.tuple #[.int .i64 r1, .bool (serB n x y)]) ∧ (serB n x y = true → r1 = serN x y) ∧ Below w.heap.size w w' from rfl)
  rw [hsb] at HPO2
  obtain ⟨an, cn, an', cn', rfl⟩ := hv.sized
  obtain ⟨a, c, rfl⟩ := h.len
  obtain ⟨a', c', rfl⟩ := h'.len
  generalize SerPost n x y w = PP at *
  have hk' : (x.kind != y.kind) = true := by simpa using hk
  clear hv h h' hk hsb
  go_enter Try.func42, Try.ntmps42
  go_wp2
  rw [HPO2.out]
  exact ⟨0, rfl, (fun h => by cases h), (by ((repeat (first | (with_reducible exact Below.refl _ _) | (with_reducible refine below_drewN ?_ _) | (with_reducible refine Below.drew ?_) | (with_reducible refine below_al ?_ _) | (with_reducible refine below_on (by assumption) ?_) | ((with_reducible refine Below.setCell ?_ ?_ _); rotate_left; focus (first | omega | (simp; done) | (simp; omega))) | (with_reducible assumption))); done))⟩

set_option maxRecDepth 100000 in
set_option maxHeartbeats 1000000 in
theorem serial_kind (n : Nl) (x y : Dv) (v su sx sy : Value) (w : World) (hv : NlV w v n) (h : IntSl w sx x.pins) (h' : IntSl w sy y.pins) (hk : x.kind ≠ y.kind) :
    Calls Try.prog 45 #[v, su, .agg #[.int .i64 x.kind, sx, .int .i64 x.wd, .int .i64 x.len], .agg #[.int .i64 y.kind, sy, .int .i64 y.wd, .int .i64 y.len]] w (SerPost n x y w) := by
  have hsb := serB_pre (n := n) (preB_kind hk)
  have HPO2 := Lib.hid (show SerPost n x y w = fun e w' => ∃ r1 : Int, e = .returned (.tuple #[.int .i64 r1, .bool (serB n x y)]) ∧ (serB n x y = true → r1 = serN x y) ∧ Below w.heap.size w w' from rfl)
  rw [hsb] at HPO2
  obtain ⟨an, cn, an', cn', rfl⟩ := hv.sized
  obtain ⟨a, c, rfl⟩ := h.len
  obtain ⟨a', c', rfl⟩ := h'.len
  generalize SerPost n x y w = PP at *
  have hk' : (x.kind != y.kind) = true := by simpa using hk
  clear hv h h' hk hsb
  go_enter Try.func45, Try.ntmps45
  go_wp2
  rw [HPO2.out]
  exact ⟨0, rfl, (fun h => by cases h), (by ((repeat (first | (with_reducible exact Below.refl _ _) | (with_reducible refine below_drewN ?_ _) | (with_reducible refine Below.drew ?_) | (with_reducible refine below_al ?_ _) | (with_reducible refine below_on (by assumption) ?_) | ((with_reducible refine Below.setCell ?_ ?_ _); rotate_left; focus (first | omega | (simp; done) | (simp; omega))) | (with_reducible assumption))); done))⟩

theorem cur_in {nets : Int} {x : Dv} (h : dvB nets x = true) : (0 ≤ curP x.pins ∧ curP x.pins < nets) ∧ (0 ≤ curQ x.pins ∧ curQ x.pins < nets) := by
  obtain ⟨_, _, hin⟩ := dvB_pins h
  rcases shp_of h with ⟨_, p, q, hp⟩ | ⟨_, g, p, q, hp⟩
  · rw [hp] at hin ⊢
    exact ⟨hin p (by simp), hin q (by simp)⟩
  · rw [hp] at hin ⊢
    exact ⟨hin p (by simp), hin q (by simp)⟩
end Go.Proofs.Ytnchhdhlhlcejaa
