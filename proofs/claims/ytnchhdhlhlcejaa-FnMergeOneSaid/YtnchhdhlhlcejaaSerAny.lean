/- l28Series and serial at devices of a valid netlist. -/
import Derived.Test.YtnchhdhlhlcejaaSerial
namespace Go.Proofs.Ytnchhdhlhlcejaa
open Go.RowKit
set_option linter.unusedVariables false
set_option linter.unusedSimpArgs false

set_option maxRecDepth 100000 in
set_option maxHeartbeats 1000000 in
theorem l28Series_kind (n : Nl) (x y : Dv) (v sx sy : Value) (w : World) (hv : NlV w v n) (h : IntSl w sx x.pins) (h' : IntSl w sy y.pins) (hk : x.kind ≠ y.kind) :
    Calls Try.prog 42 #[v, .agg #[.int .i64 x.kind, sx, .int .i64 x.wd, .int .i64 x.len], .agg #[.int .i64 y.kind, sy, .int .i64 y.wd, .int .i64 y.len]] w (SerPost n x y w) := by
  have hsb := serB_pre (n := n) (preB_kind hk)
  have HPO2 := Lib.hid (show SerPost n x y w = fun e w' => ∃ r1 : Int, e = .returned (.tuple #[.int .i64 r1, .bool (serB n x y)]) ∧ (serB n x y = true → r1 = serN x y) ∧ Below w.heap.size w w' from rfl)
  rw [hsb] at HPO2
  obtain ⟨an, cn, an', cn', rfl⟩ := hv.sized
  obtain ⟨a, c, rfl⟩ := h.len
  obtain ⟨a', c', rfl⟩ := h'.len
  generalize SerPost n x y w = PP at *
  have hk' : (x.kind != y.kind) = true := by simpa using hk
  clear hv h h' hk hsb
  go_enter Try.func42, Try.ntmps42
  go_wp2
  rw [HPO2.out]
  exact ⟨0, rfl, (fun h => by cases h), (by ((repeat (first | (with_reducible exact Below.refl _ _) | (with_reducible refine below_drewN ?_ _) | (with_reducible refine Below.drew ?_) | (with_reducible refine below_al ?_ _) | (with_reducible refine below_on (by assumption) ?_) | ((with_reducible refine Below.setCell ?_ ?_ _); rotate_left; focus (first | omega | (simp; done) | (simp; omega))) | (with_reducible assumption))); done))⟩

set_option maxRecDepth 100000 in
set_option maxHeartbeats 1000000 in
theorem serial_kind (n : Nl) (x y : Dv) (v su sx sy : Value) (w : World) (hv : NlV w v n) (h : IntSl w sx x.pins) (h' : IntSl w sy y.pins) (hk : x.kind ≠ y.kind) :
    Calls Try.prog 45 #[v, su, .agg #[.int .i64 x.kind, sx, .int .i64 x.wd, .int .i64 x.len], .agg #[.int .i64 y.kind, sy, .int .i64 y.wd, .int .i64 y.len]] w (SerPost n x y w) := by
  have hsb := serB_pre (n := n) (preB_kind hk)
  have HPO2 := Lib.hid (show SerPost n x y w = fun e w' => ∃ r1 : Int, e = .returned (.tuple #[.int .i64 r1, .bool (serB n x y)]) ∧ (serB n x y = true → r1 = serN x y) ∧ Below w.heap.size w w' from rfl)
  rw [hsb] at HPO2
  obtain ⟨an, cn, an', cn', rfl⟩ := hv.sized
  obtain ⟨a, c, rfl⟩ := h.len
  obtain ⟨a', c', rfl⟩ := h'.len
  generalize SerPost n x y w = PP at *
  have hk' : (x.kind != y.kind) = true := by simpa using hk
  clear hv h h' hk hsb
  go_enter Try.func45, Try.ntmps45
  go_wp2
  rw [HPO2.out]
  exact ⟨0, rfl, (fun h => by cases h), (by ((repeat (first | (with_reducible exact Below.refl _ _) | (with_reducible refine below_drewN ?_ _) | (with_reducible refine Below.drew ?_) | (with_reducible refine below_al ?_ _) | (with_reducible refine below_on (by assumption) ?_) | ((with_reducible refine Below.setCell ?_ ?_ _); rotate_left; focus (first | omega | (simp; done) | (simp; omega))) | (with_reducible assumption))); done))⟩

theorem l28Series_any (n : Nl) (x y : Dv) (v sx sy : Value) (w : World) (hn : nlB n = true) (hx : x ∈ n.ds) (hy : y ∈ n.ds) (hv : NlV w v n) (h : IntSl w sx x.pins) (h' : IntSl w sy y.pins) :
    Calls Try.prog 42 #[v, .agg #[.int .i64 x.kind, sx, .int .i64 x.wd, .int .i64 x.len], .agg #[.int .i64 y.kind, sy, .int .i64 y.wd, .int .i64 y.len]] w (SerPost n x y w) := by
  obtain ⟨_, hl, hpl, hdv, _⟩ := nlB_facts hn
  have h3 : ∀ d ∈ n.ds, d.pins.length ≤ 3 := fun d hd => (dvB_pins (hdv d hd)).1
  by_cases hk : x.kind = y.kind
  · have sX := shp_of (hdv x hx)
    have sY := shp_of (hdv y hy)
    rcases sX with ⟨k2, p, q, hp⟩ | ⟨k2, g, p, q, hp⟩ <;> rcases sY with ⟨k3, r, s, hr⟩ | ⟨k3, f, r, s, hr⟩
    · exact l28Series_two n x y p q r s v sx sy w hv hp hr h h' (.inl ⟨k2, p, q, hp⟩) (.inl ⟨k3, r, s, hr⟩) hk.symm k2 hl h3 hpl
    · omega
    · omega
    · exact l28Series_three n x y p q r s g f v sx sy w hv hp hr h h' (.inr ⟨k2, g, p, q, hp⟩) (.inr ⟨k3, f, r, s, hr⟩) hk.symm (by omega) hl h3 hpl
  · exact l28Series_kind n x y v sx sy w hv h h' hk

theorem cur_in {nets : Int} {x : Dv} (h : dvB nets x = true) : (0 ≤ curP x.pins ∧ curP x.pins < nets) ∧ (0 ≤ curQ x.pins ∧ curQ x.pins < nets) := by
  obtain ⟨_, _, hin⟩ := dvB_pins h
  rcases shp_of h with ⟨_, p, q, hp⟩ | ⟨_, g, p, q, hp⟩
  · rw [hp] at hin ⊢
    exact ⟨hin p (by simp), hin q (by simp)⟩
  · rw [hp] at hin ⊢
    exact ⟨hin p (by simp), hin q (by simp)⟩
theorem serial_any (n : Nl) (m : Nat) (x y : Dv) (v su sx sy : Value) (w : World) (hn : nlB n = true) (hm : n.nets = (m : Int)) (hx : x ∈ n.ds) (hy : y ∈ n.ds) (hv : NlV w v n) (hu : IntSl w su (degs m n.ds)) (h : IntSl w sx x.pins) (h' : IntSl w sy y.pins) :
    Calls Try.prog 45 #[v, su, .agg #[.int .i64 x.kind, sx, .int .i64 x.wd, .int .i64 x.len], .agg #[.int .i64 y.kind, sy, .int .i64 y.wd, .int .i64 y.len]] w (SerPost n x y w) := by
  obtain ⟨hn24, hl, hpl, hdv, _⟩ := nlB_facts hn
  by_cases hk : x.kind = y.kind
  · obtain ⟨⟨p0, p1⟩, q0, q1⟩ := cur_in (hdv x hx)
    exact serial_same n m x y (curP x.pins).toNat (curQ x.pins).toNat su v sx sy w hv hu h h' (shp_of (hdv x hx)) (shp_of (hdv y hy)) hk (by omega) (by omega) (by omega) (by omega) (by omega) hpl
  · exact serial_kind n x y v su sx sy w hv h h' hk
end Go.Proofs.Ytnchhdhlhlcejaa
