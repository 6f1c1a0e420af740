/- The program's merged: parallel devices. -/
import Derived.Test.YtnchhdhlhlcejaaMergeM
import Derived.Test.YtnchhdhlhlcejaaGcdR
import Derived.Test.YtnchhdhlhlcejaaNorms
import Derived.Test.YtnchhdhlhlcejaaNlOwns
import Derived.Test.YtnchhdhlhlcejaaIntB
import Derived.BigRegion
namespace Go.Proofs.Ytnchhdhlhlcejaa
open Go.RowKit
set_option linter.unusedVariables false
set_option linter.unusedSimpArgs false

theorem OwnI.toR {w : World} {lo : Nat} {sv : Value} {zs : List Int} (h : OwnI w lo sv zs) : OwnR w lo w.heap.size sv zs := by
  rcases h with h | ⟨g, cap, cs, e1, e2, e3, e4, e5, e6⟩
  · exact .inl h
  · exact .inr ⟨g, cap, cs, e1, e2, e5.lt, e3, e4, e5, e6⟩
theorem mul_bd {a b : Int} (ha : 1 ≤ a) (ha' : a ≤ 1000000) (hb : 1 ≤ b) (hb' : b ≤ 1000000) : 1 ≤ a * b ∧ a * b ≤ 1000000000000 := by
  have h1 := Int.mul_le_mul ha' hb' (by omega) (by omega)
  have h2 := Int.mul_le_mul ha hb (by omega) (by omega)
  omega

set_option maxRecDepth 100000 in
set_option maxHeartbeats 2000000 in
theorem mergedPar_any (x y : Dv) (net : Int) (sx sy : Value) (w : World) (h : IntSl w sx x.pins) (h' : IntSl w sy y.pins) (hn : x.pins.length ≤ 3)
    (b1 : 1 ≤ x.wd ∧ x.wd ≤ 1000000) (b2 : 1 ≤ x.len ∧ x.len ≤ 1000000) (b3 : 1 ≤ y.wd ∧ y.wd ≤ 1000000) (b4 : 1 ≤ y.len ∧ y.len ≤ 1000000) :
    Calls Try.prog 48 #[.agg #[.int .i64 x.kind, sx, .int .i64 x.wd, .int .i64 x.len], .agg #[.int .i64 y.kind, sy, .int .i64 y.wd, .int .i64 y.len], .int .i64 net, .bool false] w
      fun e w' => ∃ pv, e = .returned (.agg #[.int .i64 x.kind, pv, .int .i64 (mgW x y false), .int .i64 (mgL x y false)]) ∧ OwnR w' w.heap.size w'.heap.size pv (mgPins x y false) ∧ Below w.heap.size w w' := by
  have hp : mgPins x y false = x.pins := by simp [mgPins]
  rw [hp]
  have HCP := Lib.hid (fun w h => copyDevice_any x.kind x.wd x.len sx x.pins w h (by omega))
  have H := Lib.hid h
  have p1 := mul_bd b1.1 b1.2 b4.1 b4.2
  have p2 := mul_bd b3.1 b3.2 b2.1 b2.2
  have p3 := mul_bd b2.1 b2.2 b4.1 b4.2
  have p4 := mul_bd b1.1 b1.2 b3.1 b3.2
  obtain ⟨a, c, rfl⟩ := h.len
  obtain ⟨a', c', rfl⟩ := h'.len
  obtain ⟨kind, pins, wd, len⟩ := x
  obtain ⟨kind', pins', wd', len'⟩ := y
  dsimp only at HCP H p1 p2 p3 p4 b1 b2 b3 b4 hn ⊢
  by_cases hk : kind = 2
  · have e1 : (kind == 2) = true := by simpa using hk
    have hW : mgW ⟨kind, pins, wd, len⟩ ⟨kind', pins', wd', len'⟩ false = redN (wd * wd') (wd * len' + wd' * len) := by simp [mgW, hk]
    have hL : mgL ⟨kind, pins, wd, len⟩ ⟨kind', pins', wd', len'⟩ false = redD (wd * wd') (wd * len' + wd' * len) := by simp [mgL, hk]
    rw [hW, hL]
    have HLO1 := Lib.hid (fun w => lowest_any (wd * len' + wd' * len) (len * len') w (by omega) (by omega) (by omega) (by omega) (by omega))
    have HLO2 := Lib.hid (fun w => lowest_any (wd * wd') (wd * len' + wd' * len) w (by omega) (by omega) (by omega) (by omega) (by omega))
    generalize redN (wd * wd') (wd * len' + wd' * len) = R1 at *
    generalize redD (wd * wd') (wd * len' + wd' * len) = R2 at *
    have w1' : IntKind.i64.wrap (wd * len') = wd * len' := by simp [IntKind.wrap, IntKind.bits, IntKind.signed]; omega
    have w2' : IntKind.i64.wrap (wd' * len) = wd' * len := by simp [IntKind.wrap, IntKind.bits, IntKind.signed]; omega
    have w3' : IntKind.i64.wrap (len * len') = len * len' := by simp [IntKind.wrap, IntKind.bits, IntKind.signed]; omega
    have w4' : IntKind.i64.wrap (wd * wd') = wd * wd' := by simp [IntKind.wrap, IntKind.bits, IntKind.signed]; omega
    have w5' : IntKind.i64.wrap (wd * len' + wd' * len) = wd * len' + wd' * len := by simp [IntKind.wrap, IntKind.bits, IntKind.signed]; omega
    clear h h' hk hW hL hp
    go_enter Try.func48, Try.ntmps48
    go_wp2_with fail
    refine (HCP.out _ (H.out.by (by ((repeat (first | (with_reducible exact Below.refl _ _) | (with_reducible refine below_drewN ?_ _) | (with_reducible refine Below.drew ?_) | (with_reducible refine below_al ?_ _) | (with_reducible refine below_on (by assumption) ?_) | ((with_reducible refine Below.setCell ?_ ?_ _); rotate_left; focus (first | omega | (simp; done) | (simp; omega))) | (with_reducible assumption))); done)))).mono ?_
    rintro e w1 ⟨pv, rfl, hO, hb1⟩
    have kA : Blk w1 w.heap.size #[.int .i64 kind, .slice a pins.length c, .int .i64 wd, .int .i64 len] 46 := (by ((repeat (first | (with_reducible assumption) | (with_reducible refine Blk.drewN ?_ _) | (with_reducible refine Blk.drew ?_) | ((with_reducible refine Blk.new _ ?_); focus (first | omega | (simp; done) | (simp; omega))) | (with_reducible refine Blk.past ?_ _) | ((with_reducible refine Blk.apart ?_ _ _ _ ?_); rotate_left; focus (first | omega | (simp; done) | (simp; omega))) | (with_reducible refine Blk.by (by assumption) ?_))); done))
    have kB : Blk w1 (w.heap.size + 1) #[.int .i64 kind', .slice a' pins'.length c', .int .i64 wd', .int .i64 len'] 46 := (by ((repeat (first | (with_reducible assumption) | (with_reducible refine Blk.drewN ?_ _) | (with_reducible refine Blk.drew ?_) | ((with_reducible refine Blk.new _ ?_); focus (first | omega | (simp; done) | (simp; omega))) | (with_reducible refine Blk.past ?_ _) | ((with_reducible refine Blk.apart ?_ _ _ _ ?_); rotate_left; focus (first | omega | (simp; done) | (simp; omega))) | (with_reducible refine Blk.by (by assumption) ?_))); done))
    have kR : Blk w1 (w.heap.size + 1 + 1) #[.int .i64 0, .slice none 0 0, .int .i64 0, .int .i64 0] 46 := (by ((repeat (first | (with_reducible assumption) | (with_reducible refine Blk.drewN ?_ _) | (with_reducible refine Blk.drew ?_) | ((with_reducible refine Blk.new _ ?_); focus (first | omega | (simp; done) | (simp; omega))) | (with_reducible refine Blk.past ?_ _) | ((with_reducible refine Blk.apart ?_ _ _ _ ?_); rotate_left; focus (first | omega | (simp; done) | (simp; omega))) | (with_reducible refine Blk.by (by assumption) ?_))); done))
    have hW1 : Below w.heap.size w w1 := (by ((repeat (first | (with_reducible exact Below.refl _ _) | (with_reducible refine below_drewN ?_ _) | (with_reducible refine Below.drew ?_) | (with_reducible refine below_al ?_ _) | (with_reducible refine below_on (by assumption) ?_) | ((with_reducible refine Below.setCell ?_ ?_ _); rotate_left; focus (first | omega | (simp; done) | (simp; omega))) | (with_reducible assumption))); done))
    have HO : Hid (OwnR w1 (w.heap.size + 1 + 1 + 1) w1.heap.size pv pins) := Lib.hid (by have h0 := hO.toR; simp only [World.size_alloc] at h0; exact h0)
    obtain ⟨ap, cp, rfl⟩ := hO.len
    have qA := kA.cell
    have lA := kA.lt
    have qB := kB.cell
    have lB := kB.lt
    clear hO hb1
    go_wp2_with fail
    refine (HLO1.out _).mono ?_
    rintro e w2 ⟨rfl, hb2⟩
    have kA2 : Blk w2 w.heap.size #[.int .i64 kind, .slice a pins.length c, .int .i64 wd, .int .i64 len] 46 := (by ((repeat (first | (with_reducible assumption) | (with_reducible refine Blk.drewN ?_ _) | (with_reducible refine Blk.drew ?_) | ((with_reducible refine Blk.new _ ?_); focus (first | omega | (simp; done) | (simp; omega))) | (with_reducible refine Blk.past ?_ _) | ((with_reducible refine Blk.apart ?_ _ _ _ ?_); rotate_left; focus (first | omega | (simp; done) | (simp; omega))) | (with_reducible refine Blk.by (by assumption) ?_))); done))
    have kB2 : Blk w2 (w.heap.size + 1) #[.int .i64 kind', .slice a' pins'.length c', .int .i64 wd', .int .i64 len'] 46 := (by ((repeat (first | (with_reducible assumption) | (with_reducible refine Blk.drewN ?_ _) | (with_reducible refine Blk.drew ?_) | ((with_reducible refine Blk.new _ ?_); focus (first | omega | (simp; done) | (simp; omega))) | (with_reducible refine Blk.past ?_ _) | ((with_reducible refine Blk.apart ?_ _ _ _ ?_); rotate_left; focus (first | omega | (simp; done) | (simp; omega))) | (with_reducible refine Blk.by (by assumption) ?_))); done))
    have kR2 : Blk w2 (w.heap.size + 1 + 1) #[.int .i64 0, .slice none 0 0, .int .i64 0, .int .i64 0] 46 := (by ((repeat (first | (with_reducible assumption) | (with_reducible refine Blk.drewN ?_ _) | (with_reducible refine Blk.drew ?_) | ((with_reducible refine Blk.new _ ?_); focus (first | omega | (simp; done) | (simp; omega))) | (with_reducible refine Blk.past ?_ _) | ((with_reducible refine Blk.apart ?_ _ _ _ ?_); rotate_left; focus (first | omega | (simp; done) | (simp; omega))) | (with_reducible refine Blk.by (by assumption) ?_))); done))
    have kD2 : Blk w2 w1.heap.size #[.int .i64 kind, .slice ap pins.length cp, .int .i64 wd, .int .i64 len] 46 := (by ((repeat (first | (with_reducible assumption) | (with_reducible refine Blk.drewN ?_ _) | (with_reducible refine Blk.drew ?_) | ((with_reducible refine Blk.new _ ?_); focus (first | omega | (simp; done) | (simp; omega))) | (with_reducible refine Blk.past ?_ _) | ((with_reducible refine Blk.apart ?_ _ _ _ ?_); rotate_left; focus (first | omega | (simp; done) | (simp; omega))) | (with_reducible refine Blk.by (by assumption) ?_))); done))
    have hW2 : Below w.heap.size w w2 := (by ((repeat (first | (with_reducible exact Below.refl _ _) | (with_reducible refine below_drewN ?_ _) | (with_reducible refine Below.drew ?_) | (with_reducible refine below_al ?_ _) | (with_reducible refine below_on (by assumption) ?_) | ((with_reducible refine Below.setCell ?_ ?_ _); rotate_left; focus (first | omega | (simp; done) | (simp; omega))) | (with_reducible assumption))); done))
    have HO2 := Lib.hid (OwnR.by hb2 (OwnR.by ((Below.refl _ w1).alloc (Nat.le_refl _) _) HO.out))
    have hs1 := hW1.size
    have lR := kR.lt
    have qA2 := kA2.cell
    have lA2 := kA2.lt
    have qB2 := kB2.cell
    have lB2 := kB2.lt
    clear hb2 qA lA qB lB kA kB
    go_wp2_with fail
    refine (HLO2.out _).mono ?_
    rintro e w3 ⟨rfl, hb3⟩
    obtain ⟨D, hD⟩ : ∃ D, w1.heap.size = D := ⟨_, rfl⟩
    obtain ⟨V, hV⟩ : ∃ V, w2.heap.size = V := ⟨_, rfl⟩
    have kR3 : Blk w3 (w.heap.size + 1 + 1) #[.int .i64 0, .slice none 0 0, .int .i64 0, .int .i64 0] 46 := (by ((repeat (first | (with_reducible assumption) | (with_reducible refine Blk.drewN ?_ _) | (with_reducible refine Blk.drew ?_) | ((with_reducible refine Blk.new _ ?_); focus (first | omega | (simp; done) | (simp; omega))) | (with_reducible refine Blk.past ?_ _) | ((with_reducible refine Blk.apart ?_ _ _ _ ?_); rotate_left; focus (first | omega | (simp; done) | (simp; omega))) | (with_reducible refine Blk.by (by assumption) ?_))); done))
    have kD3 : Blk w3 w1.heap.size #[.int .i64 kind, .slice ap pins.length cp, .int .i64 wd, .int .i64 len] 46 := (by ((repeat (first | (with_reducible assumption) | (with_reducible refine Blk.drewN ?_ _) | (with_reducible refine Blk.drew ?_) | ((with_reducible refine Blk.new _ ?_); focus (first | omega | (simp; done) | (simp; omega))) | (with_reducible refine Blk.past ?_ _) | ((with_reducible refine Blk.apart ?_ _ _ _ ?_); rotate_left; focus (first | omega | (simp; done) | (simp; omega))) | (with_reducible refine Blk.by (by assumption) ?_))); done))
    have kV3 : Blk w3 w2.heap.size #[.int .i64 (redN (wd * len' + wd' * len) (len * len')), .int .i64 (redD (wd * len' + wd' * len) (len * len'))] 109 := (by ((repeat (first | (with_reducible assumption) | (with_reducible refine Blk.drewN ?_ _) | (with_reducible refine Blk.drew ?_) | ((with_reducible refine Blk.new _ ?_); focus (first | omega | (simp; done) | (simp; omega))) | (with_reducible refine Blk.past ?_ _) | ((with_reducible refine Blk.apart ?_ _ _ _ ?_); rotate_left; focus (first | omega | (simp; done) | (simp; omega))) | (with_reducible refine Blk.by (by assumption) ?_))); done))
    have hW3 : Below w.heap.size w w3 := (by ((repeat (first | (with_reducible exact Below.refl _ _) | (with_reducible refine below_drewN ?_ _) | (with_reducible refine Below.drew ?_) | (with_reducible refine below_al ?_ _) | (with_reducible refine below_on (by assumption) ?_) | ((with_reducible refine Below.setCell ?_ ?_ _); rotate_left; focus (first | omega | (simp; done) | (simp; omega))) | (with_reducible assumption))); done))
    have HO3 := Lib.hid (OwnR.by hb3 (OwnR.by ((Below.refl _ w2).alloc (Nat.le_refl _) _) HO2.out))
    have lDV : w1.heap.size < w2.heap.size := kD2.lt
    rw [hD] at kD3 lDV HO3
    rw [hV] at kV3 lDV
    rw [hD] at lR
    rw [hD, hV]
    have qV := kV3.cell
    have fV := kV3.free
    have lV := kV3.lt
    have qD := kD3.cell
    have fD := kD3.free
    have lD := kD3.lt
    have qR := kR3.cell
    have fR := kR3.free
    have lR3 := kR3.lt
    have nDV : ¬ D = V := by omega
    have nVD : ¬ V = D := by omega
    clear hb3 qA2 lA2 qB2 lB2 kA2 kB2 kR2 kD2 hD hV kR
    go_wp2
    obtain ⟨w4, hw4⟩ : ∃ z, z = (w3.setCell ⟨V, 0, none⟩ (.int .i64 R1)).setCell ⟨V, 1, none⟩ (.int .i64 R2) := ⟨_, rfl⟩
    have hVw : w.heap.size + 1 + 1 < V := by omega
    have kV4 : Blk w4 V #[.int .i64 R1, .int .i64 R2] 109 := by rw [hw4]; exact kV3.set2
    have kD4 : Blk w4 D #[.int .i64 kind, .slice ap pins.length cp, .int .i64 wd, .int .i64 len] 46 := by rw [hw4]; exact (kD3.apart V _ _ (by omega)).apart V _ _ (by omega)
    have kR4 : Blk w4 (w.heap.size + 1 + 1) #[.int .i64 0, .slice none 0 0, .int .i64 0, .int .i64 0] 46 := by rw [hw4]; exact (kR3.apart V _ _ (by omega)).apart V _ _ (by omega)
    have hW4 : Below w.heap.size w w4 := by rw [hw4]; exact (hW3.setCell (by simp; omega) _).setCell (by simp; omega) _
    have HO4 : Hid (OwnR w4 (w.heap.size + 1 + 1 + 1) D (.slice ap pins.length cp) pins) := Lib.hid (by rw [hw4]; exact OwnR.past (Within.off _) (OwnR.past (Within.off _) HO3.out (by omega)) (by omega))
    rw [← hw4]
    have qV4 := kV4.cell
    have qD4 := kD4.cell
    have fD4 := kD4.free
    have lD4 := kD4.lt
    have qR4 := kR4.cell
    have fR4 := kR4.free
    have lR4 := kR4.lt
    clear hw4 qV fV lV qD fD lD qR fR lR3 kV3 kD3 kR3
    go_region
    all_goals go_wp2
    all_goals
      refine bodyPost_ret (v := .agg #[.int .i64 kind, .slice ap pins.length cp, .int .i64 R1, .int .i64 R2]) (by simp [results, Try.results48, go_sem, *]) rfl ⟨_, rfl, ?_, ?_⟩
      · have q1 := OwnR.past (Within.off (g := D) (o := 2) (.int .i64 R1)) HO4.out (by omega)
        have q2 := OwnR.past (Within.off (g := D) (o := 3) (.int .i64 R2)) q1 (by omega)
        have q3 := OwnR.past (Within.off (g := w.heap.size + 1 + 1) (o := 0) (.int .i64 kind)) q2 (by omega)
        have q4 := OwnR.past (Within.off (g := w.heap.size + 1 + 1) (o := 1) (.slice ap pins.length cp)) q3 (by omega)
        have q5 := OwnR.past (Within.off (g := w.heap.size + 1 + 1) (o := 2) (.int .i64 R1)) q4 (by omega)
        have q6 := OwnR.past (Within.off (g := w.heap.size + 1 + 1) (o := 3) (.int .i64 R2)) q5 (by omega)
        exact OwnR.wide' (OwnR.by (Below.refl _ _).drew q6) (by omega) (by simp; omega)
      · ((repeat (first | (with_reducible exact Below.refl _ _) | (with_reducible refine below_drewN ?_ _) | (with_reducible refine Below.drew ?_) | (with_reducible refine below_al ?_ _) | (with_reducible refine below_on (by assumption) ?_) | ((with_reducible refine Below.setCell ?_ ?_ _); rotate_left; focus (first | omega | (simp; done) | (simp; omega))) | (with_reducible assumption))); done)
  · have e1 : (kind == 2) = false := by simpa using hk
    have hW : mgW ⟨kind, pins, wd, len⟩ ⟨kind', pins', wd', len'⟩ false = wd + wd' := by simp [mgW, hk]
    have hL : mgL ⟨kind, pins, wd, len⟩ ⟨kind', pins', wd', len'⟩ false = len := by simp [mgL, hk]
    rw [hW, hL]
    have w5' : IntKind.i64.wrap (wd + wd') = wd + wd' := by simp [IntKind.wrap, IntKind.bits, IntKind.signed]; omega
    clear h h' hk hW hL hp p1 p2 p3 p4
    go_enter Try.func48, Try.ntmps48
    go_wp2_with fail
    refine (HCP.out _ (H.out.by (by ((repeat (first | (with_reducible exact Below.refl _ _) | (with_reducible refine below_drewN ?_ _) | (with_reducible refine Below.drew ?_) | (with_reducible refine below_al ?_ _) | (with_reducible refine below_on (by assumption) ?_) | ((with_reducible refine Below.setCell ?_ ?_ _); rotate_left; focus (first | omega | (simp; done) | (simp; omega))) | (with_reducible assumption))); done)))).mono ?_
    rintro e w1 ⟨pv, rfl, hO, hb1⟩
    have kA : Blk w1 w.heap.size #[.int .i64 kind, .slice a pins.length c, .int .i64 wd, .int .i64 len] 46 := (by ((repeat (first | (with_reducible assumption) | (with_reducible refine Blk.drewN ?_ _) | (with_reducible refine Blk.drew ?_) | ((with_reducible refine Blk.new _ ?_); focus (first | omega | (simp; done) | (simp; omega))) | (with_reducible refine Blk.past ?_ _) | ((with_reducible refine Blk.apart ?_ _ _ _ ?_); rotate_left; focus (first | omega | (simp; done) | (simp; omega))) | (with_reducible refine Blk.by (by assumption) ?_))); done))
    have kB : Blk w1 (w.heap.size + 1) #[.int .i64 kind', .slice a' pins'.length c', .int .i64 wd', .int .i64 len'] 46 := (by ((repeat (first | (with_reducible assumption) | (with_reducible refine Blk.drewN ?_ _) | (with_reducible refine Blk.drew ?_) | ((with_reducible refine Blk.new _ ?_); focus (first | omega | (simp; done) | (simp; omega))) | (with_reducible refine Blk.past ?_ _) | ((with_reducible refine Blk.apart ?_ _ _ _ ?_); rotate_left; focus (first | omega | (simp; done) | (simp; omega))) | (with_reducible refine Blk.by (by assumption) ?_))); done))
    have kR : Blk w1 (w.heap.size + 1 + 1) #[.int .i64 0, .slice none 0 0, .int .i64 0, .int .i64 0] 46 := (by ((repeat (first | (with_reducible assumption) | (with_reducible refine Blk.drewN ?_ _) | (with_reducible refine Blk.drew ?_) | ((with_reducible refine Blk.new _ ?_); focus (first | omega | (simp; done) | (simp; omega))) | (with_reducible refine Blk.past ?_ _) | ((with_reducible refine Blk.apart ?_ _ _ _ ?_); rotate_left; focus (first | omega | (simp; done) | (simp; omega))) | (with_reducible refine Blk.by (by assumption) ?_))); done))
    have hW1 : Below w.heap.size w w1 := (by ((repeat (first | (with_reducible exact Below.refl _ _) | (with_reducible refine below_drewN ?_ _) | (with_reducible refine Below.drew ?_) | (with_reducible refine below_al ?_ _) | (with_reducible refine below_on (by assumption) ?_) | ((with_reducible refine Below.setCell ?_ ?_ _); rotate_left; focus (first | omega | (simp; done) | (simp; omega))) | (with_reducible assumption))); done))
    have HO : Hid (OwnR w1 (w.heap.size + 1 + 1 + 1) w1.heap.size pv pins) := Lib.hid (by have h0 := hO.toR; simp only [World.size_alloc] at h0; exact h0)
    obtain ⟨ap, cp, rfl⟩ := hO.len
    have qA := kA.cell
    have lA := kA.lt
    have qB := kB.cell
    have lB := kB.lt
    have qR := kR.cell
    have fR := kR.free
    have lR := kR.lt
    clear hO hb1
    go_wp2
    refine bodyPost_ret (v := .agg #[.int .i64 kind, .slice ap pins.length cp, .int .i64 (wd + wd'), .int .i64 len]) (by simp [results, Try.results48, go_sem, *]) rfl ⟨_, rfl, ?_, (by ((repeat (first | (with_reducible exact Below.refl _ _) | (with_reducible refine below_drewN ?_ _) | (with_reducible refine Below.drew ?_) | (with_reducible refine below_al ?_ _) | (with_reducible refine below_on (by assumption) ?_) | ((with_reducible refine Below.setCell ?_ ?_ _); rotate_left; focus (first | omega | (simp; done) | (simp; omega))) | (with_reducible assumption))); done))⟩
    have q3 := OwnR.past (Within.off (g := w.heap.size + 1 + 1) (o := 0) (.int .i64 kind)) HO.out (by omega)
    have q4 := OwnR.past (Within.off (g := w.heap.size + 1 + 1) (o := 1) (.slice ap pins.length cp)) q3 (by omega)
    have q5 := OwnR.past (Within.off (g := w.heap.size + 1 + 1) (o := 2) (.int .i64 (wd + wd'))) q4 (by omega)
    have q6 := OwnR.past (Within.off (g := w.heap.size + 1 + 1) (o := 3) (.int .i64 len)) q5 (by omega)
    exact OwnR.wide' (OwnR.by ((Below.refl _ _).alloc (Nat.le_refl _) _) q6) (by omega) (by simp; try omega)
end Go.Proofs.Ytnchhdhlhlcejaa
