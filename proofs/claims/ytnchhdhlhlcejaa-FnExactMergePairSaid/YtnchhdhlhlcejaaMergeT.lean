/- The program's merged: resistors in series. -/
import Derived.Test.YtnchhdhlhlcejaaMergeS
namespace Go.Proofs.Ytnchhdhlhlcejaa
open Go.RowKit
set_option linter.unusedVariables false
set_option linter.unusedSimpArgs false

set_option maxRecDepth 100000 in
set_option maxHeartbeats 2000000 in
theorem mergedSerR_any (x y : Dv) (net : Int) (sx sy : Value) (w : World) (h : IntSl w sx x.pins) (h' : IntSl w sy y.pins) (hx : Shp x) (hy : Shp y) (hk : x.kind = 2)
    (pb : (0 ≤ curP x.pins ∧ curP x.pins ≤ 24) ∧ (0 ≤ curQ x.pins ∧ curQ x.pins ≤ 24)) (qb : (0 ≤ curP y.pins ∧ curP y.pins ≤ 24) ∧ (0 ≤ curQ y.pins ∧ curQ y.pins ≤ 24)) (hn0 : 0 ≤ net ∧ net ≤ 24)
    (n1 : net = curP x.pins ∨ net = curQ x.pins) (n2 : net = curP y.pins ∨ net = curQ y.pins) (hnet : net = serN x y)
    (b1 : 1 ≤ x.wd ∧ x.wd ≤ 1000000) (b2 : 1 ≤ x.len ∧ x.len ≤ 1000000) (b3 : 1 ≤ y.wd ∧ y.wd ≤ 1000000) (b4 : 1 ≤ y.len ∧ y.len ≤ 1000000) :
    Calls Try.prog 48 #[.agg #[.int .i64 x.kind, sx, .int .i64 x.wd, .int .i64 x.len], .agg #[.int .i64 y.kind, sy, .int .i64 y.wd, .int .i64 y.len], .int .i64 net, .bool true] w
      fun e w' => ∃ pv, e = .returned (.agg #[.int .i64 x.kind, pv, .int .i64 (mgW x y true), .int .i64 (mgL x y true)]) ∧ OwnR w' w.heap.size w'.heap.size pv (mgPins x y true) ∧ Below w.heap.size w w' := by
  obtain ⟨p, q, hp⟩ : ∃ p q, x.pins = [p, q] := by
    rcases hx with ⟨_, p, q, e⟩ | ⟨k2, _, _, _, _⟩
    · exact ⟨p, q, e⟩
    · omega
  have hP : curP x.pins = p := by rw [hp]; rfl
  have hQ : curQ x.pins = q := by rw [hp]; rfl
  have hmp : mgPins x y true = [otherN p q net, otherN (curP y.pins) (curQ y.pins) net] := by
    unfold mgPins
    rw [if_pos rfl, if_pos hk, hP, hQ, hnet]
    rfl
  have o1 := otherN_sum n1
  have o2 := otherN_sum n2
  rw [hP, hQ] at o1 pb
  rw [hmp]
  have hW : mgW x y true = redN (x.wd * y.len + y.wd * x.len) (x.len * y.len) := by simp [mgW, hk]
  have hL : mgL x y true = redD (x.wd * y.len + y.wd * x.len) (x.len * y.len) := by simp [mgL, hk]
  rw [hW, hL]
  have HCP := Lib.hid (fun w h => copyDevice_any x.kind x.wd x.len sx x.pins w h (by rw [hp]; simp))
  have HC1 := Lib.hid (fun w h => currentPins_any x sx w h hx)
  have HC2 := Lib.hid (fun w h => currentPins_any y sy w h hy)
  rw [hP, hQ] at HC1
  have p1 := mul_bd b1.1 b1.2 b4.1 b4.2
  have p2 := mul_bd b3.1 b3.2 b2.1 b2.2
  have p3 := mul_bd b2.1 b2.2 b4.1 b4.2
  have H := Lib.hid h
  have H' := Lib.hid h'
  obtain ⟨r, hr⟩ : ∃ r, curP y.pins = r := ⟨_, rfl⟩
  obtain ⟨s, hs⟩ : ∃ s, curQ y.pins = s := ⟨_, rfl⟩
  rw [hr, hs] at HC2 o2 qb ⊢
  rw [← o1, ← o2]
  rw [hp] at HCP H
  obtain ⟨a, c, rfl⟩ := h.len
  obtain ⟨a', c', rfl⟩ := h'.len
  rw [hp]
  have hl3 : x.pins.length = 2 := by rw [hp]; rfl
  obtain ⟨kind, pins, wd, len⟩ := x
  obtain ⟨kind', pins', wd', len'⟩ := y
  dsimp only at HCP HC1 HC2 H H' b1 b2 b3 b4 p1 p2 p3 hk hl3 hp ⊢
  subst hp
  have e1 : (kind == 2) = true := by simpa using hk
  have HLO1 := Lib.hid (fun w => lowest_any (wd * len' + wd' * len) (len * len') w (by omega) (by omega) (by omega) (by omega) (by omega))
  generalize redN (wd * len' + wd' * len) (len * len') = R1 at *
  generalize redD (wd * len' + wd' * len) (len * len') = R2 at *
  have w1' : IntKind.i64.wrap (wd * len') = wd * len' := by simp [IntKind.wrap, IntKind.bits, IntKind.signed]; omega
  have w2' : IntKind.i64.wrap (wd' * len) = wd' * len := by simp [IntKind.wrap, IntKind.bits, IntKind.signed]; omega
  have w3' : IntKind.i64.wrap (len * len') = len * len' := by simp [IntKind.wrap, IntKind.bits, IntKind.signed]; omega
  have w5' : IntKind.i64.wrap (wd * len' + wd' * len) = wd * len' + wd' * len := by simp [IntKind.wrap, IntKind.bits, IntKind.signed]; omega
  clear h h' hx hy hk hP hQ hmp hW hL hr hs n1 n2 hnet o1 o2 hl3
  go_enter Try.func48, Try.ntmps48
  go_wp2_with fail
  refine (HCP.out _ (H.out.by (by ((repeat (first | (with_reducible exact Below.refl _ _) | (with_reducible refine below_drewN ?_ _) | (with_reducible refine Below.drew ?_) | (with_reducible refine below_al ?_ _) | (with_reducible refine below_on (by assumption) ?_) | ((with_reducible refine Below.setCell ?_ ?_ _); rotate_left; focus (first | omega | (simp; done) | (simp; omega))) | (with_reducible assumption))); done)))).mono ?_
  rintro e w1 ⟨pv, rfl, hO, hb1⟩
  have kA : Blk w1 w.heap.size #[.int .i64 kind, .slice a 2 c, .int .i64 wd, .int .i64 len] 46 := (by ((repeat (first | (with_reducible assumption) | (with_reducible refine Blk.drewN ?_ _) | (with_reducible refine Blk.drew ?_) | ((with_reducible refine Blk.new _ ?_); focus (first | omega | (simp; done) | (simp; omega))) | (with_reducible refine Blk.past ?_ _) | ((with_reducible refine Blk.apart ?_ _ _ _ ?_); rotate_left; focus (first | omega | (simp; done) | (simp; omega))) | (with_reducible refine Blk.by (by assumption) ?_))); done))
  have kB : Blk w1 (w.heap.size + 1) #[.int .i64 kind', .slice a' pins'.length c', .int .i64 wd', .int .i64 len'] 46 := (by ((repeat (first | (with_reducible assumption) | (with_reducible refine Blk.drewN ?_ _) | (with_reducible refine Blk.drew ?_) | ((with_reducible refine Blk.new _ ?_); focus (first | omega | (simp; done) | (simp; omega))) | (with_reducible refine Blk.past ?_ _) | ((with_reducible refine Blk.apart ?_ _ _ _ ?_); rotate_left; focus (first | omega | (simp; done) | (simp; omega))) | (with_reducible refine Blk.by (by assumption) ?_))); done))
  have kR : Blk w1 (w.heap.size + 1 + 1) #[.int .i64 0, .slice none 0 0, .int .i64 0, .int .i64 0] 46 := (by ((repeat (first | (with_reducible assumption) | (with_reducible refine Blk.drewN ?_ _) | (with_reducible refine Blk.drew ?_) | ((with_reducible refine Blk.new _ ?_); focus (first | omega | (simp; done) | (simp; omega))) | (with_reducible refine Blk.past ?_ _) | ((with_reducible refine Blk.apart ?_ _ _ _ ?_); rotate_left; focus (first | omega | (simp; done) | (simp; omega))) | (with_reducible refine Blk.by (by assumption) ?_))); done))
  have hW1 : Below w.heap.size w w1 := (by ((repeat (first | (with_reducible exact Below.refl _ _) | (with_reducible refine below_drewN ?_ _) | (with_reducible refine Below.drew ?_) | (with_reducible refine below_al ?_ _) | (with_reducible refine below_on (by assumption) ?_) | ((with_reducible refine Below.setCell ?_ ?_ _); rotate_left; focus (first | omega | (simp; done) | (simp; omega))) | (with_reducible assumption))); done))
  have hOR : OwnR w1 (w.heap.size + 1 + 1 + 1) w1.heap.size pv [p, q] := by have h0 := hO.toR; simp only [World.size_alloc] at h0; exact h0
  obtain ⟨G, cap, cs, rfl, hG, hcap, hmx, hBk, hcs⟩ := OwnR.cells hOR (by simp)
  have HO := Lib.hid hOR
  have qA := kA.cell
  have lA := kA.lt
  have qB := kB.cell
  have lB := kB.lt
  clear hO hb1 hOR
  go_wp2_with fail
  refine (HC1.out _ (H.out.by (by ((repeat (first | (with_reducible exact Below.refl _ _) | (with_reducible refine below_drewN ?_ _) | (with_reducible refine Below.drew ?_) | (with_reducible refine below_al ?_ _) | (with_reducible refine below_on (by assumption) ?_) | ((with_reducible refine Below.setCell ?_ ?_ _); rotate_left; focus (first | omega | (simp; done) | (simp; omega))) | (with_reducible assumption))); done)))).mono ?_
  rintro e w2 ⟨rfl, hb2⟩
  obtain ⟨D, hD⟩ : ∃ D, w1.heap.size = D := ⟨_, rfl⟩
  have kB2 : Blk w2 (w.heap.size + 1) #[.int .i64 kind', .slice a' pins'.length c', .int .i64 wd', .int .i64 len'] 46 := (by ((repeat (first | (with_reducible assumption) | (with_reducible refine Blk.drewN ?_ _) | (with_reducible refine Blk.drew ?_) | ((with_reducible refine Blk.new _ ?_); focus (first | omega | (simp; done) | (simp; omega))) | (with_reducible refine Blk.past ?_ _) | ((with_reducible refine Blk.apart ?_ _ _ _ ?_); rotate_left; focus (first | omega | (simp; done) | (simp; omega))) | (with_reducible refine Blk.by (by assumption) ?_))); done))
  have kR2 : Blk w2 (w.heap.size + 1 + 1) #[.int .i64 0, .slice none 0 0, .int .i64 0, .int .i64 0] 46 := (by ((repeat (first | (with_reducible assumption) | (with_reducible refine Blk.drewN ?_ _) | (with_reducible refine Blk.drew ?_) | ((with_reducible refine Blk.new _ ?_); focus (first | omega | (simp; done) | (simp; omega))) | (with_reducible refine Blk.past ?_ _) | ((with_reducible refine Blk.apart ?_ _ _ _ ?_); rotate_left; focus (first | omega | (simp; done) | (simp; omega))) | (with_reducible refine Blk.by (by assumption) ?_))); done))
  have kA2 : Blk w2 w.heap.size #[.int .i64 kind, .slice a 2 c, .int .i64 wd, .int .i64 len] 46 := (by ((repeat (first | (with_reducible assumption) | (with_reducible refine Blk.drewN ?_ _) | (with_reducible refine Blk.drew ?_) | ((with_reducible refine Blk.new _ ?_); focus (first | omega | (simp; done) | (simp; omega))) | (with_reducible refine Blk.past ?_ _) | ((with_reducible refine Blk.apart ?_ _ _ _ ?_); rotate_left; focus (first | omega | (simp; done) | (simp; omega))) | (with_reducible refine Blk.by (by assumption) ?_))); done))
  have kD2 : Blk w2 w1.heap.size #[.int .i64 kind, .slice (some ⟨G, 0, none⟩) 2 cap, .int .i64 wd, .int .i64 len] 46 := (by ((repeat (first | (with_reducible assumption) | (with_reducible refine Blk.drewN ?_ _) | (with_reducible refine Blk.drew ?_) | ((with_reducible refine Blk.new _ ?_); focus (first | omega | (simp; done) | (simp; omega))) | (with_reducible refine Blk.past ?_ _) | ((with_reducible refine Blk.apart ?_ _ _ _ ?_); rotate_left; focus (first | omega | (simp; done) | (simp; omega))) | (with_reducible refine Blk.by (by assumption) ?_))); done))
  have kG2 : Blk w2 G cs 2 := (by ((repeat (first | (with_reducible assumption) | (with_reducible refine Blk.drewN ?_ _) | (with_reducible refine Blk.drew ?_) | ((with_reducible refine Blk.new _ ?_); focus (first | omega | (simp; done) | (simp; omega))) | (with_reducible refine Blk.past ?_ _) | ((with_reducible refine Blk.apart ?_ _ _ _ ?_); rotate_left; focus (first | omega | (simp; done) | (simp; omega))) | (with_reducible refine Blk.by (by assumption) ?_))); done))
  have HO2 := Lib.hid (OwnR.by hb2 (OwnR.by ((Below.refl _ w1).alloc (Nat.le_refl _) _) HO.out))
  have hW2 : Below w.heap.size w w2 := (by ((repeat (first | (with_reducible exact Below.refl _ _) | (with_reducible refine below_drewN ?_ _) | (with_reducible refine Below.drew ?_) | (with_reducible refine below_al ?_ _) | (with_reducible refine below_on (by assumption) ?_) | ((with_reducible refine Below.setCell ?_ ?_ _); rotate_left; focus (first | omega | (simp; done) | (simp; omega))) | (with_reducible assumption))); done))
  have lR := kR.lt
  rw [hD] at kD2 hG HO2 lR
  rw [hD]
  have qB2 := kB2.cell
  have lB2 := kB2.lt
  clear hb2 qA lA qB lB kA kB kR hD
  go_wp2_with fail
  refine (HC2.out _ (H'.out.by (by ((repeat (first | (with_reducible exact Below.refl _ _) | (with_reducible refine below_drewN ?_ _) | (with_reducible refine Below.drew ?_) | (with_reducible refine below_al ?_ _) | (with_reducible refine below_on (by assumption) ?_) | ((with_reducible refine Below.setCell ?_ ?_ _); rotate_left; focus (first | omega | (simp; done) | (simp; omega))) | (with_reducible assumption))); done)))).mono ?_
  rintro e w3 ⟨rfl, hb3⟩
  have kB3 := Blk.by hb3 kB2
  have kR3 := Blk.by hb3 kR2
  have kA3 := Blk.by hb3 kA2
  have kD3 := Blk.by hb3 kD2
  have kG3 := Blk.by hb3 kG2
  have HO3 := Lib.hid (OwnR.by hb3 HO2.out)
  have hW3 := below_on hb3 hW2
  have qD3 := kD3.cell
  have lD3 := kD3.lt
  clear hb3 qB2 lB2 kB2 kR2 kA2 kD2 kG2
  go_upto_region 6 with fail
  have fG := kG3.free
  have lG := kG3.lt
  have s1 : (cs[0]?).isSome = true := by
    have := hcs 0 p (by simp)
    rw [this]; rfl
  have s2 : (cs[1]?).isSome = true := by
    have := hcs 1 q (by simp)
    rw [this]; rfl
  have c1' : w3.cell? ⟨G, 0, none⟩ = some (.int .i64 p) := (kG3.cell 0).trans (hcs 0 p (by simp))
  have c2' : w3.cell? ⟨G, 1, none⟩ = some (.int .i64 q) := (kG3.cell 1).trans (hcs 1 q (by simp))
  go_region
  obtain ⟨w4, hw4⟩ : ∃ z, z = ((w3.setCell ⟨G, 0, none⟩ (.int .i64 (p + q - net))).setCell ⟨G, 1, none⟩ (.int .i64 (r + s - net))).drew := ⟨_, rfl⟩
  have HO4 : Hid (OwnR w4 (w.heap.size + 1 + 1 + 1) D (.slice (some ⟨G, 0, none⟩) 2 cap) [p + q - net, r + s - net]) := Lib.hid (by
    rw [hw4]
    exact OwnR.by (Below.refl _ _).drew ((HO3.out.setAt 0 (p + q - net)).setAt 1 (r + s - net)))
  have kB4 : Blk w4 (w.heap.size + 1) #[.int .i64 kind', .slice a' pins'.length c', .int .i64 wd', .int .i64 len'] 46 := by rw [hw4]; exact ((kB3.apart G _ _ (by omega)).apart G _ _ (by omega)).drew
  have kA4 : Blk w4 w.heap.size #[.int .i64 kind, .slice a 2 c, .int .i64 wd, .int .i64 len] 46 := by rw [hw4]; exact ((kA3.apart G _ _ (by omega)).apart G _ _ (by omega)).drew
  have kR4 : Blk w4 (w.heap.size + 1 + 1) #[.int .i64 0, .slice none 0 0, .int .i64 0, .int .i64 0] 46 := by rw [hw4]; exact ((kR3.apart G _ _ (by omega)).apart G _ _ (by omega)).drew
  have kD4 : Blk w4 D #[.int .i64 kind, .slice (some ⟨G, 0, none⟩) 2 cap, .int .i64 wd, .int .i64 len] 46 := by rw [hw4]; exact ((kD3.apart G _ _ (by omega)).apart G _ _ (by omega)).drew
  have hW4 : Below w.heap.size w w4 := by rw [hw4]; exact ((hW3.setCell (by simp; omega) _).setCell (by simp; omega) _).drew
  rw [← hw4]
  have qA4 := kA4.cell
  have lA4 := kA4.lt
  have qB4 := kB4.cell
  have lB4 := kB4.lt
  have qD4 := kD4.cell
  have fD4 := kD4.free
  have lD4 := kD4.lt
  have qR4 := kR4.cell
  have fR4 := kR4.free
  have lR4 := kR4.lt
  clear hw4 qD3 lD3 fG lG s1 s2 c1' c2' kA3 kB3 kR3 kD3 kG3
  go_wp2_with fail
  refine (HLO1.out _).mono ?_
  rintro e w5 ⟨rfl, hb5⟩
  have kR5 := Blk.by hb5 kR4
  have kD5 := Blk.by hb5 kD4
  have hW5 := below_on hb5 hW4
  have HO5 := Lib.hid (OwnR.by hb5 HO4.out)
  obtain ⟨V, hV⟩ : ∃ V, w5.heap.size = V := ⟨_, rfl⟩
  have lDV : D < V := by rw [← hV]; exact kD5.lt
  obtain ⟨w6, hw6⟩ : ∃ z, z = w5.alloc (.cells #[.int .i64 R1, .int .i64 R2] 109) := ⟨_, rfl⟩
  have hal : Below w5.heap.size w5 w6 := by rw [hw6]; exact (Below.refl _ w5).alloc (Nat.le_refl _) _
  have kV6 : Blk w6 V #[.int .i64 R1, .int .i64 R2] 109 := by rw [hw6]; exact Blk.new _ hV.symm
  have kR6 := Blk.by hal kR5
  have kD6 := Blk.by hal kD5
  have hW6 := below_on hal hW5
  have HO6 := Lib.hid (OwnR.by hal HO5.out)
  clear hb5 qA4 lA4 qB4 lB4 qD4 fD4 lD4 qR4 fR4 lR4 kR4 kD4 kA4 kB4 hal
  go_upto_region 12 with fail
  (try rw [← hw6])
  (try rw [hV])
  clear hw6 hV
  have qV := kV6.cell
  have qD := kD6.cell
  have fD := kD6.free
  have lD := kD6.lt
  have qR := kR6.cell
  have fR := kR6.free
  have lR6 := kR6.lt
  have nDV : ¬ D = V := by omega
  have nVD : ¬ V = D := by omega
  go_region
  all_goals go_wp2
  all_goals
    refine bodyPost_ret (v := .agg #[.int .i64 kind, .slice (some ⟨G, 0, none⟩) 2 cap, .int .i64 R1, .int .i64 R2]) (by simp [results, Try.results48, go_sem, *]) rfl ⟨_, rfl, ?_, ?_⟩
    · have q1 := OwnR.past (Within.off (g := D) (o := 2) (.int .i64 R1)) HO6.out (by omega)
      have q2 := OwnR.past (Within.off (g := D) (o := 3) (.int .i64 R2)) q1 (by omega)
      have q3 := OwnR.past (Within.off (g := w.heap.size + 1 + 1) (o := 0) (.int .i64 kind)) q2 (by omega)
      have q4 := OwnR.past (Within.off (g := w.heap.size + 1 + 1) (o := 1) (.slice (some ⟨G, 0, none⟩) 2 cap)) q3 (by omega)
      have q5 := OwnR.past (Within.off (g := w.heap.size + 1 + 1) (o := 2) (.int .i64 R1)) q4 (by omega)
      have q6 := OwnR.past (Within.off (g := w.heap.size + 1 + 1) (o := 3) (.int .i64 R2)) q5 (by omega)
      exact OwnR.wide' (OwnR.by (Below.refl _ _).drew q6) (by omega) (by simp; omega)
    · ((repeat (first | (with_reducible exact Below.refl _ _) | (with_reducible refine below_drewN ?_ _) | (with_reducible refine Below.drew ?_) | (with_reducible refine below_al ?_ _) | (with_reducible refine below_on (by assumption) ?_) | ((with_reducible refine Below.setCell ?_ ?_ _); rotate_left; focus (first | omega | (simp; done) | (simp; omega))) | (with_reducible assumption))); done)
end Go.Proofs.Ytnchhdhlhlcejaa
