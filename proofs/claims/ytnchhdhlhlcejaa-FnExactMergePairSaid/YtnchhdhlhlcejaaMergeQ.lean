/- The reference's l28Merge: transistors in series. -/
import Derived.Test.YtnchhdhlhlcejaaMergeS
import Derived.Test.YtnchhdhlhlcejaaOtherN
import Derived.Test.YtnchhdhlhlcejaaNorms
import Derived.Deep.RegionHeld3
namespace Go.Proofs.Ytnchhdhlhlcejaa
open Go.RowKit
set_option linter.unusedVariables false
set_option linter.unusedSimpArgs false

theorem OwnR.cellsAt {w : World} {lo hi G n cap : Nat} {zs : List Int} (h : OwnR w lo hi (.slice (some ⟨G, 0, none⟩) n cap) zs) (hz : zs ≠ []) : ∃ cs, Blk w G cs 2 ∧ ICs cs zs := by
  obtain ⟨g, cap', cs, e1, _, _, _, e6, e7⟩ := h.cells hz
  have hg : G = g := by have := congrArg Value.ownBlock e1; simpa [Value.ownBlock] using this
  subst hg
  exact ⟨cs, e6, e7⟩

set_option maxRecDepth 100000 in
set_option maxHeartbeats 2000000 in
theorem l28MergeSerM_any (x y : Dv) (net : Int) (sx sy : Value) (w : World) (h : IntSl w sx x.pins) (h' : IntSl w sy y.pins) (hx : Shp x) (hy : Shp y) (hk : x.kind ≠ 2)
    (pb : (0 ≤ curP x.pins ∧ curP x.pins ≤ 24) ∧ (0 ≤ curQ x.pins ∧ curQ x.pins ≤ 24)) (qb : (0 ≤ curP y.pins ∧ curP y.pins ≤ 24) ∧ (0 ≤ curQ y.pins ∧ curQ y.pins ≤ 24)) (hn0 : 0 ≤ net ∧ net ≤ 24)
    (n1 : net = curP x.pins ∨ net = curQ x.pins) (n2 : net = curP y.pins ∨ net = curQ y.pins) (hnet : net = serN x y)
    (b1 : 1 ≤ x.wd ∧ x.wd ≤ 1000000) (b2 : 1 ≤ x.len ∧ x.len ≤ 1000000) (b3 : 1 ≤ y.wd ∧ y.wd ≤ 1000000) (b4 : 1 ≤ y.len ∧ y.len ≤ 1000000) :
    Calls Try.prog 43 #[.agg #[.int .i64 x.kind, sx, .int .i64 x.wd, .int .i64 x.len], .agg #[.int .i64 y.kind, sy, .int .i64 y.wd, .int .i64 y.len], .bool false, .int .i64 net] w
      fun e w' => ∃ pv, e = .returned (.agg #[.int .i64 x.kind, pv, .int .i64 (mgW x y true), .int .i64 (mgL x y true)]) ∧ OwnR w' w.heap.size w'.heap.size pv (mgPins x y true) ∧ Below w.heap.size w w' := by
  obtain ⟨g, p, q, hp⟩ : ∃ g p q, x.pins = [g, p, q] := by
    rcases hx with ⟨k2, _⟩ | ⟨_, g, p, q, e⟩
    · exact absurd k2 hk
    · exact ⟨g, p, q, e⟩
  have hP : curP x.pins = p := by rw [hp]; rfl
  have hQ : curQ x.pins = q := by rw [hp]; rfl
  have hmp : mgPins x y true = [g, otherN p q net, otherN (curP y.pins) (curQ y.pins) net] := by
    unfold mgPins
    rw [if_pos rfl, if_neg hk, hP, hQ, hnet, hp]
    rfl
  rw [hmp]
  have hW : mgW x y true = x.wd := by simp [mgW, hk]
  have hL : mgL x y true = x.len + y.len := by simp [mgL, hk]
  rw [hW, hL]
  have HCP := Lib.hid (fun w h => own_any x.kind x.wd x.len sx x.pins w h (by rw [hp]; simp))
  have HC1 := Lib.hid (fun w h => l28Other_any x sx net w h hx)
  have HC2 := Lib.hid (fun w h => l28Other_any y sy net w h hy)
  rw [hP, hQ] at HC1
  have p1 := mul_bd b1.1 b1.2 b4.1 b4.2
  have p2 := mul_bd b3.1 b3.2 b2.1 b2.2
  have p3 := mul_bd b2.1 b2.2 b4.1 b4.2
  have H := Lib.hid h
  have H' := Lib.hid h'
  obtain ⟨r, hr⟩ : ∃ r, curP y.pins = r := ⟨_, rfl⟩
  obtain ⟨s, hs⟩ : ∃ s, curQ y.pins = s := ⟨_, rfl⟩
  rw [hr, hs] at HC2 ⊢
  generalize otherN p q net = O1 at *
  generalize otherN r s net = O2 at *
  rw [hp] at HCP H
  obtain ⟨a, c, rfl⟩ := h.len
  obtain ⟨a', c', rfl⟩ := h'.len
  rw [hp]
  have hl3 : x.pins.length = 3 := by rw [hp]; rfl
  obtain ⟨kind, pins, wd, len⟩ := x
  obtain ⟨kind', pins', wd', len'⟩ := y
  dsimp only at HCP HC1 HC2 H H' b1 b2 b3 b4 p1 p2 p3 hk hl3 hp ⊢
  subst hp
  have e1 : (kind == 2) = false := by simpa using hk
  have w5' : IntKind.i64.wrap (len + len') = len + len' := by simp [IntKind.wrap, IntKind.bits, IntKind.signed]; omega
  have HLO1 := Lib.hid (fun w => l26Reduce_any (wd * len' + wd' * len) (len * len') w (by omega) (by omega) (by omega) (by omega) (by omega))
  have w1' : IntKind.i64.wrap (wd * len') = wd * len' := by simp [IntKind.wrap, IntKind.bits, IntKind.signed]; omega
  have w2' : IntKind.i64.wrap (wd' * len) = wd' * len := by simp [IntKind.wrap, IntKind.bits, IntKind.signed]; omega
  have w3' : IntKind.i64.wrap (len * len') = len * len' := by simp [IntKind.wrap, IntKind.bits, IntKind.signed]; omega
  have w6' : IntKind.i64.wrap (wd * len' + wd' * len) = wd * len' + wd' * len := by simp [IntKind.wrap, IntKind.bits, IntKind.signed]; omega
  have HF := Lib.hid (fun w => l28First_any kind wd len a 1 c (by omega) w)
  clear h h' hx hy hk hP hQ hmp hW hL hr hs n1 n2 hnet hl3
  go_enter Try.func43, Try.ntmps43
  go_wp2_with fail
  refine (HCP.out _ (H.out.by (by ((repeat (first | (with_reducible exact Below.refl _ _) | (with_reducible refine below_drewN ?_ _) | (with_reducible refine Below.drew ?_) | (with_reducible refine below_al ?_ _) | (with_reducible refine below_on (by assumption) ?_) | ((with_reducible refine Below.setCell ?_ ?_ _); rotate_left; focus (first | omega | (simp; done) | (simp; omega))) | (with_reducible assumption))); done)))).mono ?_
  rintro e w1 ⟨pv, rfl, hO, hb1⟩
  have kA : Blk w1 w.heap.size #[.int .i64 kind, .slice a 3 c, .int .i64 wd, .int .i64 len] 46 := (by ((repeat (first | (with_reducible assumption) | (with_reducible refine Blk.drewN ?_ _) | (with_reducible refine Blk.drew ?_) | ((with_reducible refine Blk.new _ ?_); focus (first | omega | (simp; done) | (simp; omega))) | (with_reducible refine Blk.past ?_ _) | ((with_reducible refine Blk.apart ?_ _ _ _ ?_); rotate_left; focus (first | omega | (simp; done) | (simp; omega))) | (with_reducible refine Blk.by (by assumption) ?_))); done))
  have kB : Blk w1 (w.heap.size + 1) #[.int .i64 kind', .slice a' pins'.length c', .int .i64 wd', .int .i64 len'] 46 := (by ((repeat (first | (with_reducible assumption) | (with_reducible refine Blk.drewN ?_ _) | (with_reducible refine Blk.drew ?_) | ((with_reducible refine Blk.new _ ?_); focus (first | omega | (simp; done) | (simp; omega))) | (with_reducible refine Blk.past ?_ _) | ((with_reducible refine Blk.apart ?_ _ _ _ ?_); rotate_left; focus (first | omega | (simp; done) | (simp; omega))) | (with_reducible refine Blk.by (by assumption) ?_))); done))
  have kR : Blk w1 (w.heap.size + 1 + 1) #[.int .i64 0, .slice none 0 0, .int .i64 0, .int .i64 0] 46 := (by ((repeat (first | (with_reducible assumption) | (with_reducible refine Blk.drewN ?_ _) | (with_reducible refine Blk.drew ?_) | ((with_reducible refine Blk.new _ ?_); focus (first | omega | (simp; done) | (simp; omega))) | (with_reducible refine Blk.past ?_ _) | ((with_reducible refine Blk.apart ?_ _ _ _ ?_); rotate_left; focus (first | omega | (simp; done) | (simp; omega))) | (with_reducible refine Blk.by (by assumption) ?_))); done))
  have hW1 : Below w.heap.size w w1 := (by ((repeat (first | (with_reducible exact Below.refl _ _) | (with_reducible refine below_drewN ?_ _) | (with_reducible refine Below.drew ?_) | (with_reducible refine below_al ?_ _) | (with_reducible refine below_on (by assumption) ?_) | ((with_reducible refine Below.setCell ?_ ?_ _); rotate_left; focus (first | omega | (simp; done) | (simp; omega))) | (with_reducible assumption))); done))
  have hOR : OwnR w1 (w.heap.size + 1 + 1 + 1) w1.heap.size pv [g, p, q] := by have h0 := hO.toR; simp only [World.size_alloc] at h0; exact h0
  obtain ⟨G, cap, cs, rfl, hG, hcap, hmx, hBk, hcs⟩ := OwnR.cells hOR (by simp)
  have HO := Lib.hid hOR
  have qA := kA.cell
  have lA := kA.lt
  have qB := kB.cell
  have lB := kB.lt
  clear hO hb1 hOR
  go_wp2_with fail
  refine (HF.out _).mono ?_
  rintro e w2 ⟨rfl, hb2⟩
  obtain ⟨D, hD⟩ : ∃ D, w1.heap.size = D := ⟨_, rfl⟩
  have kB2 : Blk w2 (w.heap.size + 1) #[.int .i64 kind', .slice a' pins'.length c', .int .i64 wd', .int .i64 len'] 46 := (by ((repeat (first | (with_reducible assumption) | (with_reducible refine Blk.drewN ?_ _) | (with_reducible refine Blk.drew ?_) | ((with_reducible refine Blk.new _ ?_); focus (first | omega | (simp; done) | (simp; omega))) | (with_reducible refine Blk.past ?_ _) | ((with_reducible refine Blk.apart ?_ _ _ _ ?_); rotate_left; focus (first | omega | (simp; done) | (simp; omega))) | (with_reducible refine Blk.by (by assumption) ?_))); done))
  have kR2 : Blk w2 (w.heap.size + 1 + 1) #[.int .i64 0, .slice none 0 0, .int .i64 0, .int .i64 0] 46 := (by ((repeat (first | (with_reducible assumption) | (with_reducible refine Blk.drewN ?_ _) | (with_reducible refine Blk.drew ?_) | ((with_reducible refine Blk.new _ ?_); focus (first | omega | (simp; done) | (simp; omega))) | (with_reducible refine Blk.past ?_ _) | ((with_reducible refine Blk.apart ?_ _ _ _ ?_); rotate_left; focus (first | omega | (simp; done) | (simp; omega))) | (with_reducible refine Blk.by (by assumption) ?_))); done))
  have kA2 : Blk w2 w.heap.size #[.int .i64 kind, .slice a 3 c, .int .i64 wd, .int .i64 len] 46 := (by ((repeat (first | (with_reducible assumption) | (with_reducible refine Blk.drewN ?_ _) | (with_reducible refine Blk.drew ?_) | ((with_reducible refine Blk.new _ ?_); focus (first | omega | (simp; done) | (simp; omega))) | (with_reducible refine Blk.past ?_ _) | ((with_reducible refine Blk.apart ?_ _ _ _ ?_); rotate_left; focus (first | omega | (simp; done) | (simp; omega))) | (with_reducible refine Blk.by (by assumption) ?_))); done))
  have kD2 : Blk w2 w1.heap.size #[.int .i64 kind, .slice (some ⟨G, 0, none⟩) 3 cap, .int .i64 wd, .int .i64 len] 46 := (by ((repeat (first | (with_reducible assumption) | (with_reducible refine Blk.drewN ?_ _) | (with_reducible refine Blk.drew ?_) | ((with_reducible refine Blk.new _ ?_); focus (first | omega | (simp; done) | (simp; omega))) | (with_reducible refine Blk.past ?_ _) | ((with_reducible refine Blk.apart ?_ _ _ _ ?_); rotate_left; focus (first | omega | (simp; done) | (simp; omega))) | (with_reducible refine Blk.by (by assumption) ?_))); done))
  have kG2 : Blk w2 G cs 2 := (by ((repeat (first | (with_reducible assumption) | (with_reducible refine Blk.drewN ?_ _) | (with_reducible refine Blk.drew ?_) | ((with_reducible refine Blk.new _ ?_); focus (first | omega | (simp; done) | (simp; omega))) | (with_reducible refine Blk.past ?_ _) | ((with_reducible refine Blk.apart ?_ _ _ _ ?_); rotate_left; focus (first | omega | (simp; done) | (simp; omega))) | (with_reducible refine Blk.by (by assumption) ?_))); done))
  have HO2 := Lib.hid (OwnR.by hb2 (OwnR.by ((Below.refl _ w1).alloc (Nat.le_refl _) _) HO.out))
  have hW2 : Below w.heap.size w w2 := (by ((repeat (first | (with_reducible exact Below.refl _ _) | (with_reducible refine below_drewN ?_ _) | (with_reducible refine Below.drew ?_) | (with_reducible refine below_al ?_ _) | (with_reducible refine below_on (by assumption) ?_) | ((with_reducible refine Below.setCell ?_ ?_ _); rotate_left; focus (first | omega | (simp; done) | (simp; omega))) | (with_reducible assumption))); done))
  have lR := kR.lt
  rw [hD] at kD2 hG HO2 lR
  rw [hD]
  have qA2 := kA2.cell
  have qD2 := kD2.cell
  have lD2 := kD2.lt
  clear hb2 qA lA qB lB kA kB kR hD
  go_upto_region 4 with fail
  go_region_held3 ((fun w' => (Blk w' (w.heap.size) #[.int .i64 kind, .slice a 3 c, .int .i64 wd, .int .i64 len] 46 ∧ ∀ o, w'.cell? ⟨w.heap.size, o, none⟩ = (#[.int .i64 kind, .slice a 3 c, .int .i64 wd, .int .i64 len] : Array Value)[o]?) ∧ (Blk w' (D) #[.int .i64 kind, .slice (some ⟨G, 0, none⟩) 3 cap, .int .i64 wd, .int .i64 len] 46 ∧ ∀ o, w'.cell? ⟨D, o, none⟩ = (#[.int .i64 kind, .slice (some ⟨G, 0, none⟩) 3 cap, .int .i64 wd, .int .i64 len] : Array Value)[o]?) ∧ Below w.heap.size w w')) (((try (obtain ⟨⟨hS0, _⟩, ⟨hS1, _⟩, hSB⟩ := hHeld)); refine ⟨Blk.both ?_, Blk.both ?_, ?_⟩ <;> first | ((repeat (first | (with_reducible assumption) | (with_reducible refine Blk.drewN ?_ _) | (with_reducible refine Blk.drew ?_) | ((with_reducible refine Blk.new _ ?_); focus (first | omega | (simp; done) | (simp; omega))) | (with_reducible refine Blk.past ?_ _) | ((with_reducible refine Blk.apart ?_ _ _ _ ?_); rotate_left; focus (first | omega | (simp; done) | (simp; omega))) | (with_reducible refine Blk.by (by assumption) ?_))); done) | ((repeat (first | (with_reducible exact Below.refl _ _) | (with_reducible refine below_drewN ?_ _) | (with_reducible refine Below.drew ?_) | (with_reducible refine below_al ?_ _) | (with_reducible refine below_on (by assumption) ?_) | ((with_reducible refine Below.setCell ?_ ?_ _); rotate_left; focus (first | omega | (simp; done) | (simp; omega))) | (with_reducible assumption))); done)))
    (first | (go_at_call 91; refine (HC1.out _ (H.out.by (by ((repeat (first | (with_reducible exact Below.refl _ _) | (with_reducible refine below_drewN ?_ _) | (with_reducible refine Below.drew ?_) | (with_reducible refine below_al ?_ _) | (with_reducible refine below_on (by assumption) ?_) | ((with_reducible refine Below.setCell ?_ ?_ _); rotate_left; focus (first | omega | (simp; done) | (simp; omega))) | (with_reducible assumption))); done)))).mono ?_; rintro e w3 ⟨rfl, hb3⟩; have kG3 : Blk w3 G cs 2 := (by ((repeat (first | (with_reducible assumption) | (with_reducible refine Blk.drewN ?_ _) | (with_reducible refine Blk.drew ?_) | ((with_reducible refine Blk.new _ ?_); focus (first | omega | (simp; done) | (simp; omega))) | (with_reducible refine Blk.past ?_ _) | ((with_reducible refine Blk.apart ?_ _ _ _ ?_); rotate_left; focus (first | omega | (simp; done) | (simp; omega))) | (with_reducible refine Blk.by (by assumption) ?_))); done)); have fG3 := kG3.free; have cG3 := (kG3.cell 1).trans (hcs 1 p (by simp))))
  clear qA2 qD2 lD2
  rename_i hH4
  obtain ⟨-, -, hW4'⟩ := hH4
  obtain ⟨w4, hw4⟩ : ∃ z, z = w3.setCell ⟨G, 1, none⟩ (.int .i64 O1) := ⟨_, rfl⟩
  have HO4 : Hid (OwnR w4 (w.heap.size + 1 + 1 + 1) D (.slice (some ⟨G, 0, none⟩) 3 cap) [g, O1, q]) := Lib.hid (by
    rw [hw4]
    exact (OwnR.by hb3 (OwnR.by (Below.refl _ _).drew HO2.out)).setAt 1 O1)
  have kB4 : Blk w4 (w.heap.size + 1) #[.int .i64 kind', .slice a' pins'.length c', .int .i64 wd', .int .i64 len'] 46 := by rw [hw4]; exact (Blk.by hb3 kB2.drew).apart G _ _ (by omega)
  have kA4 : Blk w4 w.heap.size #[.int .i64 kind, .slice a 3 c, .int .i64 wd, .int .i64 len] 46 := by rw [hw4]; exact (Blk.by hb3 kA2.drew).apart G _ _ (by omega)
  have kR4 : Blk w4 (w.heap.size + 1 + 1) #[.int .i64 0, .slice none 0 0, .int .i64 0, .int .i64 0] 46 := by rw [hw4]; exact (Blk.by hb3 kR2.drew).apart G _ _ (by omega)
  have kD4 : Blk w4 D #[.int .i64 kind, .slice (some ⟨G, 0, none⟩) 3 cap, .int .i64 wd, .int .i64 len] 46 := by rw [hw4]; exact (Blk.by hb3 kD2.drew).apart G _ _ (by omega)
  have kG4 := HO4.out.cellsAt (by simp)
  have hW4 : Below w.heap.size w w4 := by rw [hw4]; exact hW4'
  rw [← hw4]
  obtain ⟨cs4, kG4, hcs4⟩ := kG4
  clear hw4 hW4' hb3 kG3 fG3 cG3 kA2 kB2 kR2 kD2 kG2 HO2
  have wr2 : IntKind.i64.wrap 2 = 2 := by decide
  have bnd2 : 0 ≤ IntKind.i64.wrap 2 ∧ IntKind.i64.wrap 2 < 3 := by decide
  go_upto_region 5 with fail
  have qB4 := kB4.cell
  have qD4 := kD4.cell
  have lD4 := kD4.lt
  go_region_held3 ((fun w' => (Blk w' (w.heap.size + 1) #[.int .i64 kind', .slice a' pins'.length c', .int .i64 wd', .int .i64 len'] 46 ∧ ∀ o, w'.cell? ⟨w.heap.size + 1, o, none⟩ = (#[.int .i64 kind', .slice a' pins'.length c', .int .i64 wd', .int .i64 len'] : Array Value)[o]?) ∧ (Blk w' (D) #[.int .i64 kind, .slice (some ⟨G, 0, none⟩) 3 cap, .int .i64 wd, .int .i64 len] 46 ∧ ∀ o, w'.cell? ⟨D, o, none⟩ = (#[.int .i64 kind, .slice (some ⟨G, 0, none⟩) 3 cap, .int .i64 wd, .int .i64 len] : Array Value)[o]?) ∧ Below w.heap.size w w')) (((try (obtain ⟨⟨hS0, _⟩, ⟨hS1, _⟩, hSB⟩ := hHeld)); refine ⟨Blk.both ?_, Blk.both ?_, ?_⟩ <;> first | ((repeat (first | (with_reducible assumption) | (with_reducible refine Blk.drewN ?_ _) | (with_reducible refine Blk.drew ?_) | ((with_reducible refine Blk.new _ ?_); focus (first | omega | (simp; done) | (simp; omega))) | (with_reducible refine Blk.past ?_ _) | ((with_reducible refine Blk.apart ?_ _ _ _ ?_); rotate_left; focus (first | omega | (simp; done) | (simp; omega))) | (with_reducible refine Blk.by (by assumption) ?_))); done) | ((repeat (first | (with_reducible exact Below.refl _ _) | (with_reducible refine below_drewN ?_ _) | (with_reducible refine Below.drew ?_) | (with_reducible refine below_al ?_ _) | (with_reducible refine below_on (by assumption) ?_) | ((with_reducible refine Below.setCell ?_ ?_ _); rotate_left; focus (first | omega | (simp; done) | (simp; omega))) | (with_reducible assumption))); done)))
    (first | (go_at_call 91; refine (HC2.out _ (H'.out.by (by ((repeat (first | (with_reducible exact Below.refl _ _) | (with_reducible refine below_drewN ?_ _) | (with_reducible refine Below.drew ?_) | (with_reducible refine below_al ?_ _) | (with_reducible refine below_on (by assumption) ?_) | ((with_reducible refine Below.setCell ?_ ?_ _); rotate_left; focus (first | omega | (simp; done) | (simp; omega))) | (with_reducible assumption))); done)))).mono ?_; rintro e w5 ⟨rfl, hb5⟩; have kG5 : Blk w5 G cs4 2 := (by ((repeat (first | (with_reducible assumption) | (with_reducible refine Blk.drewN ?_ _) | (with_reducible refine Blk.drew ?_) | ((with_reducible refine Blk.new _ ?_); focus (first | omega | (simp; done) | (simp; omega))) | (with_reducible refine Blk.past ?_ _) | ((with_reducible refine Blk.apart ?_ _ _ _ ?_); rotate_left; focus (first | omega | (simp; done) | (simp; omega))) | (with_reducible refine Blk.by (by assumption) ?_))); done)); have fG5 := kG5.free; have cG5 := (kG5.cell 2).trans (hcs4 2 q (by simp))))
  rename_i hH6
  obtain ⟨-, -, hW6'⟩ := hH6
  obtain ⟨w6, hw6⟩ : ∃ z, z = w5.setCell ⟨G, 2, none⟩ (.int .i64 O2) := ⟨_, rfl⟩
  have HO6 : Hid (OwnR w6 (w.heap.size + 1 + 1 + 1) D (.slice (some ⟨G, 0, none⟩) 3 cap) [g, O1, O2]) := Lib.hid (by
    rw [hw6]
    exact (OwnR.by hb5 (OwnR.by (Below.refl _ _).drew HO4.out)).setAt 2 O2)
  have kB6 : Blk w6 (w.heap.size + 1) #[.int .i64 kind', .slice a' pins'.length c', .int .i64 wd', .int .i64 len'] 46 := by rw [hw6]; exact (Blk.by hb5 kB4.drew).apart G _ _ (by omega)
  have kA6 : Blk w6 w.heap.size #[.int .i64 kind, .slice a 3 c, .int .i64 wd, .int .i64 len] 46 := by rw [hw6]; exact (Blk.by hb5 kA4.drew).apart G _ _ (by omega)
  have kR6 : Blk w6 (w.heap.size + 1 + 1) #[.int .i64 0, .slice none 0 0, .int .i64 0, .int .i64 0] 46 := by rw [hw6]; exact (Blk.by hb5 kR4.drew).apart G _ _ (by omega)
  have kD6 : Blk w6 D #[.int .i64 kind, .slice (some ⟨G, 0, none⟩) 3 cap, .int .i64 wd, .int .i64 len] 46 := by rw [hw6]; exact (Blk.by hb5 kD4.drew).apart G _ _ (by omega)
  have hW6 : Below w.heap.size w w6 := by rw [hw6]; exact hW6'
  rw [← hw6]
  clear hw6 hW6' hb5 kG5 fG5 cG5 kA4 kB4 kR4 kD4 kG4 HO4 qB4 qD4 lD4
  have qA6 := kA6.cell
  have lA6 := kA6.lt
  have qB6 := kB6.cell
  have lB6 := kB6.lt
  go_wp2_with fail
  refine (HLO1.out _).mono ?_
  rintro e w7 ⟨rfl, hb7⟩
  have kR7 := Blk.by hb7 kR6
  have kD7 := Blk.by hb7 kD6
  have kA7 := Blk.by hb7 kA6
  have kB7 := Blk.by hb7 kB6
  have hW7 := below_on hb7 hW6
  have HO7 := Lib.hid (OwnR.by hb7 HO6.out)
  have qA7 := kA7.cell
  have lA7 := kA7.lt
  have qB7 := kB7.cell
  have lB7 := kB7.lt
  have qD7 := kD7.cell
  have fD7 := kD7.free
  have lD7 := kD7.lt
  have qR7 := kR7.cell
  have fR7 := kR7.free
  have lR7 := kR7.lt
  clear hb7 qA6 lA6 qB6 lB6 kA6 kB6 kR6 kD6 HO6
  go_wp2
  refine bodyPost_ret (v := .agg #[.int .i64 kind, .slice (some ⟨G, 0, none⟩) 3 cap, .int .i64 wd, .int .i64 (len + len')]) (by simp [results, Try.results43, go_sem, *]) rfl ⟨_, rfl, ?_, ?_⟩
  · have q2 := OwnR.past (Within.off (g := D) (o := 3) (.int .i64 (len + len'))) HO7.out (by omega)
    have q3 := OwnR.past (Within.off (g := w.heap.size + 1 + 1) (o := 0) (.int .i64 kind)) q2 (by omega)
    have q4 := OwnR.past (Within.off (g := w.heap.size + 1 + 1) (o := 1) (.slice (some ⟨G, 0, none⟩) 3 cap)) q3 (by omega)
    have q5 := OwnR.past (Within.off (g := w.heap.size + 1 + 1) (o := 2) (.int .i64 wd)) q4 (by omega)
    have q6 := OwnR.past (Within.off (g := w.heap.size + 1 + 1) (o := 3) (.int .i64 (len + len'))) q5 (by omega)
    exact OwnR.wide' (OwnR.by ((Below.refl _ _).alloc (Nat.le_refl _) _) q6) (by omega) (by simp; omega)
  · ((repeat (first | (with_reducible exact Below.refl _ _) | (with_reducible refine below_drewN ?_ _) | (with_reducible refine Below.drew ?_) | (with_reducible refine below_al ?_ _) | (with_reducible refine below_on (by assumption) ?_) | ((with_reducible refine Below.setCell ?_ ?_ _); rotate_left; focus (first | omega | (simp; done) | (simp; omega))) | (with_reducible assumption))); done)
end Go.Proofs.Ytnchhdhlhlcejaa
