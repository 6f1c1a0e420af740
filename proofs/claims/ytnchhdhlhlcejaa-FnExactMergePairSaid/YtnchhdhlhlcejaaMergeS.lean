/- The program's merged: devices in series. -/
import Derived.Test.YtnchhdhlhlcejaaMergeI
import Derived.Test.YtnchhdhlhlcejaaRenM
import Derived.Deep.DeepCutAuto
namespace Go.Proofs.Ytnchhdhlhlcejaa
open Go.RowKit
set_option linter.unusedVariables false
set_option linter.unusedSimpArgs false

theorem OwnR.setAt {w : World} {lo hi G n cap : Nat} {zs : List Int} (h : OwnR w lo hi (.slice (some ⟨G, 0, none⟩) n cap) zs) (i : Nat) (y : Int) : OwnR (w.setCell ⟨G, i, none⟩ (.int .i64 y)) lo hi (.slice (some ⟨G, 0, none⟩) n cap) (zs.set i y) := by
  rcases h with ⟨_, _, e, hz⟩ | ⟨g, cap', cs, e1, e2, e3, e4, e5, e6, e7⟩
  · subst hz
    cases e
    exact .inl ⟨_, _, rfl, rfl⟩
  · have hg : G = g := by have := congrArg Value.ownBlock e1; simpa [Value.ownBlock] using this
    subst hg
    refine .inr ⟨G, cap', cs.setIfInBounds i (.int .i64 y), by rw [List.length_set]; exact e1, e2, e3, by rw [List.length_set]; exact e4, e5, Blk.set e6 i _, fun j x hx => ?_⟩
    rw [List.getElem?_set] at hx
    rw [Array.getElem?_setIfInBounds]
    by_cases e : i = j
    · subst e
      rw [if_pos rfl] at hx ⊢
      split at hx
      · rename_i hlt
        have hz : zs[i]? = some zs[i] := List.getElem?_eq_getElem hlt
        have := (Array.getElem?_eq_some_iff.1 (e7 i _ hz)).1
        rw [if_pos this]
        simp at hx
        rw [hx]
      · cases hx
    · rw [if_neg e] at hx ⊢
      exact e7 j x hx

set_option maxRecDepth 100000 in
set_option maxHeartbeats 2000000 in
theorem mergedSerM_any (x y : Dv) (net : Int) (sx sy : Value) (w : World) (h : IntSl w sx x.pins) (h' : IntSl w sy y.pins) (hx : Shp x) (hy : Shp y) (hk : x.kind ≠ 2)
    (pb : (0 ≤ curP x.pins ∧ curP x.pins ≤ 24) ∧ (0 ≤ curQ x.pins ∧ curQ x.pins ≤ 24)) (qb : (0 ≤ curP y.pins ∧ curP y.pins ≤ 24) ∧ (0 ≤ curQ y.pins ∧ curQ y.pins ≤ 24)) (hn0 : 0 ≤ net ∧ net ≤ 24)
    (n1 : net = curP x.pins ∨ net = curQ x.pins) (n2 : net = curP y.pins ∨ net = curQ y.pins) (hnet : net = serN x y)
    (b2 : 1 ≤ x.len ∧ x.len ≤ 1000000) (b4 : 1 ≤ y.len ∧ y.len ≤ 1000000) :
    Calls Try.prog 48 #[.agg #[.int .i64 x.kind, sx, .int .i64 x.wd, .int .i64 x.len], .agg #[.int .i64 y.kind, sy, .int .i64 y.wd, .int .i64 y.len], .int .i64 net, .bool true] w
      fun e w' => ∃ pv, e = .returned (.agg #[.int .i64 x.kind, pv, .int .i64 (mgW x y true), .int .i64 (mgL x y true)]) ∧ OwnR w' w.heap.size w'.heap.size pv (mgPins x y true) ∧ Below w.heap.size w w' := by
  obtain ⟨g, p, q, hp⟩ : ∃ g p q, x.pins = [g, p, q] := by
    rcases hx with ⟨k2, _⟩ | ⟨_, g, p, q, e⟩
    · exact absurd k2 hk
    · exact ⟨g, p, q, e⟩
  have hP : curP x.pins = p := by rw [hp]; rfl
  have hQ : curQ x.pins = q := by rw [hp]; rfl
  have hmp : mgPins x y true = [g, otherN p q net, otherN (curP y.pins) (curQ y.pins) net] := by
    unfold mgPins
    rw [if_pos rfl, if_neg hk, hP, hQ, hnet, hp]
    rfl
  have o1 := otherN_sum n1
  have o2 := otherN_sum n2
  rw [hP, hQ] at o1 pb
  rw [hmp]
  have hW : mgW x y true = x.wd := by simp [mgW, hk]
  have hL : mgL x y true = x.len + y.len := by simp [mgL, hk]
  rw [hW, hL]
  have HCP := Lib.hid (fun w h => copyDevice_any x.kind x.wd x.len sx x.pins w h (by rw [hp]; simp))
  have HC1 := Lib.hid (fun w h => currentPins_any x sx w h hx)
  have HC2 := Lib.hid (fun w h => currentPins_any y sy w h hy)
  rw [hP, hQ] at HC1
  have H := Lib.hid h
  have H' := Lib.hid h'
  obtain ⟨r, hr⟩ : ∃ r, curP y.pins = r := ⟨_, rfl⟩
  obtain ⟨s, hs⟩ : ∃ s, curQ y.pins = s := ⟨_, rfl⟩
  rw [hr, hs] at HC2 o2 qb ⊢
  rw [← o1, ← o2]
  rw [hp] at HCP H
  obtain ⟨a, c, rfl⟩ := h.len
  obtain ⟨a', c', rfl⟩ := h'.len
  rw [hp]
  have hl3 : x.pins.length = 3 := by rw [hp]; rfl
  obtain ⟨kind, pins, wd, len⟩ := x
  obtain ⟨kind', pins', wd', len'⟩ := y
  dsimp only at HCP HC1 HC2 H H' b2 b4 hk hl3 hp ⊢
  subst hp
  have e1 : (kind == 2) = false := by simpa using hk
  have w5' : IntKind.i64.wrap (len + len') = len + len' := by simp [IntKind.wrap, IntKind.bits, IntKind.signed]; omega
  clear h h' hx hy hk hP hQ hmp hW hL hr hs n1 n2 hnet o1 o2 hl3
  go_enter Try.func48, Try.ntmps48
  go_wp2_with fail
  refine (HCP.out _ (H.out.by (by ((repeat (first | (with_reducible exact Below.refl _ _) | (with_reducible refine below_drewN ?_ _) | (with_reducible refine Below.drew ?_) | (with_reducible refine below_al ?_ _) | (with_reducible refine below_on (by assumption) ?_) | ((with_reducible refine Below.setCell ?_ ?_ _); rotate_left; focus (first | omega | (simp; done) | (simp; omega))) | (with_reducible assumption))); done)))).mono ?_
  rintro e w1 ⟨pv, rfl, hO, hb1⟩
  have kA : Blk w1 w.heap.size #[.int .i64 kind, .slice a 3 c, .int .i64 wd, .int .i64 len] 46 := (by ((repeat (first | (with_reducible assumption) | (with_reducible refine Blk.drewN ?_ _) | (with_reducible refine Blk.drew ?_) | ((with_reducible refine Blk.new _ ?_); focus (first | omega | (simp; done) | (simp; omega))) | (with_reducible refine Blk.past ?_ _) | ((with_reducible refine Blk.apart ?_ _ _ _ ?_); rotate_left; focus (first | omega | (simp; done) | (simp; omega))) | (with_reducible refine Blk.by (by assumption) ?_))); done))
  have kB : Blk w1 (w.heap.size + 1) #[.int .i64 kind', .slice a' pins'.length c', .int .i64 wd', .int .i64 len'] 46 := (by ((repeat (first | (with_reducible assumption) | (with_reducible refine Blk.drewN ?_ _) | (with_reducible refine Blk.drew ?_) | ((with_reducible refine Blk.new _ ?_); focus (first | omega | (simp; done) | (simp; omega))) | (with_reducible refine Blk.past ?_ _) | ((with_reducible refine Blk.apart ?_ _ _ _ ?_); rotate_left; focus (first | omega | (simp; done) | (simp; omega))) | (with_reducible refine Blk.by (by assumption) ?_))); done))
  have kR : Blk w1 (w.heap.size + 1 + 1) #[.int .i64 0, .slice none 0 0, .int .i64 0, .int .i64 0] 46 := (by ((repeat (first | (with_reducible assumption) | (with_reducible refine Blk.drewN ?_ _) | (with_reducible refine Blk.drew ?_) | ((with_reducible refine Blk.new _ ?_); focus (first | omega | (simp; done) | (simp; omega))) | (with_reducible refine Blk.past ?_ _) | ((with_reducible refine Blk.apart ?_ _ _ _ ?_); rotate_left; focus (first | omega | (simp; done) | (simp; omega))) | (with_reducible refine Blk.by (by assumption) ?_))); done))
  have hW1 : Below w.heap.size w w1 := (by ((repeat (first | (with_reducible exact Below.refl _ _) | (with_reducible refine below_drewN ?_ _) | (with_reducible refine Below.drew ?_) | (with_reducible refine below_al ?_ _) | (with_reducible refine below_on (by assumption) ?_) | ((with_reducible refine Below.setCell ?_ ?_ _); rotate_left; focus (first | omega | (simp; done) | (simp; omega))) | (with_reducible assumption))); done))
  have hOR : OwnR w1 (w.heap.size + 1 + 1 + 1) w1.heap.size pv [g, p, q] := by have h0 := hO.toR; simp only [World.size_alloc] at h0; exact h0
  obtain ⟨G, cap, cs, rfl, hG, hcap, hmx, hBk, hcs⟩ := OwnR.cells hOR (by simp)
  have HO := Lib.hid hOR
  have qA := kA.cell
  have lA := kA.lt
  have qB := kB.cell
  have lB := kB.lt
  clear hO hb1 hOR
  go_wp2_with fail
  refine (HC1.out _ (H.out.by (by ((repeat (first | (with_reducible exact Below.refl _ _) | (with_reducible refine below_drewN ?_ _) | (with_reducible refine Below.drew ?_) | (with_reducible refine below_al ?_ _) | (with_reducible refine below_on (by assumption) ?_) | ((with_reducible refine Below.setCell ?_ ?_ _); rotate_left; focus (first | omega | (simp; done) | (simp; omega))) | (with_reducible assumption))); done)))).mono ?_
  rintro e w2 ⟨rfl, hb2⟩
  obtain ⟨D, hD⟩ : ∃ D, w1.heap.size = D := ⟨_, rfl⟩
  have kB2 : Blk w2 (w.heap.size + 1) #[.int .i64 kind', .slice a' pins'.length c', .int .i64 wd', .int .i64 len'] 46 := (by ((repeat (first | (with_reducible assumption) | (with_reducible refine Blk.drewN ?_ _) | (with_reducible refine Blk.drew ?_) | ((with_reducible refine Blk.new _ ?_); focus (first | omega | (simp; done) | (simp; omega))) | (with_reducible refine Blk.past ?_ _) | ((with_reducible refine Blk.apart ?_ _ _ _ ?_); rotate_left; focus (first | omega | (simp; done) | (simp; omega))) | (with_reducible refine Blk.by (by assumption) ?_))); done))
  have kR2 : Blk w2 (w.heap.size + 1 + 1) #[.int .i64 0, .slice none 0 0, .int .i64 0, .int .i64 0] 46 := (by ((repeat (first | (with_reducible assumption) | (with_reducible refine Blk.drewN ?_ _) | (with_reducible refine Blk.drew ?_) | ((with_reducible refine Blk.new _ ?_); focus (first | omega | (simp; done) | (simp; omega))) | (with_reducible refine Blk.past ?_ _) | ((with_reducible refine Blk.apart ?_ _ _ _ ?_); rotate_left; focus (first | omega | (simp; done) | (simp; omega))) | (with_reducible refine Blk.by (by assumption) ?_))); done))
  have kA2 : Blk w2 w.heap.size #[.int .i64 kind, .slice a 3 c, .int .i64 wd, .int .i64 len] 46 := (by ((repeat (first | (with_reducible assumption) | (with_reducible refine Blk.drewN ?_ _) | (with_reducible refine Blk.drew ?_) | ((with_reducible refine Blk.new _ ?_); focus (first | omega | (simp; done) | (simp; omega))) | (with_reducible refine Blk.past ?_ _) | ((with_reducible refine Blk.apart ?_ _ _ _ ?_); rotate_left; focus (first | omega | (simp; done) | (simp; omega))) | (with_reducible refine Blk.by (by assumption) ?_))); done))
  have kD2 : Blk w2 w1.heap.size #[.int .i64 kind, .slice (some ⟨G, 0, none⟩) 3 cap, .int .i64 wd, .int .i64 len] 46 := (by ((repeat (first | (with_reducible assumption) | (with_reducible refine Blk.drewN ?_ _) | (with_reducible refine Blk.drew ?_) | ((with_reducible refine Blk.new _ ?_); focus (first | omega | (simp; done) | (simp; omega))) | (with_reducible refine Blk.past ?_ _) | ((with_reducible refine Blk.apart ?_ _ _ _ ?_); rotate_left; focus (first | omega | (simp; done) | (simp; omega))) | (with_reducible refine Blk.by (by assumption) ?_))); done))
  have kG2 : Blk w2 G cs 2 := (by ((repeat (first | (with_reducible assumption) | (with_reducible refine Blk.drewN ?_ _) | (with_reducible refine Blk.drew ?_) | ((with_reducible refine Blk.new _ ?_); focus (first | omega | (simp; done) | (simp; omega))) | (with_reducible refine Blk.past ?_ _) | ((with_reducible refine Blk.apart ?_ _ _ _ ?_); rotate_left; focus (first | omega | (simp; done) | (simp; omega))) | (with_reducible refine Blk.by (by assumption) ?_))); done))
  have HO2 := Lib.hid (OwnR.by hb2 (OwnR.by ((Below.refl _ w1).alloc (Nat.le_refl _) _) HO.out))
  have hW2 : Below w.heap.size w w2 := (by ((repeat (first | (with_reducible exact Below.refl _ _) | (with_reducible refine below_drewN ?_ _) | (with_reducible refine Below.drew ?_) | (with_reducible refine below_al ?_ _) | (with_reducible refine below_on (by assumption) ?_) | ((with_reducible refine Below.setCell ?_ ?_ _); rotate_left; focus (first | omega | (simp; done) | (simp; omega))) | (with_reducible assumption))); done))
  have lR := kR.lt
  rw [hD] at kD2 hG HO2 lR
  rw [hD]
  have qB2 := kB2.cell
  have lB2 := kB2.lt
  clear hb2 qA lA qB lB kA kB kR hD
  go_wp2_with fail
  refine (HC2.out _ (H'.out.by (by ((repeat (first | (with_reducible exact Below.refl _ _) | (with_reducible refine below_drewN ?_ _) | (with_reducible refine Below.drew ?_) | (with_reducible refine below_al ?_ _) | (with_reducible refine below_on (by assumption) ?_) | ((with_reducible refine Below.setCell ?_ ?_ _); rotate_left; focus (first | omega | (simp; done) | (simp; omega))) | (with_reducible assumption))); done)))).mono ?_
  rintro e w3 ⟨rfl, hb3⟩
  have kB3 := Blk.by hb3 kB2
  have kR3 := Blk.by hb3 kR2
  have kA3 := Blk.by hb3 kA2
  have kD3 := Blk.by hb3 kD2
  have kG3 := Blk.by hb3 kG2
  have HO3 := Lib.hid (OwnR.by hb3 HO2.out)
  have hW3 := below_on hb3 hW2
  have qD3 := kD3.cell
  have lD3 := kD3.lt
  clear hb3 qB2 lB2 kB2 kR2 kA2 kD2 kG2
  go_upto_region 6 with fail
  have fG := kG3.free
  have lG := kG3.lt
  have s1 : (cs[1]?).isSome = true := by
    have := hcs 1 p (by simp)
    rw [this]; rfl
  have s2 : (cs[2]?).isSome = true := by
    have := hcs 2 q (by simp)
    rw [this]; rfl
  have c1' : w3.cell? ⟨G, 1, none⟩ = some (.int .i64 p) := (kG3.cell 1).trans (hcs 1 p (by simp))
  have c2' : w3.cell? ⟨G, 2, none⟩ = some (.int .i64 q) := (kG3.cell 2).trans (hcs 2 q (by simp))
  go_region
  obtain ⟨w4, hw4⟩ : ∃ z, z = ((w3.setCell ⟨G, 1, none⟩ (.int .i64 (p + q - net))).setCell ⟨G, 2, none⟩ (.int .i64 (r + s - net))).drew := ⟨_, rfl⟩
  have HO4 : Hid (OwnR w4 (w.heap.size + 1 + 1 + 1) D (.slice (some ⟨G, 0, none⟩) 3 cap) [g, p + q - net, r + s - net]) := Lib.hid (by
    rw [hw4]
    exact OwnR.by (Below.refl _ _).drew ((HO3.out.setAt 1 (p + q - net)).setAt 2 (r + s - net)))
  have kB4 : Blk w4 (w.heap.size + 1) #[.int .i64 kind', .slice a' pins'.length c', .int .i64 wd', .int .i64 len'] 46 := by rw [hw4]; exact ((kB3.apart G _ _ (by omega)).apart G _ _ (by omega)).drew
  have kA4 : Blk w4 w.heap.size #[.int .i64 kind, .slice a 3 c, .int .i64 wd, .int .i64 len] 46 := by rw [hw4]; exact ((kA3.apart G _ _ (by omega)).apart G _ _ (by omega)).drew
  have kR4 : Blk w4 (w.heap.size + 1 + 1) #[.int .i64 0, .slice none 0 0, .int .i64 0, .int .i64 0] 46 := by rw [hw4]; exact ((kR3.apart G _ _ (by omega)).apart G _ _ (by omega)).drew
  have kD4 : Blk w4 D #[.int .i64 kind, .slice (some ⟨G, 0, none⟩) 3 cap, .int .i64 wd, .int .i64 len] 46 := by rw [hw4]; exact ((kD3.apart G _ _ (by omega)).apart G _ _ (by omega)).drew
  have hW4 : Below w.heap.size w w4 := by rw [hw4]; exact ((hW3.setCell (by simp; omega) _).setCell (by simp; omega) _).drew
  rw [← hw4]
  have qA4 := kA4.cell
  have lA4 := kA4.lt
  have qB4 := kB4.cell
  have lB4 := kB4.lt
  have qD4 := kD4.cell
  have fD4 := kD4.free
  have lD4 := kD4.lt
  have qR4 := kR4.cell
  have fR4 := kR4.free
  have lR4 := kR4.lt
  clear hw4 qD3 lD3 fG lG s1 s2 c1' c2' kA3 kB3 kR3 kD3 kG3
  go_wp2
  refine bodyPost_ret (v := .agg #[.int .i64 kind, .slice (some ⟨G, 0, none⟩) 3 cap, .int .i64 wd, .int .i64 (len + len')]) (by simp [results, Try.results48, go_sem, *]) rfl ⟨_, rfl, ?_, (by ((repeat (first | (with_reducible exact Below.refl _ _) | (with_reducible refine below_drewN ?_ _) | (with_reducible refine Below.drew ?_) | (with_reducible refine below_al ?_ _) | (with_reducible refine below_on (by assumption) ?_) | ((with_reducible refine Below.setCell ?_ ?_ _); rotate_left; focus (first | omega | (simp; done) | (simp; omega))) | (with_reducible assumption))); done))⟩
  have q2 := OwnR.past (Within.off (g := D) (o := 3) (.int .i64 (len + len'))) HO4.out (by omega)
  have q3 := OwnR.past (Within.off (g := w.heap.size + 1 + 1) (o := 0) (.int .i64 kind)) q2 (by omega)
  have q4 := OwnR.past (Within.off (g := w.heap.size + 1 + 1) (o := 1) (.slice (some ⟨G, 0, none⟩) 3 cap)) q3 (by omega)
  have q5 := OwnR.past (Within.off (g := w.heap.size + 1 + 1) (o := 2) (.int .i64 wd)) q4 (by omega)
  have q6 := OwnR.past (Within.off (g := w.heap.size + 1 + 1) (o := 3) (.int .i64 (len + len'))) q5 (by omega)
  exact OwnR.wide' q6 (by omega) (by simp; omega)
end Go.Proofs.Ytnchhdhlhlcejaa
