/- The program's parallel; the first pair, both packages. -/
import Derived.Test.YtnchhdhlhlcejaaParB
import Derived.Test.YtnchhdhlhlcejaaSpecNl
import Derived.Test.YtnchhdhlhlcejaaImplNl
import Derived.Shelf.Abstract
namespace Go.Proofs.Ytnchhdhlhlcejaa
open Go.RowKit
set_option linter.unusedVariables false
set_option linter.unusedSimpArgs false

set_option maxRecDepth 100000 in
set_option maxHeartbeats 4000000 in
theorem parallel_any (x y : Dv) (s t : Value) (w : World) (h : IntSl w s x.pins) (h' : IntSl w t y.pins) (hs : Shp x) (ht : Shp y) :
    Calls Try.prog 47 #[.agg #[.int .i64 x.kind, s, .int .i64 x.wd, .int .i64 x.len], .agg #[.int .i64 y.kind, t, .int .i64 y.wd, .int .i64 y.len]] w fun e w' => e = .returned (.bool (parB x y)) ∧ Below w.heap.size w w' := by
  have HB := Lib.hid (show parB x y = (decide (x.kind = y.kind) && ((decide (x.kind = 2) || decide (gateOf x.pins = gateOf y.pins)) && ((decide (x.kind = 2) || decide (x.len = y.len)) && ((decide (curP x.pins = curP y.pins) && decide (curQ x.pins = curQ y.pins)) || (decide (curP x.pins = curQ y.pins) && decide (curQ x.pins = curP y.pins)))))) from rfl)
  have HCX := Lib.hid (fun w h => currentPins_any x s w h hs)
  have HCY := Lib.hid (fun w h => currentPins_any y t w h ht)
  have HSG := fun w h h' => sameGate_any x y s t w h h' hs ht
  have HSB := Lib.hid (show sgB x y = (decide (x.kind = 2) || decide (gateOf x.pins = gateOf y.pins)) from rfl)
  generalize parB x y = r at *
  generalize sgB x y = sg at *
  have HX := Lib.hid h
  have HY := Lib.hid h'
  obtain ⟨a, c, rfl⟩ := h.len
  obtain ⟨a', c', rfl⟩ := h'.len
  clear h h' hs ht
  generalize x.pins.length = n1 at *
  generalize y.pins.length = n2 at *
  by_cases hk : x.kind = y.kind
  · have HK := Lib.hid hk
    have HS := Lib.hid (fun w h h' => HSG w h h' hk)
    rw [hk] at HS HCX
    rw [hk]
    clear HSG hk
    rcases Bool.eq_false_or_eq_true sg with hsg | hsg
    · subst hsg
      rcases Bool.eq_false_or_eq_true (y.kind != 2) with hk2 | hk2
      · rcases Bool.eq_false_or_eq_true (x.len != y.len) with hl | hl
        · have HL := Lib.hid hl
          have HK2 := Lib.hid hk2
          go_enter Try.func47, Try.ntmps47
          go_wp2_with (go_at_call 93; refine (HS.out _ (HX.out.by (by ((repeat (first | (with_reducible exact Below.refl _ _) | (with_reducible refine below_drewN ?_ _) | (with_reducible refine Below.drew ?_) | (with_reducible refine below_al ?_ _) | (with_reducible refine below_on (by assumption) ?_) | ((with_reducible refine Below.setCell ?_ ?_ _); rotate_left; focus (first | omega | (simp; done) | (simp; omega))) | (with_reducible assumption))); done))) (HY.out.by (by ((repeat (first | (with_reducible exact Below.refl _ _) | (with_reducible refine below_drewN ?_ _) | (with_reducible refine Below.drew ?_) | (with_reducible refine below_al ?_ _) | (with_reducible refine below_on (by assumption) ?_) | ((with_reducible refine Below.setCell ?_ ?_ _); rotate_left; focus (first | omega | (simp; done) | (simp; omega))) | (with_reducible assumption))); done)))).mono ?_; rintro e w1 ⟨rfl, hb1⟩; have k0 : Blk w1 w.heap.size #[.int .i64 y.kind, .slice a n1 c, .int .i64 x.wd, .int .i64 x.len] 46 := (by ((repeat (first | (with_reducible assumption) | (with_reducible refine Blk.drewN ?_ _) | (with_reducible refine Blk.drew ?_) | ((with_reducible refine Blk.new _ ?_); focus (first | omega | (simp; done) | (simp; omega))) | (with_reducible refine Blk.past ?_ _) | ((with_reducible refine Blk.apart ?_ _ _ _ ?_); rotate_left; focus (first | omega | (simp; done) | (simp; omega))) | (with_reducible refine Blk.by (by assumption) ?_))); done)); have k1 : Blk w1 (w.heap.size + 1) #[.int .i64 y.kind, .slice a' n2 c', .int .i64 y.wd, .int .i64 y.len] 46 := (by ((repeat (first | (with_reducible assumption) | (with_reducible refine Blk.drewN ?_ _) | (with_reducible refine Blk.drew ?_) | ((with_reducible refine Blk.new _ ?_); focus (first | omega | (simp; done) | (simp; omega))) | (with_reducible refine Blk.past ?_ _) | ((with_reducible refine Blk.apart ?_ _ _ _ ?_); rotate_left; focus (first | omega | (simp; done) | (simp; omega))) | (with_reducible refine Blk.by (by assumption) ?_))); done)); have c0 := k0.cell; have c1 := k1.cell)
          go_ret
          exact ⟨ret_bool (by rw [HB.out, HK.out]; have h1 := HL.out; have h2 := HK2.out; simp at h1 h2; simp [h1, h2]), (by ((repeat (first | (with_reducible exact Below.refl _ _) | (with_reducible refine below_drewN ?_ _) | (with_reducible refine Below.drew ?_) | (with_reducible refine below_al ?_ _) | (with_reducible refine below_on (by assumption) ?_) | ((with_reducible refine Below.setCell ?_ ?_ _); rotate_left; focus (first | omega | (simp; done) | (simp; omega))) | (with_reducible assumption))); done))⟩
        · have HL := Lib.hid hl
          have HK2 := Lib.hid hk2
          generalize curP x.pins = p at *
          generalize curQ x.pins = q at *
          generalize curP y.pins = p' at *
          generalize curQ y.pins = q' at *
          go_enter Try.func47, Try.ntmps47
          go_wp2_with (first | (go_at_call 93; refine (HS.out _ (HX.out.by (by ((repeat (first | (with_reducible exact Below.refl _ _) | (with_reducible refine below_drewN ?_ _) | (with_reducible refine Below.drew ?_) | (with_reducible refine below_al ?_ _) | (with_reducible refine below_on (by assumption) ?_) | ((with_reducible refine Below.setCell ?_ ?_ _); rotate_left; focus (first | omega | (simp; done) | (simp; omega))) | (with_reducible assumption))); done))) (HY.out.by (by ((repeat (first | (with_reducible exact Below.refl _ _) | (with_reducible refine below_drewN ?_ _) | (with_reducible refine Below.drew ?_) | (with_reducible refine below_al ?_ _) | (with_reducible refine below_on (by assumption) ?_) | ((with_reducible refine Below.setCell ?_ ?_ _); rotate_left; focus (first | omega | (simp; done) | (simp; omega))) | (with_reducible assumption))); done)))).mono ?_; rintro e w1 ⟨rfl, hb1⟩; have k0 : Blk w1 w.heap.size #[.int .i64 y.kind, .slice a n1 c, .int .i64 x.wd, .int .i64 x.len] 46 := (by ((repeat (first | (with_reducible assumption) | (with_reducible refine Blk.drewN ?_ _) | (with_reducible refine Blk.drew ?_) | ((with_reducible refine Blk.new _ ?_); focus (first | omega | (simp; done) | (simp; omega))) | (with_reducible refine Blk.past ?_ _) | ((with_reducible refine Blk.apart ?_ _ _ _ ?_); rotate_left; focus (first | omega | (simp; done) | (simp; omega))) | (with_reducible refine Blk.by (by assumption) ?_))); done)); have k1 : Blk w1 (w.heap.size + 1) #[.int .i64 y.kind, .slice a' n2 c', .int .i64 y.wd, .int .i64 y.len] 46 := (by ((repeat (first | (with_reducible assumption) | (with_reducible refine Blk.drewN ?_ _) | (with_reducible refine Blk.drew ?_) | ((with_reducible refine Blk.new _ ?_); focus (first | omega | (simp; done) | (simp; omega))) | (with_reducible refine Blk.past ?_ _) | ((with_reducible refine Blk.apart ?_ _ _ _ ?_); rotate_left; focus (first | omega | (simp; done) | (simp; omega))) | (with_reducible refine Blk.by (by assumption) ?_))); done)); have c0 := k0.cell; have c1 := k1.cell; have hW : Below w.heap.size w w1 := (by ((repeat (first | (with_reducible exact Below.refl _ _) | (with_reducible refine below_drewN ?_ _) | (with_reducible refine Below.drew ?_) | (with_reducible refine below_al ?_ _) | (with_reducible refine below_on (by assumption) ?_) | ((with_reducible refine Below.setCell ?_ ?_ _); rotate_left; focus (first | omega | (simp; done) | (simp; omega))) | (with_reducible assumption))); done))) | (go_at_call_of 95 (Value.slice a n1 c); refine (HCX.out _ (HX.out.by hW)).mono ?_; rintro e w2 ⟨rfl, hb2⟩; replace k1 := Blk.by hb2 k1; replace hW := below_on hb2 hW; clear c1 c0; have c1 := k1.cell) | (go_at_call 95; refine (HCY.out _ (HY.out.by hW)).mono ?_; rintro e w3 ⟨rfl, hb3⟩; replace hW := below_on hb3 hW))
          all_goals
            go_ret
            exact ⟨ret_bool (by rw [HB.out, HK.out]; have h0 := HSB.out; have h1 := HL.out; have h2 := HK2.out; simp at h1 h2; simp [HK.out, h2] at h0; rw [Bool.eq_iff_iff]; simp_all), hW⟩
      · have HK2 := Lib.hid hk2
        generalize curP x.pins = p at *
        generalize curQ x.pins = q at *
        generalize curP y.pins = p' at *
        generalize curQ y.pins = q' at *
        go_enter Try.func47, Try.ntmps47
        go_wp2_with (first | (go_at_call 93; refine (HS.out _ (HX.out.by (by ((repeat (first | (with_reducible exact Below.refl _ _) | (with_reducible refine below_drewN ?_ _) | (with_reducible refine Below.drew ?_) | (with_reducible refine below_al ?_ _) | (with_reducible refine below_on (by assumption) ?_) | ((with_reducible refine Below.setCell ?_ ?_ _); rotate_left; focus (first | omega | (simp; done) | (simp; omega))) | (with_reducible assumption))); done))) (HY.out.by (by ((repeat (first | (with_reducible exact Below.refl _ _) | (with_reducible refine below_drewN ?_ _) | (with_reducible refine Below.drew ?_) | (with_reducible refine below_al ?_ _) | (with_reducible refine below_on (by assumption) ?_) | ((with_reducible refine Below.setCell ?_ ?_ _); rotate_left; focus (first | omega | (simp; done) | (simp; omega))) | (with_reducible assumption))); done)))).mono ?_; rintro e w1 ⟨rfl, hb1⟩; have k0 : Blk w1 w.heap.size #[.int .i64 y.kind, .slice a n1 c, .int .i64 x.wd, .int .i64 x.len] 46 := (by ((repeat (first | (with_reducible assumption) | (with_reducible refine Blk.drewN ?_ _) | (with_reducible refine Blk.drew ?_) | ((with_reducible refine Blk.new _ ?_); focus (first | omega | (simp; done) | (simp; omega))) | (with_reducible refine Blk.past ?_ _) | ((with_reducible refine Blk.apart ?_ _ _ _ ?_); rotate_left; focus (first | omega | (simp; done) | (simp; omega))) | (with_reducible refine Blk.by (by assumption) ?_))); done)); have k1 : Blk w1 (w.heap.size + 1) #[.int .i64 y.kind, .slice a' n2 c', .int .i64 y.wd, .int .i64 y.len] 46 := (by ((repeat (first | (with_reducible assumption) | (with_reducible refine Blk.drewN ?_ _) | (with_reducible refine Blk.drew ?_) | ((with_reducible refine Blk.new _ ?_); focus (first | omega | (simp; done) | (simp; omega))) | (with_reducible refine Blk.past ?_ _) | ((with_reducible refine Blk.apart ?_ _ _ _ ?_); rotate_left; focus (first | omega | (simp; done) | (simp; omega))) | (with_reducible refine Blk.by (by assumption) ?_))); done)); have c0 := k0.cell; have c1 := k1.cell; have hW : Below w.heap.size w w1 := (by ((repeat (first | (with_reducible exact Below.refl _ _) | (with_reducible refine below_drewN ?_ _) | (with_reducible refine Below.drew ?_) | (with_reducible refine below_al ?_ _) | (with_reducible refine below_on (by assumption) ?_) | ((with_reducible refine Below.setCell ?_ ?_ _); rotate_left; focus (first | omega | (simp; done) | (simp; omega))) | (with_reducible assumption))); done))) | (go_at_call_of 95 (Value.slice a n1 c); refine (HCX.out _ (HX.out.by hW)).mono ?_; rintro e w2 ⟨rfl, hb2⟩; replace k1 := Blk.by hb2 k1; replace hW := below_on hb2 hW; clear c1 c0; have c1 := k1.cell) | (go_at_call 95; refine (HCY.out _ (HY.out.by hW)).mono ?_; rintro e w3 ⟨rfl, hb3⟩; replace hW := below_on hb3 hW))
        all_goals
          go_ret
          exact ⟨ret_bool (by rw [HB.out, HK.out]; have h2 := HK2.out; simp at h2; rw [Bool.eq_iff_iff]; simp_all), hW⟩
    · subst hsg
      go_enter Try.func47, Try.ntmps47
      go_wp2_with (go_at_call 93; refine (HS.out _ (HX.out.by (by ((repeat (first | (with_reducible exact Below.refl _ _) | (with_reducible refine below_drewN ?_ _) | (with_reducible refine Below.drew ?_) | (with_reducible refine below_al ?_ _) | (with_reducible refine below_on (by assumption) ?_) | ((with_reducible refine Below.setCell ?_ ?_ _); rotate_left; focus (first | omega | (simp; done) | (simp; omega))) | (with_reducible assumption))); done))) (HY.out.by (by ((repeat (first | (with_reducible exact Below.refl _ _) | (with_reducible refine below_drewN ?_ _) | (with_reducible refine Below.drew ?_) | (with_reducible refine below_al ?_ _) | (with_reducible refine below_on (by assumption) ?_) | ((with_reducible refine Below.setCell ?_ ?_ _); rotate_left; focus (first | omega | (simp; done) | (simp; omega))) | (with_reducible assumption))); done)))).mono ?_; rintro e w1 ⟨rfl, hb1⟩)
      go_ret
      exact ⟨ret_bool (by have h0 := HSB.out; simp at h0; rw [HB.out]; simp [h0]), (by ((repeat (first | (with_reducible exact Below.refl _ _) | (with_reducible refine below_drewN ?_ _) | (with_reducible refine Below.drew ?_) | (with_reducible refine below_al ?_ _) | (with_reducible refine below_on (by assumption) ?_) | ((with_reducible refine Below.setCell ?_ ?_ _); rotate_left; focus (first | omega | (simp; done) | (simp; omega))) | (with_reducible assumption))); done))⟩
  · have hk' : (x.kind != y.kind) = true := by simpa using hk
    have HK := Lib.hid hk
    clear hk
    go_enter Try.func47, Try.ntmps47
    go_wp2
    go_ret
    exact ⟨ret_bool (by rw [HB.out]; simp [HK.out]), (by ((repeat (first | (with_reducible exact Below.refl _ _) | (with_reducible refine below_drewN ?_ _) | (with_reducible refine Below.drew ?_) | (with_reducible refine below_al ?_ _) | (with_reducible refine below_on (by assumption) ?_) | ((with_reducible refine Below.setCell ?_ ?_ _); rotate_left; focus (first | omega | (simp; done) | (simp; omega))) | (with_reducible assumption))); done))⟩
end Go.Proofs.Ytnchhdhlhlcejaa
